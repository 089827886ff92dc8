/- (*parser).term: the term that a text begins with; it gives up at any other text. -/
import Derived.Test.YtjcdpmoabkfchaaDoorMList
import Derived.IntWalk
import Derived.Deep.RegionLaw
import Derived.Test.YtjcdpmoabkfchaaDoorMWordsW
import Derived.Deep.RegionWith
import Derived.Deep.RegionHeldLaw
set_option linter.unusedSimpArgs false
set_option linter.unusedVariables false
namespace Go.Proofs.YtjcdpmoabkfchaaDoor
open Go.RowKit Go.Lib Go.Proofs.YtjcdpmoabkfchaaDoorW.PrintWords Go.Proofs.YtjcdpmoabkfchaaDoor.PTermMatchesReference

/-- So many more kids behind those that are there, the closing parenthesis, and what is left. -/
def pk (f : List UInt8 → Option (S24 × List UInt8)) (op x y : Int) : Nat → List S24 → List UInt8 → Option (S24 × List UInt8)
  | 0, ks, l => if tok l = [41] then some (⟨op, x, y, ks⟩, rest l) else none
  | k + 1, ks, l => match f l with
    | none => none
    | some (t, r) => pk f op x y k (ks ++ [t]) r
/-- So many more numbers, the j-th first, the kids, and what is left. -/
def pn (f : List UInt8 → Option (S24 × List UInt8)) (op : Int) (kids : Nat) : Nat → Nat → Int → Int → List UInt8 → Option (S24 × List UInt8)
  | 0, _, x, y, l => pk f op x y kids [] l
  | k + 1, j, x, y, l => match num? (tok l) with
    | none => none
    | some v => pn f op kids k (j + 1) (if j = 0 then v else x) (if j = 0 then y else v) (rest l)
/-- A term of at most so great a depth, and what is left. -/
def pterm : Nat → List UInt8 → Option (S24 × List UInt8)
  | 0, _ => none
  | n + 1, l => if tok l = [40] then match opOf (tok (rest l)) with
      | none => none
      | some op => pn (pterm n) op (shpD op).kids.length (shpD op).numbers 0 0 0 (rest (rest l))
    else none

theorem dummyAny {G : Prop} (w0 : World) (hG : G) (h : wpAny Tryd.prog .any #[] (fun _ _ _ => True) 0 #[] ⟨#[], []⟩ w0) : G := hG
theorem blk_alloc {w : World} {k : Nat} {o o' : Obj} (h : w.heap[k]? = some o) : (w.alloc o').heap[k]? = some o := below_blk ((Below.refl _ _).alloc (Nat.le_refl _) _) h

/-- What stands while the parser's term is at work. -/
structure TI (g g4 g7 g8 : Nat) (w : World) (s : Shape) (A5 : Option Addr) (c5 : Nat) (op x y : Int) (v : Value) (l : List UInt8) (wx : World) : Prop where
  fr : Fr g w wx
  inp : wx.heap[g]? = some (.cells #[Sv l] 59 (0, 0))
  c4 : wx.heap[g4]? = some (.cells #[.int .i64 0, .int .i64 0, .int .i64 0, .slice none 0 0] 24 (0, 0))
  c7 : wx.heap[g7]? = some (.cells #[.int .i64 op, .int .i64 x, .int .i64 y, v] 24 (0, 0))
  c8 : wx.heap[g8]? = some (.cells #[.string ⟨s.word.toArray⟩, .int .i64 (s.numbers : Int), .slice A5 s.kids.length c5, .int .i64 s.sort] 70 (0, 0))
/-- The blocks are apart. -/
structure TB (g g4 g7 g8 : Nat) (w : World) : Prop where
  g4g : g4 ≠ g
  g7g : g7 ≠ g
  g8g : g8 ≠ g
  g74 : g7 ≠ g4
  g78 : g7 ≠ g8
  lo4 : w.heap.size ≤ g4
  lo7 : w.heap.size ≤ g7
section
variable {g g4 g7 g8 : Nat} {w : World} {s : Shape} {A5 : Option Addr} {c5 : Nat} {op x y : Int} {v : Value} {l l' : List UInt8} {wx wy : World}
theorem TI.below (h : TI g g4 g7 g8 w s A5 c5 op x y v l wx) (hb : Below wx.heap.size wx wy) : TI g g4 g7 g8 w s A5 c5 op x y v l wy :=
  ⟨h.fr.below hb, below_blk hb h.inp, below_blk hb h.c4, below_blk hb h.c7, below_blk hb h.c8⟩
theorem TI.alloc (h : TI g g4 g7 g8 w s A5 c5 op x y v l wx) (o : Obj) : TI g g4 g7 g8 w s A5 c5 op x y v l (wx.alloc o) := h.below ((Below.refl _ _).alloc (Nat.le_refl _) _)
theorem TI.drew (h : TI g g4 g7 g8 w s A5 c5 op x y v l wx) : TI g g4 g7 g8 w s A5 c5 op x y v l wx.drew := h.below (Below.refl _ _).drew
theorem TI.call (h : TI g g4 g7 g8 w s A5 c5 op x y v l wx) (hB : TB g g4 g7 g8 w) (hf : Fr g wx wy) (hi : wy.heap[g]? = some (.cells #[Sv l'] 59 (0, 0))) : TI g g4 g7 g8 w s A5 c5 op x y v l' wy :=
  ⟨h.fr.trans hf, hi, hf.blk h.c4 hB.g4g, hf.blk h.c7 hB.g7g, hf.blk h.c8 hB.g8g⟩
theorem TI.grown (h : TI g g4 g7 g8 w s A5 c5 op x y v l wx) (hB : TB g g4 g7 g8 w) {row : Option Nat} {base : Nat} (hg : wx.grownBy wy row) (hr : ∀ k, row = some k → base ≤ k) (h1 : g < base) (h2 : g4 < base) (h3 : g7 < base) (h4 : g8 < base) (h5 : w.heap.size ≤ base) : TI g g4 g7 g8 w s A5 c5 op x y v l wy := by
  have hb : ∀ k o, wx.heap[k]? = some o → k < base → wy.heap[k]? = some o := fun k o hk hlt => (hg.block k (blk_lt' hk) (fun he => by have := hr k he.symm; omega)).trans hk
  exact ⟨⟨hg.os.trans h.fr.os, hg.tape.trans h.fr.tape, hg.output.trans h.fr.output, Nat.le_trans h.fr.size hg.size, fun k hk hkg => (hg.block k (Nat.lt_of_lt_of_le hk h.fr.size) (fun he => by have := hr k he.symm; omega)).trans (h.fr.block k hk hkg)⟩, hb _ _ h.inp h1, hb _ _ h.c4 h2, hb _ _ h.c7 h3, hb _ _ h.c8 h4⟩
theorem TI.put (h : TI g g4 g7 g8 w s A5 c5 op x y v l wx) (hB : TB g g4 g7 g8 w) (j : Nat) (u : Value) {x' y' : Int} {v' : Value} (hc : (#[.int .i64 op, .int .i64 x, .int .i64 y, v] : Array Value).setIfInBounds j u = #[.int .i64 op, .int .i64 x', .int .i64 y', v']) :
    TI g g4 g7 g8 w s A5 c5 op x' y' v' l (wx.setCell ⟨g7, j, none⟩ u) := by
  refine ⟨h.fr.setNew (p := ⟨g7, j, none⟩) (by have := hB.lo7; exact this) _, ?_, ?_, ?_, ?_⟩
  · exact (Below.heap_setCell wx ⟨g7, j, none⟩ u g hB.g7g.symm).trans h.inp
  · exact (Below.heap_setCell wx ⟨g7, j, none⟩ u g4 hB.g74.symm).trans h.c4
  · simp [World.setCell, Array.getElem?_modify, h.c7, ← hc, Array.setIfInBounds]
  · exact (Below.heap_setCell wx ⟨g7, j, none⟩ u g8 hB.g78.symm).trans h.c8
end

/-- What a call of the parser's term ends with. -/
def TermEnd (g : Nat) (w : World) (r : Option (S24 × List UInt8)) (e : Ending) (w' : World) : Prop :=
  Fr g w w' ∧ match r with
    | none => e = gaveUp
    | some (t, q) => ∃ v, e = .returned (.agg #[.int .i64 t.f0, .int .i64 t.f1, .int .i64 t.f2, v]) ∧ w'.heap[g]? = some (.cells #[Sv q] 59 (0, 0)) ∧ Kd.R k24 24 w' w.heap.size (fun _ => True) v t.f3 ∧ q.length ≤ 1000000

theorem TI.far {g g4 g7 g8 : Nat} {w : World} {s : Shape} {A5 : Option Addr} {c5 : Nat} {op x y : Int} {v : Value} {l : List UInt8} {wx : World} (h : TI g g4 g7 g8 w s A5 c5 op x y v l wx) {p : Addr} {base : Nat} (hp : base ≤ p.block) (h1 : g < base) (h2 : g4 < base) (h3 : g7 < base) (h4 : g8 < base) (h5 : w.heap.size ≤ base) (u : Value) : TI g g4 g7 g8 w s A5 c5 op x y v l (wx.setCell p u) :=
  ⟨h.fr.setNew (Nat.le_trans h5 hp) u, (Below.heap_setCell wx p u g (by omega)).trans h.inp, (Below.heap_setCell wx p u g4 (by omega)).trans h.c4, (Below.heap_setCell wx p u g7 (by omega)).trans h.c7, (Below.heap_setCell wx p u g8 (by omega)).trans h.c8⟩
section
variable {g g4 g7 g8 g' k cap base ct c5 : Nat} {w w8 : World} {s : Shape} {A5 At : Option Addr} {op x y : Int} {v : Value} {l : List UInt8} {ks : List S24} {t : S24}
theorem end_one (HB : TB g g4 g7 g8 w) (HI : TI g g4 g7 g8 w s A5 c5 op x y v l w8) (hR : KR w8 base (.slice (some ⟨g', 0, none⟩) (k + 1) cap) (ks ++ [z24])) (hT : Kd.R k24 24 w8 base (fun q => some q ≠ (Value.slice (some ⟨g', 0, none⟩) (k + 1) cap).ownBlock) (.slice At t.f3.length ct) t.f3)
    (hk : ks.length = k) (hb : base ≤ g') (h1 : g < base) (h2 : g4 < base) (h3 : g7 < base) (h4 : g8 < base) (h5 : w.heap.size ≤ base) :
    TI g g4 g7 g8 w s A5 c5 op x y (.slice (some ⟨g', 0, none⟩) (k + 1) cap) l (((((w8.setCell ⟨g', k * 4, none⟩ (.int .i64 t.f0)).setCell ⟨g', k * 4 + 1, none⟩ (.int .i64 t.f1)).setCell ⟨g', k * 4 + 2, none⟩ (.int .i64 t.f2)).setCell ⟨g', k * 4 + 3, none⟩ (.slice At t.f3.length ct)).setCell ⟨g7, 3, none⟩ (.slice (some ⟨g', 0, none⟩) (k + 1) cap)) ∧
    KR (((((w8.setCell ⟨g', k * 4, none⟩ (.int .i64 t.f0)).setCell ⟨g', k * 4 + 1, none⟩ (.int .i64 t.f1)).setCell ⟨g', k * 4 + 2, none⟩ (.int .i64 t.f2)).setCell ⟨g', k * 4 + 3, none⟩ (.slice At t.f3.length ct)).setCell ⟨g7, 3, none⟩ (.slice (some ⟨g', 0, none⟩) (k + 1) cap)) base (.slice (some ⟨g', 0, none⟩) (k + 1) cap) (ks ++ [t]) ∧ base ≤ (((((w8.setCell ⟨g', k * 4, none⟩ (.int .i64 t.f0)).setCell ⟨g', k * 4 + 1, none⟩ (.int .i64 t.f1)).setCell ⟨g', k * 4 + 2, none⟩ (.int .i64 t.f2)).setCell ⟨g', k * 4 + 3, none⟩ (.slice At t.f3.length ct)).setCell ⟨g7, 3, none⟩ (.slice (some ⟨g', 0, none⟩) (k + 1) cap)).heap.size := by
  subst hk
  have hT' : Kd.R k24 24 w8 base (fun q => q ≠ g') (.slice At t.f3.length ct) t.f3 := Kd.R_mono hT (fun q hq he => hq (by rw [he]; simp [Value.ownBlock]))
  refine ⟨TI.put (v := v) ?_ HB 3 _ rfl, kr_far (kr_put hR rfl hT') (p := ⟨g7, 3, none⟩) h3 _, Nat.le_of_lt (Nat.lt_of_le_of_lt hb (Kd.R_lt (kr_far (kr_put hR rfl hT') (p := ⟨g7, 3, none⟩) h3 _) g' (by simp [Value.ownBlock])))⟩
  exact TI.far (TI.far (TI.far (TI.far HI (p := ⟨g', ks.length * 4, none⟩) hb h1 h2 h3 h4 h5 _) (p := ⟨g', ks.length * 4 + 1, none⟩) hb h1 h2 h3 h4 h5 _) (p := ⟨g', ks.length * 4 + 2, none⟩) hb h1 h2 h3 h4 h5 _) (p := ⟨g', ks.length * 4 + 3, none⟩) hb h1 h2 h3 h4 h5 _
theorem end_two (HB : TB g g4 g7 g8 w) (HI : TI g g4 g7 g8 w s A5 c5 op x y v l w8) (hR : KR w8 base (.slice (some ⟨g', 0, none⟩) (k + 1) cap) (ks ++ [z24])) (hT : Kd.R k24 24 w8 base (fun q => some q ≠ (Value.slice (some ⟨g', 0, none⟩) (k + 1) cap).ownBlock) (.slice At t.f3.length ct) t.f3)
    (hk : ks.length = k) (hb : base ≤ g') (h1 : g < base) (h2 : g4 < base) (h3 : g7 < base) (h4 : g8 < base) (h5 : w.heap.size ≤ base) :
    TI g g4 g7 g8 w s A5 c5 op x y (.slice (some ⟨g', 0, none⟩) (k + 1) cap) l (((((w8.setCell ⟨g7, 3, none⟩ (.slice (some ⟨g', 0, none⟩) (k + 1) cap)).setCell ⟨g', k * 4, none⟩ (.int .i64 t.f0)).setCell ⟨g', k * 4 + 1, none⟩ (.int .i64 t.f1)).setCell ⟨g', k * 4 + 2, none⟩ (.int .i64 t.f2)).setCell ⟨g', k * 4 + 3, none⟩ (.slice At t.f3.length ct)) ∧
    KR (((((w8.setCell ⟨g7, 3, none⟩ (.slice (some ⟨g', 0, none⟩) (k + 1) cap)).setCell ⟨g', k * 4, none⟩ (.int .i64 t.f0)).setCell ⟨g', k * 4 + 1, none⟩ (.int .i64 t.f1)).setCell ⟨g', k * 4 + 2, none⟩ (.int .i64 t.f2)).setCell ⟨g', k * 4 + 3, none⟩ (.slice At t.f3.length ct)) base (.slice (some ⟨g', 0, none⟩) (k + 1) cap) (ks ++ [t]) ∧ base ≤ (((((w8.setCell ⟨g7, 3, none⟩ (.slice (some ⟨g', 0, none⟩) (k + 1) cap)).setCell ⟨g', k * 4, none⟩ (.int .i64 t.f0)).setCell ⟨g', k * 4 + 1, none⟩ (.int .i64 t.f1)).setCell ⟨g', k * 4 + 2, none⟩ (.int .i64 t.f2)).setCell ⟨g', k * 4 + 3, none⟩ (.slice At t.f3.length ct)).heap.size := by
  subst hk
  have hT' : Kd.R k24 24 (w8.setCell ⟨g7, 3, none⟩ (.slice (some ⟨g', 0, none⟩) (ks.length + 1) cap)) base (fun q => q ≠ g') (.slice At t.f3.length ct) t.f3 :=
    Kd.R_mono (Kd.R_far (p := ⟨g7, 3, none⟩) (Kd.R_bound hT) (fun k hk => (show k ≠ g7 by have := hk.2.1; omega)) _) (fun q hq he => hq.1 (by rw [he]; simp [Value.ownBlock]))
  refine ⟨?_, kr_put (kr_far hR (p := ⟨g7, 3, none⟩) h3 _) rfl hT', Nat.le_of_lt (Nat.lt_of_le_of_lt hb (Kd.R_lt (kr_put (kr_far hR (p := ⟨g7, 3, none⟩) h3 _) rfl hT') g' (by simp [Value.ownBlock])))⟩
  exact TI.far (TI.far (TI.far (TI.far (TI.put HI HB 3 _ rfl) (p := ⟨g', ks.length * 4, none⟩) hb h1 h2 h3 h4 h5 _) (p := ⟨g', ks.length * 4 + 1, none⟩) hb h1 h2 h3 h4 h5 _) (p := ⟨g', ks.length * 4 + 2, none⟩) hb h1 h2 h3 h4 h5 _) (p := ⟨g', ks.length * 4 + 3, none⟩) hb h1 h2 h3 h4 h5 _
end
theorem inf24 : (Tryd.prog.info? 24).map (fun i => (i.zero, i.size, i.bytes)) = some (some (.agg #[.int .i64 0, .int .i64 0, .int .i64 0, .slice none 0 0]), 4, 48) := by kernel_rfl
section
variable {ops : Array Oper} {o : Oper} {a : Act} {Q : Exit → Act → World → Prop} {Kc : Act → World → Prop}
/-- The append of a zero term, as a step of a region that draws its order. -/
theorem append_zero_step {W : World} {E : Prop} (hgd : o.guard = none) (ho : o.op = .call { callee := .builtin .append, args := #[.tmp 53, .tmp 59], argTypes := #[22, 22] }) (v : Value) (ks : List S24) (k gz base : Nat)
    (hs : a.eval (.tmp 53) = v) (hx : a.eval (.tmp 59) = .slice (some ⟨gz, 0, none⟩) 1 1) (HO : KR W base v ks) (hz : W.heap[gz]? = some (.cells #[.int .i64 0, .int .i64 0, .int .i64 0, .slice none 0 0] 24 (0, 0))) (hbase : base ≤ W.heap.size) (hk : ks.length = k) (hk2 : k ≤ 2)
    (h : ∀ g' cap w1, KR w1 base (.slice (some ⟨g', 0, none⟩) (k + 1) cap) (ks ++ [z24]) → base ≤ g' → W.grownBy w1 v.ownBlock → ((Value.slice (some ⟨g', 0, none⟩) (k + 1) cap).ownBlock = v.ownBlock ∨ ∃ b, (Value.slice (some ⟨g', 0, none⟩) (k + 1) cap).ownBlock = some b ∧ W.heap.size ≤ b) → Kc (a.put o.dst (.slice (some ⟨g', 0, none⟩) (k + 1) cap)) w1) :
    if Region.wanted o (yielded ops a.tmps) = true then Oper.wp Tryd.prog o a W Kc Q else E := by
  subst hk
  have hw : Region.wanted o (yielded ops a.tmps) = true := by simp [Region.wanted, hgd]
  rw [if_pos hw]
  refine (fun (h : if Region.wanted o (yielded ops a.tmps) = true then Oper.wp Tryd.prog o a W Kc Q else Kc (a.put o.dst undef) W) => by rwa [if_pos hw] at h) ?_
  refine Kd.R_append_rows_step k24 (w0 := W) base hw (.tmp 53) (.tmp 59) 22 24 (.agg #[.int .i64 0, .int .i64 0, .int .i64 0, .slice none 0 0]) 48 ho Tryd.underlying22 inf24 rfl (by decide) (by omega) v ks [z24] (some ⟨gz, 0, none⟩) 1 1 (fun _ => True) (fun _ => False) hs hx HO (zero_row hz)
    (fun x cs h => by obtain ⟨rfl, rfl⟩ := h; exact kr_zero _ _) (fun _ h => h.elim) (fun _ _ => trivial) (Below.refl _ _) hbase (by omega) ?_
  intro v1 w1 hR _ hg hat
  obtain ⟨g', cap, rfl, hb, _, _⟩ := Kd.R_form hR (by simp)
  rw [List.length_append] at hR hat ⊢
  exact h g' cap w1 hR hb hg hat
end

set_option maxHeartbeats 40000000 in
set_option maxRecDepth 100000 in
theorem term_step (n : Nat) (B g : Nat) (hBg : B ≤ g) (ih : ∀ m, m + 1 = n → ∀ (d : Int), d + m = 7 → ∀ (l : List UInt8), l.length ≤ 1000000 → ∀ (w : World), Gd B w → w.heap[g]? = some (.cells #[Sv l] 59 (0, 0)) →
      Calls Tryd.prog 27 #[.pointer (some ⟨g, 0, none⟩), .int .i64 d] w (TermEnd g w (pterm m l)))
    (d : Int) (hd : d + n = 7) (hn : n ≤ 6) (l : List UInt8) (hl : l.length ≤ 1000000) (w : World) (hD : Gd B w) (hg : w.heap[g]? = some (.cells #[Sv l] 59 (0, 0))) :
      Calls Tryd.prog 27 #[.pointer (some ⟨g, 0, none⟩), .int .i64 d] w (TermEnd g w (pterm n l)) := by
  have HD := Lib.hid hD
  have HG := Lib.hid hg
  have hgw : g < w.heap.size := blk_lt' hg
  clear hD hg
  obtain ⟨R, hR⟩ : ∃ R, pterm n l = R := ⟨_, rfl⟩
  have HR := Lib.hid hR
  rw [hR]
  clear hR
  go_enter Tryd.func27, Tryd.ntmps27
  go_wp2_with fail
  have hab : Below w.heap.size w (w.alloc (.cells #[.int .i64 0, .int .i64 0, .int .i64 0, .slice none 0 0] 24)) := (Below.refl _ _).alloc (Nat.le_refl _) _
  have HF1 := Lib.hid (Fr.of_below g hab)
  have HG1 := Lib.hid (below_blk hab HG.out)
  have H41 := Lib.hid (heap_alloc_new w (.cells #[.int .i64 0, .int .i64 0, .int .i64 0, .slice none 0 0] 24))
  have h4g : w.heap.size ≠ g := by omega
  clear hab HG
  generalize w.alloc (.cells #[.int .i64 0, .int .i64 0, .int .i64 0, .slice none 0 0] 24) = w1 at *
  obtain ⟨g4, hg4⟩ : ∃ g4, w.heap.size = g4 := ⟨_, rfl⟩
  rw [hg4] at H41 h4g
  rw [hg4]
  by_cases ht : tok l = [40]
  · refine (want_ok g l [40] hl _ HG1.out ht).mono ?_
    rintro e w2 ⟨rfl, hg2, hf2⟩
    have HF2 := Lib.hid (HF1.out.trans hf2)
    have HG2 := Lib.hid hg2
    have H42 := Lib.hid (hf2.blk H41.out h4g)
    have HT := Lib.hid ht
    have hl2 := rest_length l
    clear HF1 HG1 H41 hf2 hg2 ht
    go_wp2_with fail
    refine (words_calls _).mono ?_
    rintro e w3 ⟨m, rfl, hW, hb3⟩
    have HF3 := Lib.hid (HF2.out.below hb3)
    have HG3 := Lib.hid (below_blk hb3 HG2.out)
    have H43 := Lib.hid (below_blk hb3 H42.out)
    have HW := Lib.hid hW
    clear HF2 HG2 H42 hb3 hW
    go_wp2_with fail
    refine (next_calls g (rest l) (by omega) _ HG3.out).mono ?_
    rintro e w4 ⟨rfl, hg4', hf4⟩
    have hmg : m ≠ g := by
      rintro rfl
      obtain ⟨es, c, seen, hm, _⟩ := HW.out
      rw [HG3.out] at hm
      cases hm
    have hW4 : WordsAt w4 m := by
      obtain ⟨es, c, seen, hm, h2⟩ := HW.out
      exact ⟨es, c, seen, hf4.blk hm hmg, h2⟩
    have HF4 := Lib.hid (HF3.out.trans hf4)
    have HG4 := Lib.hid hg4'
    have H44 := Lib.hid (hf4.blk H43.out h4g)
    have hl4 := rest_length (rest l)
    have hlk := lookup_word hW4 (tok (rest l))
    obtain ⟨oo, hoo⟩ : ∃ oo, opOf (tok (rest l)) = oo := ⟨_, rfl⟩
    rw [hoo] at hlk
    have HO := Lib.hid hoo
    clear HF3 HG3 H43 HW hf4 hg4' hW4 hoo hmg
    cases oo with
    | none =>
      have HRN := Lib.hid (show R = none by
        rw [← HR.out]
        cases n with
        | zero => rfl
        | succ n => rw [pterm, if_pos HT.out, HO.out])
      replace hlk : (Instr.lookup 80 (.map (some m)) (Sv (tok (rest l))) true).run Tryd.prog w4 = .ok (.tuple #[.int .i64 0, .bool false]) w4 := hlk
      clear HR
      go_wp2
      rw [HRN.out]
      exact ⟨rfl, HF4.out, rfl⟩
    | some op =>
      replace hlk : (Instr.lookup 80 (.map (some m)) (Sv (tok (rest l))) true).run Tryd.prog w4 = .ok (.tuple #[.int .i64 op, .bool true]) w4 := hlk
      cases n with
      | zero =>
        obtain rfl : d = 7 := by omega
        go_wp2
        rw [← HR.out]
        exact ⟨rfl, HF4.out, rfl⟩
      | succ n =>
        have IH := Lib.hid (ih n rfl)
        clear ih
        have hd6 : d ≤ 6 := by omega
        obtain ⟨s, hs⟩ : ∃ s, shpD op = s := ⟨_, rfl⟩
        have HS := Lib.hid hs
        have HLK := Lib.hid (fun (W : World) B (h : ShapesAt W B) => lookup_any h op)
        rw [hs] at HLK
        clear hs
        go_wp2_with fail
        clear hlk
        refine (shapes_calls w4).mono ?_
        rintro e w5 ⟨Bm, rfl, hS, hBB, hb5⟩
        obtain ⟨A5, c5, hlk5, hk5, hc5⟩ := HLK.out _ _ hS
        have HF5 := Lib.hid (HF4.out.below hb5)
        have HG5 := Lib.hid (below_blk hb5 HG4.out)
        have H45 := Lib.hid (below_blk hb5 H44.out)
        have hl5 := (hlk5 w5 (Below.refl _ _)).2
        clear HF4 HG4 H44 hb5 hS hBB hlk5 HLK
        have g45 : g4 < w5.heap.size := blk_lt' H45.out
        have hg5w : g < w5.heap.size := blk_lt' HG5.out
        have hw5 := HF5.out.size
        have HTB := Lib.hid (show TB g g4 w5.heap.size (w5.heap.size + 1) w from ⟨h4g, by omega, by omega, by omega, by omega, by omega, by omega⟩)
        have HI0 := Lib.hid (show TI g g4 w5.heap.size (w5.heap.size + 1) w s A5 c5 op 0 0 (.slice none 0 0) (rest (rest l)) ((w5.alloc (.cells #[.int .i64 op, .int .i64 0, .int .i64 0, .slice none 0 0] 24)).alloc (.cells #[.string ⟨s.word.toArray⟩, .int .i64 (s.numbers : Int), .slice A5 s.kids.length c5, .int .i64 s.sort] 70)) from
          ⟨(HF5.out.alloc _).alloc _, blk_alloc (blk_alloc HG5.out), blk_alloc (blk_alloc H45.out), blk_alloc (heap_alloc_new _ _), by
            have := heap_alloc_new (w5.alloc (.cells #[.int .i64 op, .int .i64 0, .int .i64 0, .slice none 0 0] 24)) (.cells #[.string ⟨s.word.toArray⟩, .int .i64 (s.numbers : Int), .slice A5 s.kids.length c5, .int .i64 s.sort] 70)
            simpa using this⟩)
        have HK0 := Lib.hid (show KidsAt ((w5.alloc (.cells #[.int .i64 op, .int .i64 0, .int .i64 0, .slice none 0 0] 24)).alloc (.cells #[.string ⟨s.word.toArray⟩, .int .i64 (s.numbers : Int), .slice A5 s.kids.length c5, .int .i64 s.sort] 70)) A5 s.kids from
          (hk5.below ((Below.refl _ _).alloc (Nat.le_refl _) _)).below ((Below.refl _ _).alloc (Nat.le_refl _) _))
        have HP0 := Lib.hid (show pn (pterm n) op s.kids.length (s.numbers - 0) 0 0 0 (rest (rest l)) = R by
          rw [← HR.out]
          simp only [pterm, HT.out, if_true, HO.out, HS.out, Nat.sub_zero])
        have hnn := nums_le HS.out
        have hnn1 : (0 : Int) ≤ (s.numbers : Int) := by omega
        go_wp2_with fail
        clear HF5 HG5 H45 hl5 HR HT HO
        generalize (w5.alloc (.cells #[.int .i64 op, .int .i64 0, .int .i64 0, .slice none 0 0] 24)).alloc (.cells #[.string ⟨s.word.toArray⟩, .int .i64 (s.numbers : Int), .slice A5 s.kids.length c5, .int .i64 s.sort] 70) = w6 at *
        generalize w5.heap.size + 1 = g8 at *
        generalize w5.heap.size = g7 at *
        have hll : (rest (rest l)).length ≤ 1000000 := by omega
        go_loopg [9, 34] s.numbers (fun gk v9 v34 wx => ∃ (j : Nat) (x y : Int) (lj : List UInt8), j + gk = s.numbers ∧ v34 = .int .i64 j ∧ lj.length ≤ 1000000 ∧ (j ≤ 1 → y = 0) ∧ (j = 0 → x = 0) ∧ Hid (TI g g4 g7 g8 w s A5 c5 op x y (.slice none 0 0) lj wx) ∧ Hid (pn (pterm n) op s.kids.length (s.numbers - j) j x y lj = R))
        case atStart => exact ⟨0, 0, 0, rest (rest l), by omega, rfl, hll, fun _ => rfl, fun _ => rfl, HI0, HP0⟩
        case round =>
          clear HI0 HP0
          obtain ⟨j, x, y, lj, hjg, rfl, hlj, hy0, hx0, HI, HP⟩ := hrel
          by_cases hj : j < s.numbers
          · cases gk with
            | zero => omega
            | succ gk =>
              have hj01 : j = 0 ∨ j = 1 := by omega
              rcases hj01 with rfl | rfl
              · obtain rfl : y = 0 := hy0 (by omega)
                have hnum : num? (tok lj) = none ∨ ∃ u, num? (tok lj) = some u := by
                  cases num? (tok lj) with
                  | none => exact .inl rfl
                  | some u => exact .inr ⟨u, rfl⟩
                have m1 : decide ((0 : Int) < (s.numbers : Int)) = true := decide_eq_true (by omega)
                rcases hnum with hno | ⟨u, hu⟩
                · have HNO := Lib.hid hno
                  have HRN := Lib.hid (show R = none by
                    rw [← HP.out]
                    obtain ⟨q, hq⟩ : ∃ q, s.numbers - 0 = q + 1 := ⟨s.numbers - 0 - 1, by omega⟩
                    rw [hq, pn, hno])
                  clear hno HP
                  have HIw := Lib.hid HI.out.drew
                  have HIz := Lib.hid (HI.out.alloc (.cells #[.pointer (some ⟨g7, 1, none⟩), .pointer (some ⟨g7, 2, none⟩)] 83)).drew
                  go_wp2_with fail
                  have HDw := Lib.hid (HD.out.fr HIw.out.fr hBg)
                  have HDz := Lib.hid (HD.out.fr HIz.out.fr hBg)
                  go_region_with (first
                    | (go_at_call 43; (with_reducible refine (number_no g hBg lj hlj wr.drew HDw.out HIw.out.inp HNO.out).mono ?_); rintro e w7 ⟨rfl, hf7⟩; refine dummyAny w ?_ ?_; focus (rw [HRN.out]; exact ⟨rfl, HIw.out.fr.trans hf7, rfl⟩))
                    | (go_at_call 43; (with_reducible refine (number_no g hBg lj hlj (wr.alloc (.cells #[.pointer (some ⟨g7, 1, none⟩), .pointer (some ⟨g7, 2, none⟩)] 83)).drew HDz.out HIz.out.inp HNO.out).mono ?_); rintro e w7 ⟨rfl, hf7⟩; refine dummyAny w ?_ ?_; focus (rw [HRN.out]; exact ⟨rfl, HIz.out.fr.trans hf7, rfl⟩)))
                  all_goals trivial
                · have HU := Lib.hid hu
                  have HP2 := Lib.hid (show pn (pterm n) op s.kids.length (s.numbers - 1) 1 u 0 (rest lj) = R by
                    rw [← HP.out]
                    obtain ⟨q, hq⟩ : ∃ q, s.numbers - 0 = q + 1 := ⟨s.numbers - 0 - 1, by omega⟩
                    rw [hq, show s.numbers - 1 = q by omega]
                    simp [pn, hu, Nat.zero_add])
                  have hl2 := rest_length lj
                  clear hu HP
                  obtain ⟨z0, z1, z2, z3⟩ := cells70 HI.out.c7
                  obtain ⟨y0, y1, y2, y3⟩ := frozen70 HI.out.c7
                  have HIw := Lib.hid HI.out.drew
                  have HIz := Lib.hid (HI.out.alloc (.cells #[.pointer (some ⟨g7, 1, none⟩), .pointer (some ⟨g7, 2, none⟩)] 83)).drew
                  have HZ := Lib.hid (show (wr.alloc (.cells #[.pointer (some ⟨g7, 1, none⟩), .pointer (some ⟨g7, 2, none⟩)] 83)).drew.heap[wr.heap.size]? = some (.cells #[.pointer (some ⟨g7, 1, none⟩), .pointer (some ⟨g7, 2, none⟩)] 83 (0, 0)) from heap_alloc_new _ _)
                  have hzg : wr.heap.size ≠ g := by have := blk_lt' HI.out.inp; omega
                  have HDw := Lib.hid (HD.out.fr HIw.out.fr hBg)
                  have HDz := Lib.hid (HD.out.fr HIz.out.fr hBg)
                  clear z0 z1 z2 z3 y0 y1 y2 y3
                  go_wp2_with fail
                  go_region_with (first
                      | (go_at_call 43; (with_reducible refine (number_ok g hBg lj hlj wr.drew HDw.out HIw.out.inp u HU.out).mono ?_); rintro e w7 ⟨rfl, hg7, hf7⟩; have HI7 := Lib.hid (HIw.out.call HTB.out hf7 hg7); obtain ⟨z0, z1, z2, z3⟩ := cells70 HI7.out.c7; obtain ⟨y0, y1, y2, y3⟩ := frozen70 HI7.out.c7; obtain ⟨z0', z1', z2', z3'⟩ := cells70 (HI7.out.alloc (.cells #[.pointer (some ⟨g7, 1, none⟩), .pointer (some ⟨g7, 2, none⟩)] 83)).c7; obtain ⟨y0', y1', y2', y3'⟩ := frozen70 (HI7.out.alloc (.cells #[.pointer (some ⟨g7, 1, none⟩), .pointer (some ⟨g7, 2, none⟩)] 83)).c7)
                      | (go_at_call 43; (with_reducible refine (number_ok g hBg lj hlj (wr.alloc (.cells #[.pointer (some ⟨g7, 1, none⟩), .pointer (some ⟨g7, 2, none⟩)] 83)).drew HDz.out HIz.out.inp u HU.out).mono ?_); rintro e w7 ⟨rfl, hg7, hf7⟩; have HI7 := Lib.hid (HIz.out.call HTB.out hf7 hg7); obtain ⟨z0, z1, z2, z3⟩ := cells70 HI7.out.c7; obtain ⟨y0, y1, y2, y3⟩ := frozen70 HI7.out.c7; have hz7 := hf7.blk HZ.out hzg; have x0 := (Lib.cell_of_heap hz7 0).trans (rfl : _ = some (Value.pointer (some ⟨g7, 1, none⟩))); have x1 := (Lib.cell_of_heap hz7 1).trans (rfl : _ = some (Value.pointer (some ⟨g7, 2, none⟩))); clear hz7))
                  all_goals go_wp2
                  all_goals (
                    go_roundg gk
                    case measure => omega
                    case rel => exact ⟨1, u, 0, rest lj, by omega, rfl, by omega, fun h => by first | rfl | omega, fun h => by omega, by first | exact HI7.out.put HTB.out 1 (.int .i64 u) rfl | exact (HI7.out.alloc (.cells #[.pointer (some ⟨g7, 1, none⟩), .pointer (some ⟨g7, 2, none⟩)] 83)).put HTB.out 1 (.int .i64 u) rfl, HP2⟩)
              · have hnum : num? (tok lj) = none ∨ ∃ u, num? (tok lj) = some u := by
                  cases num? (tok lj) with
                  | none => exact .inl rfl
                  | some u => exact .inr ⟨u, rfl⟩
                have m1 : decide ((1 : Int) < (s.numbers : Int)) = true := decide_eq_true (by omega)
                rcases hnum with hno | ⟨u, hu⟩
                · have HNO := Lib.hid hno
                  have HRN := Lib.hid (show R = none by
                    rw [← HP.out]
                    obtain ⟨q, hq⟩ : ∃ q, s.numbers - 1 = q + 1 := ⟨s.numbers - 1 - 1, by omega⟩
                    rw [hq, pn, hno])
                  clear hno HP
                  have HIw := Lib.hid HI.out.drew
                  have HIz := Lib.hid (HI.out.alloc (.cells #[.pointer (some ⟨g7, 1, none⟩), .pointer (some ⟨g7, 2, none⟩)] 83)).drew
                  go_wp2_with fail
                  have HDw := Lib.hid (HD.out.fr HIw.out.fr hBg)
                  have HDz := Lib.hid (HD.out.fr HIz.out.fr hBg)
                  go_region_with (first
                    | (go_at_call 43; (with_reducible refine (number_no g hBg lj hlj wr.drew HDw.out HIw.out.inp HNO.out).mono ?_); rintro e w7 ⟨rfl, hf7⟩; refine dummyAny w ?_ ?_; focus (rw [HRN.out]; exact ⟨rfl, HIw.out.fr.trans hf7, rfl⟩))
                    | (go_at_call 43; (with_reducible refine (number_no g hBg lj hlj (wr.alloc (.cells #[.pointer (some ⟨g7, 1, none⟩), .pointer (some ⟨g7, 2, none⟩)] 83)).drew HDz.out HIz.out.inp HNO.out).mono ?_); rintro e w7 ⟨rfl, hf7⟩; refine dummyAny w ?_ ?_; focus (rw [HRN.out]; exact ⟨rfl, HIz.out.fr.trans hf7, rfl⟩)))
                  all_goals trivial
                · have HU := Lib.hid hu
                  have HP2 := Lib.hid (show pn (pterm n) op s.kids.length (s.numbers - 2) 2 x u (rest lj) = R by
                    rw [← HP.out]
                    obtain ⟨q, hq⟩ : ∃ q, s.numbers - 1 = q + 1 := ⟨s.numbers - 1 - 1, by omega⟩
                    rw [hq, show s.numbers - 2 = q by omega]
                    simp [pn, hu, Nat.zero_add])
                  have hl2 := rest_length lj
                  clear hu HP
                  obtain ⟨z0, z1, z2, z3⟩ := cells70 HI.out.c7
                  obtain ⟨y0, y1, y2, y3⟩ := frozen70 HI.out.c7
                  have HIw := Lib.hid HI.out.drew
                  have HIz := Lib.hid (HI.out.alloc (.cells #[.pointer (some ⟨g7, 1, none⟩), .pointer (some ⟨g7, 2, none⟩)] 83)).drew
                  have HZ := Lib.hid (show (wr.alloc (.cells #[.pointer (some ⟨g7, 1, none⟩), .pointer (some ⟨g7, 2, none⟩)] 83)).drew.heap[wr.heap.size]? = some (.cells #[.pointer (some ⟨g7, 1, none⟩), .pointer (some ⟨g7, 2, none⟩)] 83 (0, 0)) from heap_alloc_new _ _)
                  have hzg : wr.heap.size ≠ g := by have := blk_lt' HI.out.inp; omega
                  have HDw := Lib.hid (HD.out.fr HIw.out.fr hBg)
                  have HDz := Lib.hid (HD.out.fr HIz.out.fr hBg)
                  clear z0 z1 z2 z3 y0 y1 y2 y3
                  go_wp2_with fail
                  go_region_with (first
                      | (go_at_call 43; (with_reducible refine (number_ok g hBg lj hlj wr.drew HDw.out HIw.out.inp u HU.out).mono ?_); rintro e w7 ⟨rfl, hg7, hf7⟩; have HI7 := Lib.hid (HIw.out.call HTB.out hf7 hg7); obtain ⟨z0, z1, z2, z3⟩ := cells70 HI7.out.c7; obtain ⟨y0, y1, y2, y3⟩ := frozen70 HI7.out.c7; obtain ⟨z0', z1', z2', z3'⟩ := cells70 (HI7.out.alloc (.cells #[.pointer (some ⟨g7, 1, none⟩), .pointer (some ⟨g7, 2, none⟩)] 83)).c7; obtain ⟨y0', y1', y2', y3'⟩ := frozen70 (HI7.out.alloc (.cells #[.pointer (some ⟨g7, 1, none⟩), .pointer (some ⟨g7, 2, none⟩)] 83)).c7)
                      | (go_at_call 43; (with_reducible refine (number_ok g hBg lj hlj (wr.alloc (.cells #[.pointer (some ⟨g7, 1, none⟩), .pointer (some ⟨g7, 2, none⟩)] 83)).drew HDz.out HIz.out.inp u HU.out).mono ?_); rintro e w7 ⟨rfl, hg7, hf7⟩; have HI7 := Lib.hid (HIz.out.call HTB.out hf7 hg7); obtain ⟨z0, z1, z2, z3⟩ := cells70 HI7.out.c7; obtain ⟨y0, y1, y2, y3⟩ := frozen70 HI7.out.c7; have hz7 := hf7.blk HZ.out hzg; have x0 := (Lib.cell_of_heap hz7 0).trans (rfl : _ = some (Value.pointer (some ⟨g7, 1, none⟩))); have x1 := (Lib.cell_of_heap hz7 1).trans (rfl : _ = some (Value.pointer (some ⟨g7, 2, none⟩))); clear hz7))
                  all_goals go_wp2
                  all_goals (
                    go_roundg gk
                    case measure => omega
                    case rel => exact ⟨2, x, u, rest lj, by omega, rfl, by omega, fun h => by first | rfl | omega, fun h => by omega, by first | exact HI7.out.put HTB.out 2 (.int .i64 u) rfl | exact (HI7.out.alloc (.cells #[.pointer (some ⟨g7, 1, none⟩), .pointer (some ⟨g7, 2, none⟩)] 83)).put HTB.out 2 (.int .i64 u) rfl, HP2⟩)
          · have hjn : j = s.numbers := by omega
            subst hjn
            have HQ := Lib.hid (show pk (pterm n) op x y (s.kids.length - 0) [] lj = R by
              rw [← HP.out, Nat.sub_self]
              rfl)
            clear HP hy0 hx0
            have m1 : decide ((s.numbers : Int) < (s.numbers : Int)) = false := decide_eq_false (by omega)
            obtain ⟨q0, q1, q2, q3⟩ := cells70 HI.out.c8
            go_wp2_with fail
            clear q0 q1 q2 q3 m1
            have hkl := kids_le HS.out
            have hb1 := blk_lt' HI.out.inp
            have hb2 := blk_lt' HI.out.c4
            have hb3 := blk_lt' HI.out.c7
            have hb4 := blk_lt' HI.out.c8
            have hb5 := HI.out.fr.size
            obtain ⟨base, hbase⟩ : ∃ base, wr.heap.size = base := ⟨_, rfl⟩
            rw [hbase] at hb1 hb2 hb3 hb4 hb5
            have hbr : base ≤ wr.heap.size := by omega
            go_loopg [50] s.kids.length (fun gk v50 wx => ∃ (k : Nat) (ks : List S24) (v : Value) (lj : List UInt8), k + gk = s.kids.length ∧ v50 = .int .i64 k ∧ ks.length = k ∧ lj.length ≤ 1000000 ∧ base ≤ wx.heap.size ∧ Hid (TI g g4 g7 g8 w s A5 c5 op x y v lj wx) ∧ Hid (KR wx base v ks) ∧ Hid (pk (pterm n) op x y (s.kids.length - k) ks lj = R))
            case atStart => exact ⟨0, [], .slice none 0 0, lj, by omega, rfl, rfl, hlj, hbr, HI, Kd.R_nil _ _ _ _ _, HQ⟩
            case round =>
              clear HI HQ hbase hbr
              obtain ⟨k, ks, v, lj, hkg, rfl, hks, hlj, hbr, HI, HK, HQ⟩ := hrel
              by_cases hk : k < s.kids.length
              · cases gk with
                | zero => omega
                | succ gk =>
                  have hcase : pterm n lj = none ∨ ∃ t r, pterm n lj = some (t, r) := by
                    cases pterm n lj with
                    | none => exact .inl rfl
                    | some p => exact .inr ⟨p.1, p.2, rfl⟩
                  have hd0 : 0 ≤ d := by omega
                  have hdn : d + 1 + n = 7 := by omega
                  have hk0 : (0 : Int) ≤ (k : Int) := by omega
                  have hk1 : (k : Int) ≤ 1 := by omega
                  have HIw := Lib.hid HI.out.drew
                  have HIz := Lib.hid (HI.out.alloc (.cells #[.int .i64 0, .int .i64 0, .int .i64 0, .slice none 0 0] 24)).drew
                  have HDw := Lib.hid (HD.out.fr HIw.out.fr hBg)
                  have HDz := Lib.hid (HD.out.fr HIz.out.fr hBg)
                  obtain ⟨z0, z1, z2, z3⟩ := cells70 HI.out.c7
                  obtain ⟨z0', z1', z2', z3'⟩ := cells70 (HI.out.alloc (.cells #[.int .i64 0, .int .i64 0, .int .i64 0, .slice none 0 0] 24)).c7
                  clear z0 z1 z2 z0' z1' z2'
                  obtain ⟨A0, c0, rfl⟩ : ∃ A c, v = .slice A ks.length c := Kd.R_slice HK.out
                  rw [hks] at z3 z3'
                  rcases hcase with hno | ⟨t, r, hu⟩
                  · have HRN := Lib.hid (show R = none by
                      rw [← HQ.out]
                      obtain ⟨q, hq⟩ : ∃ q, s.kids.length - k = q + 1 := ⟨s.kids.length - k - 1, by omega⟩
                      rw [hq, pk, hno])
                    have HEw := Lib.hid (fun e w7 (h : TermEnd g wr.drew (pterm n lj) e w7) => (show e = gaveUp ∧ Fr g wr.drew w7 by
                      rw [hno] at h
                      exact ⟨h.2, h.1⟩))
                    have HEz := Lib.hid (fun e w7 (h : TermEnd g (wr.alloc (.cells #[.int .i64 0, .int .i64 0, .int .i64 0, .slice none 0 0] 24)).drew (pterm n lj) e w7) => (show e = gaveUp ∧ Fr g (wr.alloc (.cells #[.int .i64 0, .int .i64 0, .int .i64 0, .slice none 0 0] 24)).drew w7 by
                      rw [hno] at h
                      exact ⟨h.2, h.1⟩))
                    clear hno HQ
                    have hw1 : IntKind.i64.wrap (d + 1) = d + 1 := IntWalk.i64_in _ (by omega)
                    go_wp2_with fail
                    go_region_with (first
                      | (go_at_call 27; (with_reducible refine (IH.out (d + 1) hdn lj hlj wr.drew HDw.out HIw.out.inp).mono ?_); intro e w7 h7; obtain ⟨rfl, hf7⟩ := HEw.out _ _ h7; refine dummyAny w ?_ ?_; focus (rw [HRN.out]; exact ⟨rfl, HIw.out.fr.trans hf7, rfl⟩))
                      | (go_at_call 27; (with_reducible refine (IH.out (d + 1) hdn lj hlj (wr.alloc (.cells #[.int .i64 0, .int .i64 0, .int .i64 0, .slice none 0 0] 24)).drew HDz.out HIz.out.inp).mono ?_); intro e w7 h7; obtain ⟨rfl, hf7⟩ := HEz.out _ _ h7; refine dummyAny w ?_ ?_; focus (rw [HRN.out]; exact ⟨rfl, HIz.out.fr.trans hf7, rfl⟩)))
                    all_goals trivial
                  · have HQ2 := Lib.hid (show pk (pterm n) op x y (s.kids.length - (k + 1)) (ks ++ [t]) r = R by
                      rw [← HQ.out]
                      obtain ⟨q, hq⟩ : ∃ q, s.kids.length - k = q + 1 := ⟨s.kids.length - k - 1, by omega⟩
                      rw [hq, pk, hu, show s.kids.length - (k + 1) = q by omega])
                    have HEw := Lib.hid (fun e w7 (h : TermEnd g wr.drew (pterm n lj) e w7) => (show ∃ At ct, e = .returned (.agg #[.int .i64 t.f0, .int .i64 t.f1, .int .i64 t.f2, .slice At t.f3.length ct]) ∧ w7.heap[g]? = some (.cells #[Sv r] 59 (0, 0)) ∧ KR w7 wr.heap.size (.slice At t.f3.length ct) t.f3 ∧ r.length ≤ 1000000 ∧ Fr g wr.drew w7 by
                      rw [hu] at h
                      obtain ⟨hf, vt, he, hg', hR, hr⟩ := h
                      obtain ⟨At, ct, rfl⟩ := Kd.R_slice hR
                      exact ⟨At, ct, he, hg', hR, hr, hf⟩))
                    have HEz := Lib.hid (fun e w7 (h : TermEnd g (wr.alloc (.cells #[.int .i64 0, .int .i64 0, .int .i64 0, .slice none 0 0] 24)).drew (pterm n lj) e w7) => (show ∃ At ct, e = .returned (.agg #[.int .i64 t.f0, .int .i64 t.f1, .int .i64 t.f2, .slice At t.f3.length ct]) ∧ w7.heap[g]? = some (.cells #[Sv r] 59 (0, 0)) ∧ KR w7 wr.heap.size (.slice At t.f3.length ct) t.f3 ∧ r.length ≤ 1000000 ∧ Fr g (wr.alloc (.cells #[.int .i64 0, .int .i64 0, .int .i64 0, .slice none 0 0] 24)).drew w7 by
                      rw [hu] at h
                      obtain ⟨hf, vt, he, hg', hR, hr⟩ := h
                      obtain ⟨At, ct, rfl⟩ := Kd.R_slice hR
                      exact ⟨At, ct, he, hg', Kd.R_lower hR (by simp), hr, hf⟩))
                    rw [hks] at HK
                    have hltv : ∀ q, (Value.slice A0 k c0).ownBlock = some q → q < wr.heap.size := Kd.R_lt HK.out
                    have HLV := Lib.hid hltv
                    have HLB := Lib.hid (Kd.R_base HK.out)
                    have HKw := Lib.hid (kr_below HK.out (Below.refl _ _).drew)
                    have HKz := Lib.hid (kr_below HK.out (((Below.refl wr.heap.size wr).alloc (Nat.le_refl _) (.cells #[.int .i64 0, .int .i64 0, .int .i64 0, .slice none 0 0] 24)).drew))
                    have HZ := Lib.hid (show (wr.alloc (.cells #[.int .i64 0, .int .i64 0, .int .i64 0, .slice none 0 0] 24)).drew.heap[wr.heap.size]? = some (.cells #[.int .i64 0, .int .i64 0, .int .i64 0, .slice none 0 0] 24 (0, 0)) from heap_alloc_new _ _)
                    have hzg : wr.heap.size ≠ g := by omega
                    have hk2 : k ≤ 2 := by omega
                    have hkk : (k : Int) < (k : Int) + 1 := by omega
                    clear hu HQ hltv
                    have hw1 : IntKind.i64.wrap (d + 1) = d + 1 := IntWalk.i64_in _ (by omega)
                    go_wp2_with fail
                    go_region_law (first
                      | (go_simp; go_at_call 27; (with_reducible refine (IH.out (d + 1) hdn lj hlj wr.drew HDw.out HIw.out.inp).mono ?_); intro e w7 h7; obtain ⟨At, ct, rfl, hg7, ht7, hr7, hf7⟩ := HEw.out _ _ h7; have HI7 := Lib.hid (HIw.out.call HTB.out hf7 hg7); have HK7 := Lib.hid (kr_fr HKw.out hf7 hb1); have HT7 := Lib.hid ht7; have hs7 := hf7.size; have z3' := (cells70 HI7.out.c7).2.2.2; have z3b := (cells70 (HI7.out.alloc (.cells #[.int .i64 0, .int .i64 0, .int .i64 0, .slice none 0 0] 24)).c7).2.2.2; have HI7z := Lib.hid (HI7.out.alloc (.cells #[.int .i64 0, .int .i64 0, .int .i64 0, .slice none 0 0] 24)); have HK7z := Lib.hid (kr_below HK7.out ((Below.refl _ _).alloc (Nat.le_refl _) (.cells #[.int .i64 0, .int .i64 0, .int .i64 0, .slice none 0 0] 24))); have HT7z := Lib.hid (kr_below HT7.out ((Below.refl _ _).alloc (Nat.le_refl _) (.cells #[.int .i64 0, .int .i64 0, .int .i64 0, .slice none 0 0] 24))); have hs7z : base ≤ (w7.alloc (.cells #[.int .i64 0, .int .i64 0, .int .i64 0, .slice none 0 0] 24)).heap.size := (Nat.le_trans hbr (Nat.le_trans (show wr.heap.size ≤ w7.heap.size from hs7) (((Below.refl _ _).alloc (Nat.le_refl _) (.cells #[.int .i64 0, .int .i64 0, .int .i64 0, .slice none 0 0] 24)).size))); clear hg7 ht7 hf7 h7)
                      | (go_simp; go_at_call 27; (with_reducible refine (IH.out (d + 1) hdn lj hlj (wr.alloc (.cells #[.int .i64 0, .int .i64 0, .int .i64 0, .slice none 0 0] 24)).drew HDz.out HIz.out.inp).mono ?_); intro e w7 h7; obtain ⟨At, ct, rfl, hg7, ht7, hr7, hf7⟩ := HEz.out _ _ h7; have HI7z := Lib.hid (HIz.out.call HTB.out hf7 hg7); have HK7z := Lib.hid (kr_fr HKz.out hf7 hb1); have HT7z := Lib.hid ht7; have hs7 := hf7.size; have z3' := (cells70 HI7z.out.c7).2.2.2; have HZ7 := Lib.hid (hf7.blk HZ.out hzg); have hs7z : base ≤ w7.heap.size := (Nat.le_trans hbr (Nat.le_trans (((Below.refl wr.heap.size wr).alloc (Nat.le_refl _) (.cells #[.int .i64 0, .int .i64 0, .int .i64 0, .slice none 0 0] 24)).size) hs7)); clear hg7 ht7 hf7 h7)
                      | (refine append_zero_step ?_ ?_ (.slice A0 k c0) ks k w7.heap.size base ?_ ?_ ?_ ?_ ?_ ?_ ?_ ?_; rfl; rfl; (first | rfl | simp [Act.eval, Act.put]); (first | rfl | simp [Act.eval, Act.put]); exact HK7z.out; exact (heap_alloc_new _ _); exact hs7z; exact hks; exact hk2; intro g' cap w8 hR8 hbg' hg8 hat8; have HI8 := Lib.hid (HI7z.out.grown HTB.out hg8 HLB.out hb1 hb2 hb3 hb4 hb5); have HT8 := Lib.hid (kr_kid (w2 := w8) (v := .slice A0 k c0) (v1 := .slice (some ⟨g', 0, none⟩) (k + 1) cap) HK7z.out HLV.out HT7z.out hbr hg8 hat8); obtain ⟨⟨xa, xb, xc, xd, x0, x1, x2, x3⟩, y0, y1, y2, y3⟩ := kr_last hR8 k (Nat.lt_succ_self k); have z3c := (cells70 HI8.out.c7).2.2.2; have u3 := (frozen70 HI8.out.c7).2.2.2; have HR8 := Lib.hid hR8; have hgg : g' ≠ g7 := Nat.ne_of_gt (Nat.lt_of_lt_of_le hb3 hbg'))
                      | (refine append_zero_step ?_ ?_ (.slice A0 k c0) ks k wr.heap.size base ?_ ?_ ?_ ?_ ?_ ?_ ?_ ?_; rfl; rfl; (first | rfl | simp [Act.eval, Act.put]); (first | rfl | simp [Act.eval, Act.put]); exact HK7z.out; exact HZ7.out; exact hs7z; exact hks; exact hk2; intro g' cap w8 hR8 hbg' hg8 hat8; have HI8 := Lib.hid (HI7z.out.grown HTB.out hg8 HLB.out hb1 hb2 hb3 hb4 hb5); have HT8 := Lib.hid (kr_kid (w2 := w8) (v := .slice A0 k c0) (v1 := .slice (some ⟨g', 0, none⟩) (k + 1) cap) HK7z.out HLV.out HT7z.out hbr hg8 hat8); obtain ⟨⟨xa, xb, xc, xd, x0, x1, x2, x3⟩, y0, y1, y2, y3⟩ := kr_last hR8 k (Nat.lt_succ_self k); have z3c := (cells70 HI8.out.c7).2.2.2; have u3 := (frozen70 HI8.out.c7).2.2.2; have HR8 := Lib.hid hR8; have hgg : g' ≠ g7 := Nat.ne_of_gt (Nat.lt_of_lt_of_le hb3 hbg')))
                    all_goals (
                      clear hw1 x0 x1 x2 x3 y0 y1 y2 y3
                      go_wp2
                      first
                      | (
                        have HE := Lib.hid (end_one HTB.out HI8.out HR8.out HT8.out hks hbg' hb1 hb2 hb3 hb4 hb5)
                        go_roundg gk
                        case measure => omega
                        case rel => exact ⟨k + 1, ks ++ [t], _, r, by omega, by first | rfl | (congr 1; exact IntWalk.i64_in _ (by omega)), by simp [hks], hr7, by with_reducible exact HE.out.2.2, by with_reducible exact Lib.hid HE.out.1, by with_reducible exact Lib.hid HE.out.2.1, HQ2⟩)
                      | (
                        have HE := Lib.hid (end_two HTB.out HI8.out HR8.out HT8.out hks hbg' hb1 hb2 hb3 hb4 hb5)
                        go_roundg gk
                        case measure => omega
                        case rel => exact ⟨k + 1, ks ++ [t], _, r, by omega, by first | rfl | (congr 1; exact IntWalk.i64_in _ (by omega)), by simp [hks], hr7, by with_reducible exact HE.out.2.2, by with_reducible exact Lib.hid HE.out.1, by with_reducible exact Lib.hid HE.out.2.1, HQ2⟩))
              · have hkl2 : k = s.kids.length := by omega
                subst hkl2
                obtain ⟨A0, c0, rfl⟩ : ∃ A c, v = .slice A ks.length c := Kd.R_slice HK.out
                by_cases ht : tok lj = [41]
                · have HR1 := Lib.hid (show R = some (⟨op, x, y, ks⟩, rest lj) by
                    rw [← HQ.out, Nat.sub_self, pk, if_pos ht])
                  clear HQ
                  have hl9 := rest_length lj
                  go_wp2_with fail
                  refine (want_ok g lj [41] (by omega) _ HI.out.inp ht).mono ?_
                  rintro e w9 ⟨rfl, hg9, hf9⟩
                  have HI9 := Lib.hid (HI.out.call HTB.out hf9 hg9)
                  have HK9 := Lib.hid (kr_fr HK.out hf9 hb1)
                  clear HI HK hg9 hf9
                  obtain ⟨z0, z1, z2, z3⟩ := cells70 HI9.out.c7
                  obtain ⟨x0, x1, x2, x3⟩ := cells70 HI9.out.c4
                  obtain ⟨y0, y1, y2, y3⟩ := frozen70 HI9.out.c4
                  go_wp2_with fail
                  clear z0 z1 z2 z3 x0 x1 x2 x3 y0 y1 y2 y3
                  rw [hks] at HK9
                  refine bodyPost_ret (results_cell_row (fn := Tryd.f27) rfl _ _ g4 24 #[.int .i64 op, .int .i64 x, .int .i64 y, .slice A0 s.kids.length c0] (0, 0) _ rfl (blk_set4 HI9.out.c4) Tryd.underlying24 rfl (by kernel_rfl)) rfl ?_
                  rw [HR1.out]
                  refine ⟨Fr.setNew (Fr.setNew (Fr.setNew (Fr.setNew HI9.out.fr (p := ⟨g4, 0, none⟩) HTB.out.lo4 _) (p := ⟨g4, 1, none⟩) HTB.out.lo4 _) (p := ⟨g4, 2, none⟩) HTB.out.lo4 _) (p := ⟨g4, 3, none⟩) HTB.out.lo4 _, _, rfl, ?_, ?_, by omega⟩
                  · have hne := HTB.out.g4g.symm
                    exact (Below.heap_setCell _ ⟨g4, 3, none⟩ _ g hne).trans ((Below.heap_setCell _ ⟨g4, 2, none⟩ _ g hne).trans ((Below.heap_setCell _ ⟨g4, 1, none⟩ _ g hne).trans ((Below.heap_setCell _ ⟨g4, 0, none⟩ _ g hne).trans HI9.out.inp)))
                  · exact Kd.R_lower (kr_far (kr_far (kr_far (kr_far HK9.out (p := ⟨g4, 0, none⟩) hb2 _) (p := ⟨g4, 1, none⟩) hb2 _) (p := ⟨g4, 2, none⟩) hb2 _) (p := ⟨g4, 3, none⟩) hb2 _) (by omega)
                · have HRN := Lib.hid (show R = none by
                    rw [← HQ.out, Nat.sub_self, pk, if_neg ht])
                  clear HQ
                  go_wp2_with fail
                  refine (want_no g lj [41] (by omega) _ HI.out.inp ht).mono ?_
                  rintro e w9 ⟨rfl, hf9⟩
                  rw [HRN.out]
                  exact ⟨rfl, HI.out.fr.trans hf9, rfl⟩
  · have HRN := Lib.hid (show R = none by
      rw [← HR.out]
      cases n with
      | zero => rfl
      | succ n => rw [pterm, if_neg ht])
    refine (want_no g l [40] hl _ HG1.out ht).mono ?_
    rintro e w2 ⟨rfl, hf2⟩
    rw [HRN.out]
    exact ⟨rfl, HF1.out.trans hf2, rfl⟩

/-- The parser's term. -/
theorem term_calls (B g : Nat) (hBg : B ≤ g) : ∀ (n : Nat) (d : Int), d + n = 7 → n ≤ 6 → ∀ (l : List UInt8), l.length ≤ 1000000 → ∀ (w : World), Gd B w → w.heap[g]? = some (.cells #[Sv l] 59 (0, 0)) →
      Calls Tryd.prog 27 #[.pointer (some ⟨g, 0, none⟩), .int .i64 d] w (TermEnd g w (pterm n l))
  | 0, d, hd, hn, l, hl, w, hD, hg => term_step 0 B g hBg (fun m h => by omega) d hd hn l hl w hD hg
  | n + 1, d, hd, hn, l, hl, w, hD, hg => term_step (n + 1) B g hBg (fun m h => by
      obtain rfl : m = n := by omega
      exact fun d hd l hl w hD hg => term_calls B g hBg m d hd (by omega) l hl w hD hg) d hd hn l hl w hD hg
end Go.Proofs.YtjcdpmoabkfchaaDoor
