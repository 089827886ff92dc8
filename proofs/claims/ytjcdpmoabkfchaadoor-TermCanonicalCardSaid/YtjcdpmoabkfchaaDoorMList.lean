/- A list of kids that grows: what an append of a zero term, and the store of the kid into it, make. No program's run. -/
import Derived.Test.YtjcdpmoabkfchaaDoorMWrite
set_option linter.unusedSimpArgs false
set_option linter.unusedVariables false
namespace Go.Proofs.YtjcdpmoabkfchaaDoor
open Go.RowKit Go.Lib Go.Proofs.YtjcdpmoabkfchaaDoorW.PrintWords Go.Proofs.YtjcdpmoabkfchaaDoor.PTermMatchesReference

/-- The kids, in rows of one's own from a block on. -/
abbrev KR (w : World) (base : Nat) (v : Value) (ks : List S24) : Prop := Kd.R k24 24 w base (fun _ => True) v ks

theorem k24_sz : k24.sz = 4 := rfl
theorem kr_last {w : World} {base g n cap : Nat} {ks : List S24} (h : KR w base (.slice (some ⟨g, 0, none⟩) n cap) ks) (i : Nat) (hi : i < n) :
    (∃ a b c d, w.cell? ⟨g, i * 4, none⟩ = some a ∧ w.cell? ⟨g, i * 4 + 1, none⟩ = some b ∧ w.cell? ⟨g, i * 4 + 2, none⟩ = some c ∧ w.cell? ⟨g, i * 4 + 3, none⟩ = some d) ∧
      w.frozen? ⟨g, i * 4, none⟩ = false ∧ w.frozen? ⟨g, i * 4 + 1, none⟩ = false ∧ w.frozen? ⟨g, i * 4 + 2, none⟩ = false ∧ w.frozen? ⟨g, i * 4 + 3, none⟩ = false := by
  obtain ⟨c, hcl, _, hc, hf⟩ := Kd.R_elem h z24 (i : Int) (by omega) (by omega)
  rw [k24_sz] at hcl hc hf
  rw [Int.toNat_natCast] at hc hf
  refine ⟨⟨c[0], c[1], c[2], c[3], ?_, ?_, ?_, ?_⟩, hf 0, hf 1, hf 2, hf 3⟩
  · exact hc 0 _ (List.getElem?_eq_getElem (by omega))
  · exact hc 1 _ (List.getElem?_eq_getElem (by omega))
  · exact hc 2 _ (List.getElem?_eq_getElem (by omega))
  · exact hc 3 _ (List.getElem?_eq_getElem (by omega))

/-- The last kid is written. -/
theorem kr_put {w : World} {base g n cap : Nat} {ks : List S24} {z t : S24} {vt : Value} (h : KR w base (.slice (some ⟨g, 0, none⟩) n cap) (ks ++ [z])) (hk : n = ks.length + 1) (ht : Kd.R k24 24 w base (fun q => q ≠ g) vt t.f3) :
    KR (w.setCells g (ks.length * 4) [.int .i64 t.f0, .int .i64 t.f1, .int .i64 t.f2, vt]) base (.slice (some ⟨g, 0, none⟩) n cap) (ks ++ [t]) := by
  obtain ⟨c, hcl, _, hc, hf⟩ := Kd.R_elem h z24 (ks.length : Int) (by omega) (by omega)
  rw [k24_sz] at hcl
  have h1 := (Kd.R_seg h (ks.length : Int) (by omega) (by omega) hcl hc (j := 0) (seg := [.int .i64 t.f0, .int .i64 t.f1, .int .i64 t.f2, vt]) (x' := t) (okp := fun q => q ≠ g) (by simp [k24_sz]) (by
    rw [List.take_zero, List.nil_append, List.drop_of_length_le (by simp [hcl]), List.append_nil]
    exact k24_mkM w base _ t ht) (fun k hk => ⟨trivial, hk⟩)).1
  rw [Int.toNat_natCast, k24_sz, Nat.add_zero] at h1
  have h2 : (ks ++ [z]).set ks.length t = ks ++ [t] := by
    rw [List.set_append_right _ _ (by omega), Nat.sub_self]
    rfl
  rw [h2] at h1
  exact h1
theorem kr_far {w : World} {base : Nat} {v : Value} {ks : List S24} (h : KR w base v ks) {p : Addr} (hp : p.block < base) (u : Value) : KR (w.setCell p u) base v ks :=
  Kd.R_mono (Kd.R_far (Kd.R_mono (Kd.R_bound h) (fun k hk => (show k ≠ p.block by have := hk.2.1; omega))) (fun k hk => hk) u) (fun _ _ => trivial)
theorem kr_fr {g : Nat} {w w' : World} {base : Nat} {v : Value} {ks : List S24} (h : KR w base v ks) (hf : Fr g w w') (hg : g < base) : KR w' base v ks :=
  Kd.R_mono (Kd.R_step (Kd.R_mono (Kd.R_bound h) (fun k hk => (show k ≠ g by have := hk.2.1; omega))) (fun k hk hlt => hf.block k hlt hk)) (fun _ _ => trivial)
theorem kr_below {w w' : World} {base : Nat} {v : Value} {ks : List S24} (h : KR w base v ks) (hb : Below w.heap.size w w') : KR w' base v ks := Kd.R_below h hb
/-- A kid's rows, that are younger than the list's row: the append leaves them, and they are not the row that it makes. -/
theorem kr_kid {w1 w2 : World} {base b2 : Nat} {v v1 vt : Value} {ks ls : List S24} (hv : KR w1 base v ks) (hlt : ∀ k, v.ownBlock = some k → k < b2) (ht : KR w1 b2 vt ls) (hb : base ≤ b2) (hg : w1.grownBy w2 v.ownBlock)
    (hat : v1.ownBlock = v.ownBlock ∨ ∃ b, v1.ownBlock = some b ∧ w1.heap.size ≤ b) : Kd.R k24 24 w2 base (fun q => some q ≠ v1.ownBlock) vt ls := by
  have h1 : Kd.R k24 24 w1 b2 (fun q => b2 ≤ q ∧ q < w1.heap.size) vt ls := Kd.R_mono (Kd.R_bound ht) (fun k hk => ⟨hk.2.1, hk.2.2.1⟩)
  have h2 : Kd.R k24 24 w2 b2 (fun q => b2 ≤ q ∧ q < w1.heap.size) vt ls := Kd.R_step h1 (fun k hk hlt' => hg.block k hlt' (fun he => by have := hlt k he.symm; omega))
  refine Kd.R_lower (Kd.R_mono h2 (fun q hq he => ?_)) hb
  rcases hat with ha | ⟨b, ha, hbb⟩
  · rw [ha] at he
    have := hlt q he.symm
    omega
  · rw [ha] at he
    have := Option.some.inj he
    omega
theorem kr_zero (w : World) (base : Nat) : k24.M w base (fun _ => False) z24 [.int .i64 0, .int .i64 0, .int .i64 0, .slice none 0 0] :=
  k24_mkM w base _ z24 (Kd.R_nil _ _ _ _ _)
/-- The literal that is appended. -/
theorem zero_row {w : World} {g : Nat} (h : w.heap[g]? = some (.cells #[.int .i64 0, .int .i64 0, .int .i64 0, .slice none 0 0] 24 (0, 0))) :
    ReadsRow (fun (x : S24) cs => x = z24 ∧ cs = [.int .i64 0, .int .i64 0, .int .i64 0, .slice none 0 0]) k24.sz w (some ⟨g, 0, none⟩) 1 [z24] := by
  refine ⟨rfl, by decide, fun _ => ⟨⟨g, 0, none⟩, rfl, fun j p hj => ?_⟩⟩
  match j, hj with
  | 0, hj =>
    obtain rfl : z24 = p := by simpa using hj
    refine ⟨[.int .i64 0, .int .i64 0, .int .i64 0, .slice none 0 0], rfl, ⟨rfl, rfl⟩, fun i u hi => ?_⟩
    obtain ⟨z0, z1, z2, z3⟩ := cells70 h
    match i, hi with
    | 0, hi => obtain rfl := Option.some.inj hi; exact z0
    | 1, hi => obtain rfl := Option.some.inj hi; exact z1
    | 2, hi => obtain rfl := Option.some.inj hi; exact z2
    | 3, hi => obtain rfl := Option.some.inj hi; exact z3
  | j + 1, hj => simp at hj
end Go.Proofs.YtjcdpmoabkfchaaDoor
