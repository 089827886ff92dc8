/- The map that term.shapes makes: 21 entries, operator by operator, each with its word, numbers, kids and sort; what a look-up in it answers. -/
import Derived.Test.YtjcdpmoabkfchaaDoorMBase
import Derived.Carry
import Derived.WalkKit
import Derived.Outline
namespace Go.Proofs.YtjcdpmoabkfchaaDoor
open Go.RowKit Go.Lib

/-- The operators: word, numbers, kids, sort. -/
structure Shape where
  word : List UInt8
  numbers : Nat
  kids : List Int
  sort : Int
def tab : List Shape := [
  ⟨[112, 108, 97, 110, 101], 1, [], 1⟩,
  ⟨[97, 102, 102, 105, 110, 101], 1, [], 1⟩,
  ⟨[115, 111, 108, 105, 100], 0, [], 1⟩,
  ⟨[100, 101, 118, 101, 108, 111, 112], 2, [], 1⟩,
  ⟨[112, 97, 105, 114, 115], 1, [], 1⟩,
  ⟨[99, 111, 109, 112, 108, 101, 109, 101, 110, 116], 0, [1], 1⟩,
  ⟨[100, 117, 97, 108], 0, [1], 1⟩,
  ⟨[100, 101, 114, 105, 118, 101, 100], 1, [1], 1⟩,
  ⟨[114, 101, 115, 105, 100, 117, 97, 108], 1, [1], 1⟩,
  ⟨[115, 117, 112, 112, 111, 114, 116, 115], 1, [2], 1⟩,
  ⟨[114, 101, 112, 101, 97, 116], 2, [], 2⟩,
  ⟨[101, 118, 101, 110], 1, [], 2⟩,
  ⟨[104, 97, 109, 109, 105, 110, 103], 1, [], 2⟩,
  ⟨[114, 101, 101, 100], 2, [], 2⟩,
  ⟨[115, 112, 97, 110], 0, [1], 2⟩,
  ⟨[111, 114, 116, 104, 111], 0, [2], 2⟩,
  ⟨[101, 120, 116, 101, 110, 100], 0, [2], 2⟩,
  ⟨[112, 117, 110, 99, 116, 117, 114, 101], 1, [2], 2⟩,
  ⟨[115, 104, 111, 114, 116, 101, 110], 1, [2], 2⟩,
  ⟨[100, 111, 117, 98, 108, 101], 0, [2, 2], 2⟩,
  ⟨[115, 117, 109], 0, [2, 2], 2⟩]

/-- The shape of an operator. -/
def shp (op : Int) : Option Shape := if 1 ≤ op then tab[op.toNat - 1]? else none

/-- These cells hold these numbers. -/
def KidsAt (W : World) (A : Option Addr) (ks : List Int) : Prop := ∀ (i : Nat) x, ks[i]? = some x → ∃ ad, A = some ad ∧ W.cell? (ad.add i) = some (.int .i64 x) ∧ ∃ cs f, W.heap[ad.block]? = some (.cells cs 3 f)
theorem KidsAt.below {W W' : World} {A : Option Addr} {ks : List Int} (h : KidsAt W A ks) (hb : Below W.heap.size W W') : KidsAt W' A ks := fun i x hx => by
  obtain ⟨ad, e, hc, cs, f, ht⟩ := h i x hx
  exact ⟨ad, e, (hb.cell (World.block_lt_of_cell? W _ hc)).trans hc, cs, f, below_blk hb ht⟩
theorem add_block (a : Addr) (n : Nat) : (a.add n).block = a.block := by unfold Addr.add; split <;> rfl
/-- A store into a block of another type. -/
theorem KidsAt.setCell {W : World} {A : Option Addr} {ks : List Int} (h : KidsAt W A ks) {g t : Nat} {cs : Array Value} {f : Nat × Nat} (hg : W.heap[g]? = some (.cells cs t f)) (ht : t ≠ 3) (j : Nat) (v : Value) : KidsAt (W.setCell ⟨g, j, none⟩ v) A ks := fun i x hx => by
  obtain ⟨ad, e, hc, cs', f', hb⟩ := h i x hx
  have hne : ad.block ≠ g := by
    rintro rfl
    rw [hg] at hb
    injection hb with hb
    injection hb with _ hb
    exact ht hb
  refine ⟨ad, e, ?_, cs', f', (Below.heap_setCell W ⟨g, j, none⟩ v _ hne).trans hb⟩
  rw [World.cell?, Below.heap_setCell W ⟨g, j, none⟩ v _ (by rw [add_block]; exact hne)]
  exact hc
/-- All but block g, which is of another type, is as it was. -/
theorem KidsAt.fr {W W' : World} {A : Option Addr} {ks : List Int} (h : KidsAt W A ks) {g t : Nat} {cs : Array Value} {f : Nat × Nat} (hf : Fr g W W') (hg : W.heap[g]? = some (.cells cs t f)) (ht : t ≠ 3) : KidsAt W' A ks := fun i x hx => by
  obtain ⟨ad, e, hc, cs', f', hb⟩ := h i x hx
  have hne : ad.block ≠ g := by
    rintro rfl
    rw [hg] at hb
    injection hb with hb
    injection hb with _ hb
    exact ht hb
  have hbl := hf.block ad.block (blk_lt' hb) hne
  refine ⟨ad, e, ?_, cs', f', hbl.trans hb⟩
  rw [World.cell?, add_block, hbl, ← add_block ad i]
  exact hc
theorem KidsAt.nil (W : World) (A : Option Addr) : KidsAt W A [] := fun i x h => by simp at h

/-- An entry's value. -/
def shapeVal (A : Option Addr) (c : Nat) (s : Shape) : Value := .agg #[Sv s.word, .int .i64 (s.numbers : Int), .slice A s.kids.length c, .int .i64 s.sort]

/-- The first j entries. -/
def Ent (W : World) (es : Array MapEntry) (j : Nat) : Prop := es.size = j ∧ ∀ (i : Nat) s, i < j → tab[i]? = some s →
  ∃ A c, es[i]? = some { key := .int .i64 ((i : Int) + 1), val := shapeVal A c s, born := i } ∧ KidsAt W A s.kids ∧ s.kids.length ≤ c

structure Inv (w W : World) (B j : Nat) : Prop where
  es : ∃ es, W.heap[B]? = some (.map es j) ∧ Ent W es j
  below : Below w.heap.size w W
  base : w.heap.size ≤ B
  le : j ≤ 21

theorem Inv.alloc {w W : World} {B j : Nat} (h : Inv w W B j) (o : Obj) : Inv w (W.alloc o) B j := by
  obtain ⟨⟨es, hb, he⟩, hB, hg, hle⟩ := h
  have hab : Below W.heap.size W (W.alloc o) := (Below.refl _ _).alloc (Nat.le_refl _) o
  refine ⟨⟨es, below_blk hab hb, he.1, fun i s hi hs => ?_⟩, hB.alloc hB.size o, hg, hle⟩
  obtain ⟨A, c, h1, h2, h3⟩ := he.2 i s hi hs
  exact ⟨A, c, h1, h2.below hab, h3⟩

theorem findNow_int_none (k : IntKind) (x : Int) : ∀ (es : List MapEntry) (i : Nat), (∀ e ∈ es, ∃ y, e.key = .int k y ∧ y ≠ x) → Instr.findNow (.int k) (.int k x) es i = some none
  | [], _, _ => rfl
  | e :: es, i, h => by
    obtain ⟨y, hk, hne⟩ := h e (List.mem_cons_self ..)
    have hb : (x == y) = false := beq_eq_false_iff_ne.2 (fun h => hne h.symm)
    simp only [Instr.findNow, hk, Instr.sameNow, if_true, hb]
    exact findNow_int_none k x es (i + 1) (fun e' he' => h e' (List.mem_cons_of_mem _ he'))

theorem findNow_int_at (k : IntKind) (x : Int) (v : Value) : ∀ (es : List MapEntry) (i n : Nat) (e : MapEntry), es[n]? = some e → e.key = .int k x → e.val = v →
    (∀ (j : Nat) e', j < n → es[j]? = some e' → ∃ y, e'.key = .int k y ∧ y ≠ x) → Instr.findNow (.int k) (.int k x) es i = some (some (i + n, v))
  | [], _, _, _, h, _, _, _ => by simp at h
  | e0 :: es, i, 0, e, h, hk, hv, _ => by
    simp at h
    subst h
    simp [Instr.findNow, hk, Instr.sameNow, hv]
  | e0 :: es, i, n + 1, e, h, hk, hv, hall => by
    obtain ⟨y, hk0, hne⟩ := hall 0 e0 (by omega) rfl
    have hb : (x == y) = false := beq_eq_false_iff_ne.2 (fun h => hne h.symm)
    simp only [Instr.findNow, hk0, Instr.sameNow, if_true, hb]
    rw [findNow_int_at k x v es (i + 1) n e (by simpa using h) hk hv (fun j e' hj he' => hall (j + 1) e' (by omega) (by simpa using he'))]
    congr 3
    omega

theorem u71 : Tryd.prog.underlying 71 = some (.map 3 70) := Tryd.underlying71
theorem checkKey_int (b : Bool) (n : Nat) (t : TypeId) (kd : IntKind) (ht : Tryd.prog.underlying t = some (.int kd)) (v : Value) (w : World) : (Instr.checkKey b (n + 1) t v).run Tryd.prog w = .ok () w := by
  simp [Instr.checkKey, run_underlying ht]

/-- One entry more. -/
theorem put_entry {w W : World} {B j : Nat} (h : Inv w W B j) (s : Shape) (hs : tab[j]? = some s) (A : Option Addr) (c : Nat) (hk : KidsAt W A s.kids) (hc : s.kids.length ≤ c) :
    ∃ W1, (Instr.mapUpdate 71 (.map (some B)) (.int .i64 ((j : Int) + 1)) (shapeVal A c s)).run Tryd.prog W = .ok () W1 ∧ Inv w W1 B (j + 1) := by
  obtain ⟨⟨es, hb, he⟩, hB, hg, hle⟩ := h
  have hj : j < 21 := (List.getElem?_eq_some_iff.1 hs).1
  have hf : Instr.findNow (.int .i64) (.int .i64 ((j : Int) + 1)) es.toList 0 = some none := by
    refine findNow_int_none _ _ _ _ (fun e hm => ?_)
    obtain ⟨i, hi, hie⟩ := List.getElem_of_mem hm
    have hi' : i < j := by rw [← he.1]; simpa using hi
    have hlt : i < tab.length := by show i < 21; omega
    obtain ⟨A', c', h1, _⟩ := he.2 i tab[i] hi' (List.getElem?_eq_getElem hlt)
    have h2 : es[i]? = some e := by
      rw [← hie]
      simp [show i < es.size by simpa using hi]
    rw [h1] at h2
    injection h2 with h2
    rw [← h2]
    exact ⟨(i : Int) + 1, rfl, by omega⟩
  refine ⟨withObj W B (.map (es.push { key := .int .i64 ((j : Int) + 1), val := shapeVal A c s, born := j }) (j + 1)), ?_, ?_⟩
  · have hck : (Instr.checkKey false 10000 3 (.int .i64 ((j : Int) + 1))).run Tryd.prog W = .ok () W := checkKey_int _ 9999 3 .i64 Tryd.underlying3 _ _
    simp only [Instr.mapUpdate, Sem.run_bind, run_underlying u71, Result.andThen, getObj, setObj, Sem.run, hb, hck, Instr.findKey, run_underlying Tryd.underlying3, hf]
    simp [Sem.run, hb, withObj]
  · have hbW : ∀ k, k ≠ B → (withObj W B (.map (es.push { key := .int .i64 ((j : Int) + 1), val := shapeVal A c s, born := j }) (j + 1))).heap[k]? = W.heap[k]? := fun k hk => withObj_other _ hk
    have hcell : ∀ (a : Addr) v, W.cell? a = some v → (withObj W B (.map (es.push { key := .int .i64 ((j : Int) + 1), val := shapeVal A c s, born := j }) (j + 1))).cell? a = some v := fun a v hv => by
      by_cases ha : a.block = B
      · rw [World.cell?, ha, hb] at hv
        cases hv
      · rw [World.cell?, hbW _ ha]
        exact hv
    have hty : ∀ (k : Nat) cs f, W.heap[k]? = some (.cells cs 3 f) → (withObj W B (.map (es.push { key := .int .i64 ((j : Int) + 1), val := shapeVal A c s, born := j }) (j + 1))).heap[k]? = some (.cells cs 3 f) := fun k cs f hk => by
      by_cases h : k = B
      · subst h
        rw [hb] at hk
        cases hk
      · exact (hbW k h).trans hk
    have hkids : ∀ A' ks, KidsAt W A' ks → KidsAt (withObj W B (.map (es.push { key := .int .i64 ((j : Int) + 1), val := shapeVal A c s, born := j }) (j + 1))) A' ks := fun A' ks hk i x hx => by
      obtain ⟨ad, e, hc, cs, f, ht⟩ := hk i x hx
      exact ⟨ad, e, hcell _ _ hc, cs, f, hty _ _ _ ht⟩
    refine ⟨⟨_, withObj_at hb, by simp [he.1], fun i s' hi hs' => ?_⟩, withObj_below hB hg _, hg, by omega⟩
    by_cases hij : i = j
    · subst hij
      rw [hs] at hs'
      injection hs' with hs'
      subst hs'
      exact ⟨A, c, by rw [Array.getElem?_push, if_pos he.1.symm], hkids _ _ hk, hc⟩
    · obtain ⟨A', c', h1, h2, h3⟩ := he.2 i s' (by omega) hs'
      have hsz := he.1
      exact ⟨A', c', by rw [Array.getElem?_push, if_neg (by omega)]; exact h1, hkids _ _ h2, h3⟩

theorem kids_new1 (W : World) (x : Int) : KidsAt (W.alloc (.cells #[.int .i64 x] 3)) (some ⟨W.heap.size, 0, none⟩) [x] := fun i y hy => by
  match i, hy with
  | 0, hy =>
    simp at hy
    subst hy
    exact ⟨_, rfl, by rw [show (⟨W.heap.size, 0, none⟩ : Addr).add 0 = ⟨W.heap.size, 0, none⟩ from rfl]; rw [Lib.cell_of_heap (heap_alloc_new W _)]; rfl, _, _, heap_alloc_new W _⟩
theorem kids_new2 (W : World) (x y : Int) : KidsAt (W.alloc (.cells #[.int .i64 x, .int .i64 y] 3)) (some ⟨W.heap.size, 0, none⟩) [x, y] := fun i z hz => by
  match i, hz with
  | 0, hz =>
    simp at hz
    subst hz
    exact ⟨_, rfl, by rw [show (⟨W.heap.size, 0, none⟩ : Addr).add 0 = ⟨W.heap.size, 0, none⟩ from rfl]; rw [Lib.cell_of_heap (heap_alloc_new W _)]; rfl, _, _, heap_alloc_new W _⟩
  | 1, hz =>
    simp at hz
    subst hz
    exact ⟨_, rfl, by rw [show (⟨W.heap.size, 0, none⟩ : Addr).add 1 = ⟨W.heap.size, 1, none⟩ from rfl]; rw [Lib.cell_of_heap (heap_alloc_new W _)]; rfl, _, _, heap_alloc_new W _⟩

/-- The map is whole. -/
def ShapesAt (W : World) (B : Nat) : Prop := ∃ es, W.heap[B]? = some (.map es 21) ∧ Ent W es 21

set_option maxHeartbeats 4000000 in
set_option maxRecDepth 100000 in
theorem shapes_calls (w : World) : Calls Tryd.prog 35 #[] w fun e w' => ∃ B, e = .returned (.map (some B)) ∧ ShapesAt w' B ∧ w.heap.size ≤ B ∧ Below w.heap.size w w' := by
  have hmm := @run_makeMap Tryd.prog
  have I0 : Inv w (w.alloc (.map #[] 0)) w.heap.size 0 := ⟨⟨#[], heap_alloc_new w _, rfl, fun i s hi => by omega⟩, (Below.refl _ _).alloc (Nat.le_refl _) _, Nat.le_refl _, by omega⟩
  obtain ⟨W1, r1, I1⟩ := put_entry I0 _ (rfl : tab[0]? = some _) none 0 (KidsAt.nil _ _) (Nat.le_refl _)
  replace r1 : (Instr.mapUpdate 71 (.map (some w.heap.size)) (.int .i64 1) (.agg #[.string ⟨#[112, 108, 97, 110, 101]⟩, .int .i64 1, .slice none 0 0, .int .i64 1])).run Tryd.prog ((w.alloc (.map #[] 0))) = .ok () W1 := r1
  obtain ⟨W2, r2, I2⟩ := put_entry I1 _ (rfl : tab[1]? = some _) none 0 (KidsAt.nil _ _) (Nat.le_refl _)
  replace r2 : (Instr.mapUpdate 71 (.map (some w.heap.size)) (.int .i64 2) (.agg #[.string ⟨#[97, 102, 102, 105, 110, 101]⟩, .int .i64 1, .slice none 0 0, .int .i64 1])).run Tryd.prog W1 = .ok () W2 := r2
  obtain ⟨W3, r3, I3⟩ := put_entry I2 _ (rfl : tab[2]? = some _) none 0 (KidsAt.nil _ _) (Nat.le_refl _)
  replace r3 : (Instr.mapUpdate 71 (.map (some w.heap.size)) (.int .i64 3) (.agg #[.string ⟨#[115, 111, 108, 105, 100]⟩, .int .i64 0, .slice none 0 0, .int .i64 1])).run Tryd.prog W2 = .ok () W3 := r3
  obtain ⟨W4, r4, I4⟩ := put_entry I3 _ (rfl : tab[3]? = some _) none 0 (KidsAt.nil _ _) (Nat.le_refl _)
  replace r4 : (Instr.mapUpdate 71 (.map (some w.heap.size)) (.int .i64 4) (.agg #[.string ⟨#[100, 101, 118, 101, 108, 111, 112]⟩, .int .i64 2, .slice none 0 0, .int .i64 1])).run Tryd.prog W3 = .ok () W4 := r4
  obtain ⟨W5, r5, I5⟩ := put_entry I4 _ (rfl : tab[4]? = some _) none 0 (KidsAt.nil _ _) (Nat.le_refl _)
  replace r5 : (Instr.mapUpdate 71 (.map (some w.heap.size)) (.int .i64 5) (.agg #[.string ⟨#[112, 97, 105, 114, 115]⟩, .int .i64 1, .slice none 0 0, .int .i64 1])).run Tryd.prog W4 = .ok () W5 := r5
  obtain ⟨W6, r6, I6⟩ := put_entry (I5.alloc (.cells #[.int .i64 1] 3)) _ (rfl : tab[5]? = some _) (some ⟨W5.heap.size, 0, none⟩) 1 (kids_new1 _ 1) (Nat.le_refl _)
  replace r6 : (Instr.mapUpdate 71 (.map (some w.heap.size)) (.int .i64 6) (.agg #[.string ⟨#[99, 111, 109, 112, 108, 101, 109, 101, 110, 116]⟩, .int .i64 0, .slice (some ⟨W5.heap.size, 0, none⟩) 1 1, .int .i64 1])).run Tryd.prog (W5.alloc (.cells #[.int .i64 1] 3)) = .ok () W6 := r6
  obtain ⟨W7, r7, I7⟩ := put_entry (I6.alloc (.cells #[.int .i64 1] 3)) _ (rfl : tab[6]? = some _) (some ⟨W6.heap.size, 0, none⟩) 1 (kids_new1 _ 1) (Nat.le_refl _)
  replace r7 : (Instr.mapUpdate 71 (.map (some w.heap.size)) (.int .i64 7) (.agg #[.string ⟨#[100, 117, 97, 108]⟩, .int .i64 0, .slice (some ⟨W6.heap.size, 0, none⟩) 1 1, .int .i64 1])).run Tryd.prog (W6.alloc (.cells #[.int .i64 1] 3)) = .ok () W7 := r7
  obtain ⟨W8, r8, I8⟩ := put_entry (I7.alloc (.cells #[.int .i64 1] 3)) _ (rfl : tab[7]? = some _) (some ⟨W7.heap.size, 0, none⟩) 1 (kids_new1 _ 1) (Nat.le_refl _)
  replace r8 : (Instr.mapUpdate 71 (.map (some w.heap.size)) (.int .i64 8) (.agg #[.string ⟨#[100, 101, 114, 105, 118, 101, 100]⟩, .int .i64 1, .slice (some ⟨W7.heap.size, 0, none⟩) 1 1, .int .i64 1])).run Tryd.prog (W7.alloc (.cells #[.int .i64 1] 3)) = .ok () W8 := r8
  obtain ⟨W9, r9, I9⟩ := put_entry (I8.alloc (.cells #[.int .i64 1] 3)) _ (rfl : tab[8]? = some _) (some ⟨W8.heap.size, 0, none⟩) 1 (kids_new1 _ 1) (Nat.le_refl _)
  replace r9 : (Instr.mapUpdate 71 (.map (some w.heap.size)) (.int .i64 9) (.agg #[.string ⟨#[114, 101, 115, 105, 100, 117, 97, 108]⟩, .int .i64 1, .slice (some ⟨W8.heap.size, 0, none⟩) 1 1, .int .i64 1])).run Tryd.prog (W8.alloc (.cells #[.int .i64 1] 3)) = .ok () W9 := r9
  obtain ⟨W10, r10, I10⟩ := put_entry (I9.alloc (.cells #[.int .i64 2] 3)) _ (rfl : tab[9]? = some _) (some ⟨W9.heap.size, 0, none⟩) 1 (kids_new1 _ 2) (Nat.le_refl _)
  replace r10 : (Instr.mapUpdate 71 (.map (some w.heap.size)) (.int .i64 10) (.agg #[.string ⟨#[115, 117, 112, 112, 111, 114, 116, 115]⟩, .int .i64 1, .slice (some ⟨W9.heap.size, 0, none⟩) 1 1, .int .i64 1])).run Tryd.prog (W9.alloc (.cells #[.int .i64 2] 3)) = .ok () W10 := r10
  obtain ⟨W11, r11, I11⟩ := put_entry I10 _ (rfl : tab[10]? = some _) none 0 (KidsAt.nil _ _) (Nat.le_refl _)
  replace r11 : (Instr.mapUpdate 71 (.map (some w.heap.size)) (.int .i64 11) (.agg #[.string ⟨#[114, 101, 112, 101, 97, 116]⟩, .int .i64 2, .slice none 0 0, .int .i64 2])).run Tryd.prog W10 = .ok () W11 := r11
  obtain ⟨W12, r12, I12⟩ := put_entry I11 _ (rfl : tab[11]? = some _) none 0 (KidsAt.nil _ _) (Nat.le_refl _)
  replace r12 : (Instr.mapUpdate 71 (.map (some w.heap.size)) (.int .i64 12) (.agg #[.string ⟨#[101, 118, 101, 110]⟩, .int .i64 1, .slice none 0 0, .int .i64 2])).run Tryd.prog W11 = .ok () W12 := r12
  obtain ⟨W13, r13, I13⟩ := put_entry I12 _ (rfl : tab[12]? = some _) none 0 (KidsAt.nil _ _) (Nat.le_refl _)
  replace r13 : (Instr.mapUpdate 71 (.map (some w.heap.size)) (.int .i64 13) (.agg #[.string ⟨#[104, 97, 109, 109, 105, 110, 103]⟩, .int .i64 1, .slice none 0 0, .int .i64 2])).run Tryd.prog W12 = .ok () W13 := r13
  obtain ⟨W14, r14, I14⟩ := put_entry I13 _ (rfl : tab[13]? = some _) none 0 (KidsAt.nil _ _) (Nat.le_refl _)
  replace r14 : (Instr.mapUpdate 71 (.map (some w.heap.size)) (.int .i64 14) (.agg #[.string ⟨#[114, 101, 101, 100]⟩, .int .i64 2, .slice none 0 0, .int .i64 2])).run Tryd.prog W13 = .ok () W14 := r14
  obtain ⟨W15, r15, I15⟩ := put_entry (I14.alloc (.cells #[.int .i64 1] 3)) _ (rfl : tab[14]? = some _) (some ⟨W14.heap.size, 0, none⟩) 1 (kids_new1 _ 1) (Nat.le_refl _)
  replace r15 : (Instr.mapUpdate 71 (.map (some w.heap.size)) (.int .i64 15) (.agg #[.string ⟨#[115, 112, 97, 110]⟩, .int .i64 0, .slice (some ⟨W14.heap.size, 0, none⟩) 1 1, .int .i64 2])).run Tryd.prog (W14.alloc (.cells #[.int .i64 1] 3)) = .ok () W15 := r15
  obtain ⟨W16, r16, I16⟩ := put_entry (I15.alloc (.cells #[.int .i64 2] 3)) _ (rfl : tab[15]? = some _) (some ⟨W15.heap.size, 0, none⟩) 1 (kids_new1 _ 2) (Nat.le_refl _)
  replace r16 : (Instr.mapUpdate 71 (.map (some w.heap.size)) (.int .i64 16) (.agg #[.string ⟨#[111, 114, 116, 104, 111]⟩, .int .i64 0, .slice (some ⟨W15.heap.size, 0, none⟩) 1 1, .int .i64 2])).run Tryd.prog (W15.alloc (.cells #[.int .i64 2] 3)) = .ok () W16 := r16
  obtain ⟨W17, r17, I17⟩ := put_entry (I16.alloc (.cells #[.int .i64 2] 3)) _ (rfl : tab[16]? = some _) (some ⟨W16.heap.size, 0, none⟩) 1 (kids_new1 _ 2) (Nat.le_refl _)
  replace r17 : (Instr.mapUpdate 71 (.map (some w.heap.size)) (.int .i64 17) (.agg #[.string ⟨#[101, 120, 116, 101, 110, 100]⟩, .int .i64 0, .slice (some ⟨W16.heap.size, 0, none⟩) 1 1, .int .i64 2])).run Tryd.prog (W16.alloc (.cells #[.int .i64 2] 3)) = .ok () W17 := r17
  obtain ⟨W18, r18, I18⟩ := put_entry (I17.alloc (.cells #[.int .i64 2] 3)) _ (rfl : tab[17]? = some _) (some ⟨W17.heap.size, 0, none⟩) 1 (kids_new1 _ 2) (Nat.le_refl _)
  replace r18 : (Instr.mapUpdate 71 (.map (some w.heap.size)) (.int .i64 18) (.agg #[.string ⟨#[112, 117, 110, 99, 116, 117, 114, 101]⟩, .int .i64 1, .slice (some ⟨W17.heap.size, 0, none⟩) 1 1, .int .i64 2])).run Tryd.prog (W17.alloc (.cells #[.int .i64 2] 3)) = .ok () W18 := r18
  obtain ⟨W19, r19, I19⟩ := put_entry (I18.alloc (.cells #[.int .i64 2] 3)) _ (rfl : tab[18]? = some _) (some ⟨W18.heap.size, 0, none⟩) 1 (kids_new1 _ 2) (Nat.le_refl _)
  replace r19 : (Instr.mapUpdate 71 (.map (some w.heap.size)) (.int .i64 19) (.agg #[.string ⟨#[115, 104, 111, 114, 116, 101, 110]⟩, .int .i64 1, .slice (some ⟨W18.heap.size, 0, none⟩) 1 1, .int .i64 2])).run Tryd.prog (W18.alloc (.cells #[.int .i64 2] 3)) = .ok () W19 := r19
  obtain ⟨W20, r20, I20⟩ := put_entry (I19.alloc (.cells #[.int .i64 2, .int .i64 2] 3)) _ (rfl : tab[19]? = some _) (some ⟨W19.heap.size, 0, none⟩) 2 (kids_new2 _ 2 2) (Nat.le_refl _)
  replace r20 : (Instr.mapUpdate 71 (.map (some w.heap.size)) (.int .i64 20) (.agg #[.string ⟨#[100, 111, 117, 98, 108, 101]⟩, .int .i64 0, .slice (some ⟨W19.heap.size, 0, none⟩) 2 2, .int .i64 2])).run Tryd.prog (W19.alloc (.cells #[.int .i64 2, .int .i64 2] 3)) = .ok () W20 := r20
  obtain ⟨W21, r21, I21⟩ := put_entry (I20.alloc (.cells #[.int .i64 2, .int .i64 2] 3)) _ (rfl : tab[20]? = some _) (some ⟨W20.heap.size, 0, none⟩) 2 (kids_new2 _ 2 2) (Nat.le_refl _)
  replace r21 : (Instr.mapUpdate 71 (.map (some w.heap.size)) (.int .i64 21) (.agg #[.string ⟨#[115, 117, 109]⟩, .int .i64 0, .slice (some ⟨W20.heap.size, 0, none⟩) 2 2, .int .i64 2])).run Tryd.prog (W20.alloc (.cells #[.int .i64 2, .int .i64 2] 3)) = .ok () W21 := r21
  have HI := Lib.hid I21
  clear I0 I1 I2 I3 I4 I5 I6 I7 I8 I9 I10 I11 I12 I13 I14 I15 I16 I17 I18 I19 I20 I21
  go_enter Tryd.func35, Tryd.ntmps35
  go_wp2
  go_ret
  exact ⟨_, rfl, HI.out.es, Nat.le_refl _, HI.out.below⟩
end Go.Proofs.YtjcdpmoabkfchaaDoor
