/- What a look-up in the map of shapes answers, operator by operator. -/
import Derived.Test.YtjcdpmoabkfchaaDoorMShapes
import Derived.Maps.OwnOps
set_option linter.unusedSimpArgs false
namespace Go.Proofs.YtjcdpmoabkfchaaDoor
open Go.RowKit Go.Lib

def zero70 : Value := .agg #[.string ⟨#[]⟩, .int .i64 0, .slice none 0 0, .int .i64 0]

theorem shp_some {op : Int} {s : Shape} (h : shp op = some s) : ∃ j : Nat, j < 21 ∧ op = (j : Int) + 1 ∧ tab[j]? = some s := by
  unfold shp at h
  split at h
  · rename_i h1
    have hj := (List.getElem?_eq_some_iff.1 h).1
    exact ⟨op.toNat - 1, hj, by omega, h⟩
  · cases h
theorem shp_none {op : Int} (h : shp op = none) : op < 1 ∨ 21 < op := by
  unfold shp at h
  split at h
  · rename_i h1
    have := List.getElem?_eq_none_iff.1 h
    have h2 : tab.length = 21 := rfl
    omega
  · omega

theorem lookup_hit {W : World} {B : Nat} (h : ShapesAt W B) {op : Int} {s : Shape} (hs : shp op = some s) :
    ∃ A c, (Instr.lookup 71 (.map (some B)) (.int .i64 op) true).run Tryd.prog W = .ok (.tuple #[shapeVal A c s, .bool true]) W ∧
      (Instr.lookup 71 (.map (some B)) (.int .i64 op) false).run Tryd.prog W = .ok (shapeVal A c s) W ∧ KidsAt W A s.kids ∧ s.kids.length ≤ c := by
  obtain ⟨j, hj, rfl, ht⟩ := shp_some hs
  obtain ⟨es, hb, he⟩ := h
  obtain ⟨A, c, h1, h2, h3⟩ := he.2 j s hj ht
  have hf : Instr.findNow (.int .i64) (.int .i64 ((j : Int) + 1)) es.toList 0 = some (some (0 + j, shapeVal A c s)) := by
    refine findNow_int_at _ _ _ _ 0 j _ (by simpa using h1) rfl rfl (fun i e' hi hie => ?_)
    have hlt : i < tab.length := by show i < 21; omega
    obtain ⟨A', c', h4, _⟩ := he.2 i tab[i] (by omega) (List.getElem?_eq_getElem hlt)
    have h5 : es[i]? = some e' := by simpa using hie
    rw [h4] at h5
    injection h5 with h5
    rw [← h5]
    exact ⟨(i : Int) + 1, rfl, by omega⟩
  have hck : ∀ b, (Instr.checkKey b 10000 3 (.int .i64 ((j : Int) + 1))).run Tryd.prog W = .ok () W := fun b => checkKey_int b 9999 3 .i64 Tryd.underlying3 _ _
  refine ⟨A, c, ?_, ?_, h2, h3⟩ <;>
  · simp only [Instr.lookup, Sem.run_bind, run_underlying u71, Result.andThen, getObj, Sem.run, hb, hck, Instr.findKey, run_underlying Tryd.underlying3, hf]
    simp [Sem.run, hb, hck, hf]

theorem lookup_miss {W : World} {B : Nat} (h : ShapesAt W B) {op : Int} (hs : shp op = none) :
    (Instr.lookup 71 (.map (some B)) (.int .i64 op) true).run Tryd.prog W = .ok (.tuple #[zero70, .bool false]) W ∧
      (Instr.lookup 71 (.map (some B)) (.int .i64 op) false).run Tryd.prog W = .ok zero70 W := by
  have ho := shp_none hs
  obtain ⟨es, hb, he⟩ := h
  have hf : Instr.findNow (.int .i64) (.int .i64 op) es.toList 0 = some none := by
    refine findNow_int_none _ _ _ _ (fun e hm => ?_)
    obtain ⟨i, hi, hie⟩ := List.getElem_of_mem hm
    have hi' : i < 21 := by rw [← he.1]; simpa using hi
    have hlt : i < tab.length := hi'
    obtain ⟨A', c', h1, _⟩ := he.2 i tab[i] hi' (List.getElem?_eq_getElem hlt)
    have h2 : es[i]? = some e := by
      rw [← hie]
      simp [show i < es.size by simpa using hi]
    rw [h1] at h2
    injection h2 with h2
    rw [← h2]
    exact ⟨(i : Int) + 1, rfl, by omega⟩
  have hck : ∀ b, (Instr.checkKey b 10000 3 (.int .i64 op)).run Tryd.prog W = .ok () W := fun b => checkKey_int b 9999 3 .i64 Tryd.underlying3 _ _
  have hz : (zeroValue 70).run Tryd.prog W = .ok zero70 W := by kernel_rfl
  refine ⟨?_, ?_⟩ <;>
  · simp only [Instr.lookup, Sem.run_bind, run_underlying u71, Result.andThen, getObj, Sem.run, hb, hck, Instr.findKey, run_underlying Tryd.underlying3, hf]
    simp [Sem.run, hb, hck, hf, hz]

theorem ShapesAt.below {W W' : World} {B : Nat} (h : ShapesAt W B) (hb : Below W.heap.size W W') : ShapesAt W' B := by
  obtain ⟨es, h1, h2⟩ := h
  refine ⟨es, below_blk hb h1, h2.1, fun i s hi hs => ?_⟩
  obtain ⟨A, c, h3, h4, h5⟩ := h2.2 i s hi hs
  exact ⟨A, c, h3, h4.below hb, h5⟩

/-- The same, now and in whatever later world. -/
theorem lookup_later {W : World} {B : Nat} (h : ShapesAt W B) {op : Int} {s : Shape} (hs : shp op = some s) :
    ∃ A c, (∀ W', Below W.heap.size W W' → (Instr.lookup 71 (.map (some B)) (.int .i64 op) true).run Tryd.prog W' = .ok (.tuple #[.agg #[.string ⟨s.word.toArray⟩, .int .i64 (s.numbers : Int), .slice A s.kids.length c, .int .i64 s.sort], .bool true]) W' ∧
      (Instr.lookup 71 (.map (some B)) (.int .i64 op) false).run Tryd.prog W' = .ok (.agg #[.string ⟨s.word.toArray⟩, .int .i64 (s.numbers : Int), .slice A s.kids.length c, .int .i64 s.sort]) W') ∧ KidsAt W A s.kids ∧ s.kids.length ≤ c := by
  obtain ⟨j, hj, rfl, ht⟩ := shp_some hs
  obtain ⟨es, hb0, he⟩ := h
  obtain ⟨A, c, h1, h2, h3⟩ := he.2 j s hj ht
  have hf : Instr.findNow (.int .i64) (.int .i64 ((j : Int) + 1)) es.toList 0 = some (some (0 + j, shapeVal A c s)) := by
    refine findNow_int_at _ _ _ _ 0 j _ (by simpa using h1) rfl rfl (fun i e' hi hie => ?_)
    have hlt : i < tab.length := by show i < 21; omega
    obtain ⟨A', c', h4, _⟩ := he.2 i tab[i] (by omega) (List.getElem?_eq_getElem hlt)
    have h5 : es[i]? = some e' := by simpa using hie
    rw [h4] at h5
    injection h5 with h5
    rw [← h5]
    exact ⟨(i : Int) + 1, rfl, by omega⟩
  refine ⟨A, c, fun W' hW => ?_, h2, h3⟩
  have hb := below_blk hW hb0
  have hck : ∀ b, (Instr.checkKey b 10000 3 (.int .i64 ((j : Int) + 1))).run Tryd.prog W' = .ok () W' := fun b => checkKey_int b 9999 3 .i64 Tryd.underlying3 _ _
  refine ⟨?_, ?_⟩ <;>
  · simp only [Instr.lookup, Sem.run_bind, run_underlying u71, Result.andThen, getObj, Sem.run, hb, hck, Instr.findKey, run_underlying Tryd.underlying3, hf]
    simp [Sem.run, hb, hck, hf, shapeVal, Sv]
theorem lookup_later_miss {W : World} {B : Nat} (h : ShapesAt W B) {op : Int} (hs : shp op = none) : ∀ W', Below W.heap.size W W' →
    (Instr.lookup 71 (.map (some B)) (.int .i64 op) true).run Tryd.prog W' = .ok (.tuple #[.agg #[.string ⟨#[]⟩, .int .i64 0, .slice none 0 0, .int .i64 0], .bool false]) W' ∧
      (Instr.lookup 71 (.map (some B)) (.int .i64 op) false).run Tryd.prog W' = .ok (.agg #[.string ⟨#[]⟩, .int .i64 0, .slice none 0 0, .int .i64 0]) W' := fun _ hb => lookup_miss (h.below hb) hs

/-- The shape of an operator, or the zero value. -/
def shpD (op : Int) : Shape := (shp op).getD ⟨[], 0, [], 0⟩
theorem lookup_any {W : World} {B : Nat} (h : ShapesAt W B) (op : Int) :
    ∃ A c, (∀ W', Below W.heap.size W W' → (Instr.lookup 71 (.map (some B)) (.int .i64 op) true).run Tryd.prog W' = .ok (.tuple #[.agg #[.string ⟨(shpD op).word.toArray⟩, .int .i64 ((shpD op).numbers : Int), .slice A (shpD op).kids.length c, .int .i64 (shpD op).sort], .bool (shp op).isSome]) W' ∧
      (Instr.lookup 71 (.map (some B)) (.int .i64 op) false).run Tryd.prog W' = .ok (.agg #[.string ⟨(shpD op).word.toArray⟩, .int .i64 ((shpD op).numbers : Int), .slice A (shpD op).kids.length c, .int .i64 (shpD op).sort]) W') ∧ KidsAt W A (shpD op).kids ∧ (shpD op).kids.length ≤ c := by
  cases hs : shp op with
  | none =>
    refine ⟨none, 0, fun W' hb => ?_, ?_, ?_⟩
    · have := lookup_later_miss h hs W' hb
      simp only [shpD, hs]
      exact this
    · simp only [shpD, hs]
      exact KidsAt.nil _ _
    · simp [shpD, hs]
  | some s =>
    obtain ⟨A, c, h1, h2, h3⟩ := lookup_later h hs
    refine ⟨A, c, fun W' hb => ?_, ?_, ?_⟩
    · have := h1 W' hb
      simp only [shpD, hs]
      exact this
    · simpa [shpD, hs] using h2
    · simpa [shpD, hs] using h3

/-- A variable of a shape's type that the walk has made since w1, holding s. -/
def Got (w1 wc : World) (s : Shape) (g5 : Nat) : Prop := ∃ A5 c5, wc.heap[g5]? = some (.cells #[Sv s.word, .int .i64 (s.numbers : Int), .slice A5 s.kids.length c5, .int .i64 s.sort] 70 (0, 0)) ∧
  KidsAt wc A5 s.kids ∧ s.kids.length ≤ c5 ∧ w1.heap.size ≤ g5
theorem Got.below {w1 wc w' : World} {s : Shape} {g5 : Nat} (h : Got w1 wc s g5) (hb : Below wc.heap.size wc w') : Got w1 w' s g5 := by
  obtain ⟨A, c, h1, h2, h3, h4⟩ := h
  exact ⟨A, c, below_blk hb h1, h2.below hb, h3, h4⟩
theorem got_new {w1 w2 : World} {s : Shape} {A : Option Addr} {c : Nat} (hb : Below w1.heap.size w1 w2) (hk : KidsAt w2 A s.kids) (hc : s.kids.length ≤ c) :
    Got w1 (w2.alloc (.cells #[.string ⟨s.word.toArray⟩, .int .i64 (s.numbers : Int), .slice A s.kids.length c, .int .i64 s.sort] 70)) s w2.heap.size ∧
      Below w1.heap.size w1 (w2.alloc (.cells #[.string ⟨s.word.toArray⟩, .int .i64 (s.numbers : Int), .slice A s.kids.length c, .int .i64 s.sort] 70)) :=
  ⟨⟨A, c, heap_alloc_new _ _, hk.below ((Below.refl _ _).alloc (Nat.le_refl _) _), hc, hb.size⟩, hb.alloc hb.size _⟩
theorem blk_set4 {w : World} {g t : Nat} {u0 u1 u2 u3 v0 v1 v2 v3 : Value} (h : w.heap[g]? = some (.cells #[u0, u1, u2, u3] t (0, 0))) :
    ((((w.setCell ⟨g, 0, none⟩ v0).setCell ⟨g, 1, none⟩ v1).setCell ⟨g, 2, none⟩ v2).setCell ⟨g, 3, none⟩ v3).heap[g]? = some (.cells #[v0, v1, v2, v3] t (0, 0)) := by
  simp [World.setCell, Array.getElem?_modify, h]
theorem blk_set_any {w : World} {g t j : Nat} {cs : Array Value} {f : Nat × Nat} {v : Value} (h : w.heap[g]? = some (.cells cs t f)) : ∃ cs', (w.setCell ⟨g, j, none⟩ v).heap[g]? = some (.cells cs' t f) := by
  simp [World.setCell, Array.getElem?_modify, h]
theorem got_set {w1 w2 : World} {s : Shape} {A : Option Addr} {c : Nat} {u0 u1 u2 u3 : Value} (hz : w2.heap[w1.heap.size]? = some (.cells #[u0, u1, u2, u3] 70 (0, 0))) (hb : Below w1.heap.size w1 w2) (hk : KidsAt w2 A s.kids) (hc : s.kids.length ≤ c) :
    Got w1 ((((w2.setCell ⟨w1.heap.size, 0, none⟩ (.string ⟨s.word.toArray⟩)).setCell ⟨w1.heap.size, 1, none⟩ (.int .i64 (s.numbers : Int))).setCell ⟨w1.heap.size, 2, none⟩ (.slice A s.kids.length c)).setCell ⟨w1.heap.size, 3, none⟩ (.int .i64 s.sort)) s w1.heap.size ∧
      Below w1.heap.size w1 ((((w2.setCell ⟨w1.heap.size, 0, none⟩ (.string ⟨s.word.toArray⟩)).setCell ⟨w1.heap.size, 1, none⟩ (.int .i64 (s.numbers : Int))).setCell ⟨w1.heap.size, 2, none⟩ (.slice A s.kids.length c)).setCell ⟨w1.heap.size, 3, none⟩ (.int .i64 s.sort)) := by
  refine ⟨⟨A, c, blk_set4 hz, ?_, hc, Nat.le_refl _⟩, (((hb.setCell (Nat.le_refl _) _).setCell (Nat.le_refl _) _).setCell (Nat.le_refl _) _).setCell (Nat.le_refl _) _⟩
  obtain ⟨_, h1⟩ := blk_set_any (j := 0) (v := .string ⟨s.word.toArray⟩) hz
  obtain ⟨_, h2⟩ := blk_set_any (j := 1) (v := .int .i64 (s.numbers : Int)) h1
  obtain ⟨_, h3⟩ := blk_set_any (j := 2) (v := .slice A s.kids.length c) h2
  exact (((hk.setCell hz (by decide) 0 _).setCell h1 (by decide) 1 _).setCell h2 (by decide) 2 _).setCell h3 (by decide) 3 _
end Go.Proofs.YtjcdpmoabkfchaaDoor
