/- Small words for the walks: what a call keeps (Fr: all but one block and what is new), the library's variables (Gd), the plain lexer (tok). No program's run. -/
import Derived.Test.YtjcdpmoabkfchaaDoorMIdx
import Derived.WalkSmall
import Derived.Lib.SmallJoins
namespace Go.Proofs.YtjcdpmoabkfchaaDoor
open Go.RowKit Go.Lib

/-- w' is w, but for block g and what is new. -/
structure Fr (g : Nat) (w w' : World) : Prop where
  os : w'.os = w.os
  tape : w'.tape = w.tape
  output : w'.output = w.output
  size : w.heap.size ≤ w'.heap.size
  block : ∀ k, k < w.heap.size → k ≠ g → w'.heap[k]? = w.heap[k]?

theorem Fr.refl (g : Nat) (w : World) : Fr g w w := ⟨rfl, rfl, rfl, Nat.le_refl _, fun _ _ _ => rfl⟩
theorem Fr.trans {g : Nat} {a b c : World} (h : Fr g a b) (k : Fr g b c) : Fr g a c :=
  ⟨k.os.trans h.os, k.tape.trans h.tape, k.output.trans h.output, Nat.le_trans h.size k.size, fun i hi hg => (k.block i (Nat.lt_of_lt_of_le hi h.size) hg).trans (h.block i hi hg)⟩
theorem Fr.of_below {w w' : World} (g : Nat) (h : Below w.heap.size w w') : Fr g w w' := ⟨h.os, h.tape, h.output, h.size, fun k hk _ => h.block k hk⟩
theorem Fr.below {g : Nat} {a w w' : World} (h : Fr g a w) (k : Below w.heap.size w w') : Fr g a w' := h.trans (.of_below g k)
theorem Fr.setCell {g : Nat} {a w : World} (h : Fr g a w) (j : Nat) (v : Value) : Fr g a (w.setCell ⟨g, j, none⟩ v) :=
  h.trans ⟨rfl, rfl, rfl, by simp [World.setCell], fun k _ hg => Below.heap_setCell w ⟨g, j, none⟩ v k hg⟩
/-- A store into a block that is new since. -/
theorem Fr.setNew {g : Nat} {a w : World} (h : Fr g a w) {p : Addr} (hp : a.heap.size ≤ p.block) (v : Value) : Fr g a (w.setCell p v) :=
  ⟨h.os, h.tape, h.output, by simpa [World.setCell] using h.size, fun k hk hg => (Below.heap_setCell w p v k (by omega)).trans (h.block k hk hg)⟩
theorem Fr.alloc {g : Nat} {a w : World} (h : Fr g a w) (o : Obj) : Fr g a (w.alloc o) := h.below ((Below.refl _ _).alloc (Nat.le_refl _) o)
theorem Fr.drewN {g : Nat} {a w : World} (h : Fr g a w) (n : Nat) : Fr g a (w.drewN n) := h.below (drewN_below _ _)
theorem Fr.drew {g : Nat} {a w : World} (h : Fr g a w) : Fr g a w.drew := h.below (Below.refl _ _).drew
theorem Fr.toBelow {g B : Nat} {w w' : World} (h : Fr g w w') (hB : B ≤ g) (hs : B ≤ w.heap.size) : Below B w w' :=
  ⟨h.os, h.tape, h.output, h.size, fun k hk => h.block k (by omega) (by omega)⟩
/-- A block other than g. -/
theorem Fr.blk {g k : Nat} {w w' : World} {o : Obj} (h : Fr g w w') (hk : w.heap[k]? = some o) (hg : k ≠ g) : w'.heap[k]? = some o :=
  (h.block k (Array.getElem?_eq_some_iff.1 hk).1 hg).trans hk

theorem blk_lt' {w : World} {k : Nat} {o : Obj} (h : w.heap[k]? = some o) : k < w.heap.size := (Array.getElem?_eq_some_iff.1 h).1
theorem below_blk {w w' : World} {k : Nat} {o : Obj} (h : Below w.heap.size w w') (hk : w.heap[k]? = some o) : w'.heap[k]? = some o := (h.block k (blk_lt' hk)).trans hk
theorem blk_set1 {w : World} {g t : Nat} {v u : Value} (h : w.heap[g]? = some (.cells #[u] t (0, 0))) : (w.setCell ⟨g, 0, none⟩ v).heap[g]? = some (.cells #[v] t (0, 0)) := by
  simp [World.setCell, Array.getElem?_modify, h]

/-- What the library's variables hold, from block B on nothing matters. -/
structure Gd (B : Nat) (w : World) : Prop where
  lo : 8 ≤ B
  size : B ≤ w.heap.size
  tab : Lib.TabIs Tryd.prog w "internal/strconv.uint64pow10" .u64 Lib.pow10Tab
  syn : ∃ tp p, w.var? Tryd.prog "strconv.ErrSyntax" = some #[.iface tp p]
  rng : ∃ tp p, w.var? Tryd.prog "strconv.ErrRange" = some #[.iface tp p]

theorem Gd.below {B : Nat} {w w' : World} (h : Gd B w) (hb : Below B w w') : Gd B w' where
  lo := h.lo
  size := Nat.le_trans h.size hb.size
  tab := var?_below hb (show Tryd.prog.globalNamed "internal/strconv.uint64pow10" = some 5 by kernel_rfl) (by have := h.lo; omega) h.tab
  syn := by
    obtain ⟨tp, p, hv⟩ := h.syn
    exact ⟨tp, p, var?_below hb (show Tryd.prog.globalNamed "strconv.ErrSyntax" = some 1 by kernel_rfl) (by have := h.lo; omega) hv⟩
  rng := by
    obtain ⟨tp, p, hv⟩ := h.rng
    exact ⟨tp, p, var?_below hb (show Tryd.prog.globalNamed "strconv.ErrRange" = some 2 by kernel_rfl) (by have := h.lo; omega) hv⟩
theorem Gd.fr {B g : Nat} {w w' : World} (h : Gd B w) (hf : Fr g w w') (hg : B ≤ g) : Gd B w' := h.below (hf.toBelow hg h.size)
theorem Gd.grows {B : Nat} {w w' : World} (h : Gd B w) (hf : Below w.heap.size w w') : Gd B w' := h.below (hf.mono h.size)

/-- A string's value, by its bytes. -/
def Sv (l : List UInt8) : Value := .string ⟨l.toArray⟩

/-! ### The lexer -/
def sep (c : UInt8) : Bool := c == 32 || c == 40 || c == 41
def nsep (c : UInt8) : Bool := !sep c
/-- The number of bytes that are taken at a text that does not begin with a blank. -/
def tokLen : List UInt8 → Nat
  | [] => 0
  | c :: q => if c == 40 || c == 41 then 1 else ((c :: q).takeWhile nsep).length
def trim (l : List UInt8) : List UInt8 := l.dropWhile (· == 32)
def tok (l : List UInt8) : List UInt8 := (trim l).take (tokLen (trim l))
def rest (l : List UInt8) : List UInt8 := (trim l).drop (tokLen (trim l))

theorem tokLen_le : ∀ l : List UInt8, tokLen l ≤ l.length
  | [] => Nat.le_refl _
  | c :: q => by
    simp only [tokLen]
    by_cases h : (c == 40 || c == 41) = true
    · rw [if_pos h]; simp
    · rw [if_neg h]; exact (List.takeWhile_sublist _).length_le
theorem trim_length (l : List UInt8) : (trim l).length ≤ l.length := (List.dropWhile_sublist _).length_le
theorem rest_length (l : List UInt8) : (rest l).length ≤ l.length := by
  unfold rest
  have := trim_length l
  rw [List.length_drop]
  omega
theorem tok_length (l : List UInt8) : (tok l).length ≤ l.length := by
  unfold tok
  have := trim_length l
  rw [List.length_take]
  omega
theorem trim_head {l : List UInt8} {c : UInt8} {q : List UInt8} (h : trim l = c :: q) : c ≠ 32 := by
  intro hc
  have := List.head_dropWhile_not (p := (· == (32 : UInt8))) (l := l) (w := by rw [show List.dropWhile (· == (32 : UInt8)) l = c :: q from h]; simp)
  simp only [show List.dropWhile (· == (32 : UInt8)) l = c :: q from h] at this
  simp [hc] at this

theorem indexAny_takeWhile : ∀ l : List UInt8, Lib.indexAny l [32, 40, 41] = if (l.takeWhile nsep).length = l.length then -1 else ((l.takeWhile nsep).length : Int)
  | [] => rfl
  | c :: q => by
    have ih := indexAny_takeWhile q
    have hle := (List.takeWhile_sublist nsep (l := q)).length_le
    have hcon : ([32, 40, 41] : List UInt8).contains c = sep c := by
      simp only [sep, List.contains_eq_mem, List.mem_cons, List.mem_nil_iff, or_false, Bool.decide_or, Bool.or_assoc]
      rfl
    unfold Lib.indexAny
    rw [hcon]
    cases hs : sep c
    · have hn : nsep c = true := by simp [nsep, hs]
      rw [List.takeWhile_cons_of_pos hn, ih]
      simp only [Bool.false_eq_true, if_false, List.length_cons]
      by_cases he : (List.takeWhile nsep q).length = q.length
      · simp [he]
      · have h1 : (((List.takeWhile nsep q).length : Int) == -1) = false := by
          rw [beq_eq_false_iff_ne]; omega
        have h2 : ¬ (List.takeWhile nsep q).length + 1 = q.length + 1 := fun h => he (Nat.succ.inj h)
        rw [if_neg he, h1, if_neg h2]
        rfl
    · have hn : ¬ nsep c = true := by simp [nsep, hs]
      rw [List.takeWhile_cons_of_neg hn]
      simp
end Go.Proofs.YtjcdpmoabkfchaaDoor
