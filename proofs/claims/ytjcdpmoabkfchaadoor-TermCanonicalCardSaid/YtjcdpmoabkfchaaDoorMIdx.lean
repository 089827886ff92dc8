/- strings.IndexAny(s, " ()") at every string s of at most 4294967280 bytes: the index of the first byte that is a blank or a parenthesis, or -1; below the heap's end the world is as it was. -/
import Derived.Test.YtjcdpmoabkfchaaDoorProg
import Derived.Test.YtjcdpmoabkfchaaDoorShelf
import Derived.Shelf.Strings.IndexAnyAll
import Derived.Shelf.Strings.Runes
import Derived.Laws.Runes
import Derived.Deep.QuietTactic
import Derived.BigQuiet
import Derived.WalkKit
import Derived.WalkSpells
import Derived.Lib.Hide
import Derived.Laws.RangeString
import Derived.Deep.LoopGhost
import Derived.Outline
namespace Go.Proofs.YtjcdpmoabkfchaaDoor
open Go.RowKit Go.Lib Go.Shelf

theorem drewN_belowB (B : Nat) (w : World) (n : Nat) : Below B w (w.drewN n) := ⟨rfl, rfl, rfl, Nat.le_refl _, fun _ _ => rfl⟩
theorem drewN_below (w : World) (n : Nat) : Below w.heap.size w (w.drewN n) := drewN_belowB _ _ _

theorem indexByte_high : ∀ (l : List UInt8) (c : UInt8), (∀ b ∈ l, b.toNat < 128) → 128 ≤ c.toNat → Lib.indexByte l c = -1
  | [], _, _, _ => rfl
  | b :: l, c, hl, hc => by
    have hb := hl b (List.mem_cons_self ..)
    have hne : ¬ b = c := fun h => by rw [h] at hb; omega
    have ih := indexByte_high l c (fun x hx => hl x (List.mem_cons_of_mem _ hx)) hc
    simp [Lib.indexByte, hne, ih]

theorem cset_ascii (i j : Nat) : ∀ b ∈ (ByteArray.extract ⟨#[32, 40, 41]⟩ i j).data.toList, b.toNat < 128 := fun b hb => by
  have h := mem_extract hb
  simp at h
  rcases h with rfl | rfl | rfl <;> decide
theorem indexByte_high_calls (s : ByteArray) (c : UInt8) (w : World) (hs : ∀ b ∈ s.data.toList, b.toNat < 128) (hc : 128 ≤ c.toNat) :
    Calls Tryd.prog 71 #[.string s, .int .u8 (c.toNat : Int)] w fun e w' => e = .returned (.int .i64 (-1)) ∧ w' = w := by
  refine (Tryd.strings_IndexByte s _ w).mono ?_
  rintro e w' ⟨rfl, rfl⟩
  have h : ((c.toNat : Int)).toNat.toUInt8 = c := by simp
  rw [h, indexByte_high _ _ hs hc]
  exact ⟨rfl, rfl⟩

set_option maxHeartbeats 1000000 in
set_option maxRecDepth 100000 in
theorem indexRune_multi (r : Int) (h1 : 128 ≤ r) (h2 : r ≠ 65533) (hv : Utf8.valid r = true) (w : World) :
    Calls Tryd.prog 62 #[.string ⟨#[32, 40, 41]⟩, .int .i32 r] w fun e w' => e = .returned (.int .i64 (-1)) ∧ Below w.heap.size w w' := by
  have hr : decide (r < 128) = false := decide_eq_false (by omega)
  have hr0 : decide (0 ≤ r) = true := decide_eq_true (by omega)
  have hr2 : (r == 65533) = false := beq_eq_false_iff_ne.2 h2
  have hvr : Lib.validRune r = true := by
    simp only [Utf8.valid] at hv
    simp only [Lib.validRune]
    simp at hv ⊢
    omega
  obtain ⟨he1, he2, he3⟩ := encode_facts r hv h1
  obtain ⟨E, hE⟩ : ∃ E, Utf8.encode r = E := ⟨_, rfl⟩
  rw [hE] at he1 he2 he3
  have hw2 : IntKind.i64.wrap 2 = 2 := by decide
  have hw3 : IntKind.i64.wrap 3 = 3 := by decide
  have hsz : E.size = 2 ∨ E.size = 3 ∨ E.size = 4 := by omega
  rcases hsz with hsz | hsz | hsz
  · obtain ⟨b, hb⟩ : ∃ b, E[1]'(by omega) = b := ⟨_, rfl⟩
    have hb1 : 128 ≤ b.toNat := by have := he3 (by omega); simp only [hsz] at this; rw [← hb]; exact this
    have hb2 : ((((⟨#[32, 40, 41]⟩ : ByteArray)[1]'(by decide)).toNat : Int) != (b.toNat : Int)) = true := by
      rw [bne_iff_ne]
      have : ((⟨#[32, 40, 41]⟩ : ByteArray)[1]'(by decide)).toNat = 40 := rfl
      omega
    have HX := Lib.hid (cset_ascii 2 3)
    clear he1 he2 he3
    go_enter Tryd.func62, Tryd.ntmps62
    go_wp2_with (go_at_call 72; refine (Tryd.utf8_ValidRune _ _).mono ?_; rintro e w1 ⟨rfl, hw⟩; rw [hvr, hw]; clear hw)
    go_step3
    go_wp2_with fail
    refine wp_loop_once ?_
    go_wp2_with fail
    go_step3
    go_wp2_with fail
    go_quiet (fail)
    go_wp2_with fail
    have hB := Lib.hid (drewN_below w nq)
    generalize w.drewN nq = w2 at *
    go_quiet ((go_at_call 71; exact Calls.quiet_of_same (indexByte_high_calls _ b _ HX.out hb1)))
    go_wp2
    refine (show bodyPost Tryd.prog Tryd.f62 (fun e w' => e = .returned (.int .i64 (-1)) ∧ Below w.heap.size w w') .ret _ _ from ?_)
    go_ret
    exact ⟨rfl, hB.out.trans (drewN_belowB _ _ _)⟩
  · obtain ⟨b, hb⟩ : ∃ b, E[2]'(by omega) = b := ⟨_, rfl⟩
    have hb1 : 128 ≤ b.toNat := by have := he3 (by omega); simp only [hsz] at this; rw [← hb]; exact this
    have hb2 : ((((⟨#[32, 40, 41]⟩ : ByteArray)[2]'(by decide)).toNat : Int) != (b.toNat : Int)) = true := by
      rw [bne_iff_ne]
      have : ((⟨#[32, 40, 41]⟩ : ByteArray)[2]'(by decide)).toNat = 41 := rfl
      omega
    have HX := Lib.hid (cset_ascii 3 3)
    clear he1 he2 he3
    go_enter Tryd.func62, Tryd.ntmps62
    go_wp2_with (go_at_call 72; refine (Tryd.utf8_ValidRune _ _).mono ?_; rintro e w1 ⟨rfl, hw⟩; rw [hvr, hw]; clear hw)
    go_step3
    go_wp2_with fail
    refine wp_loop_once ?_
    go_wp2_with fail
    go_step3
    go_wp2_with fail
    go_quiet (fail)
    go_wp2_with fail
    have hB := Lib.hid (drewN_below w nq)
    generalize w.drewN nq = w2 at *
    go_quiet ((go_at_call 71; exact Calls.quiet_of_same (indexByte_high_calls _ b _ HX.out hb1)))
    go_wp2
    refine (show bodyPost Tryd.prog Tryd.f62 (fun e w' => e = .returned (.int .i64 (-1)) ∧ Below w.heap.size w w') .ret _ _ from ?_)
    go_ret
    exact ⟨rfl, hB.out.trans (drewN_belowB _ _ _)⟩
  · clear he1 he2 he3
    go_enter Tryd.func62, Tryd.ntmps62
    go_wp2_with (go_at_call 72; refine (Tryd.utf8_ValidRune _ _).mono ?_; rintro e w1 ⟨rfl, hw⟩; rw [hvr, hw]; clear hw)
    go_step3
    go_wp2_with fail
    refine wp_loop_once ?_
    go_wp2_with fail
    rw [Exit.noGoto_ret]
    go_ret
    exact ⟨rfl, Below.refl _ _⟩

set_option maxHeartbeats 1000000 in
set_option maxRecDepth 100000 in
theorem indexRune_error (w : World) :
    Calls Tryd.prog 62 #[.string ⟨#[32, 40, 41]⟩, .int .i32 65533] w fun e w' => e = .returned (.int .i64 (-1)) ∧ Below w.heap.size w w' := by
  go_enter Tryd.func62, Tryd.ntmps62
  go_wp2_with fail
  go_loopg [5, 6] 3 (fun g _ _ wx => ∃ i : Nat, i + g = 3 ∧ wx = w.iter ⟨#[32, 40, 41]⟩ i)
  case atStart => exact ⟨0, by omega, rfl⟩
  case round =>
    obtain ⟨i, hig, rfl⟩ := hrel
    have h3 : ∀ (j : Nat) (h : j < (⟨#[32, 40, 41]⟩ : ByteArray).size), ((⟨#[32, 40, 41]⟩ : ByteArray)[j]'h).toNat < 128 ∧ ((⟨#[32, 40, 41]⟩ : ByteArray)[j]'h).toNat ≠ 65533 := fun j h => by
      have : j = 0 ∨ j = 1 ∨ j = 2 := by
        have : (⟨#[32, 40, 41]⟩ : ByteArray).size = 3 := rfl
        omega
      rcases this with rfl | rfl | rfl <;> exact ⟨by decide +revert, by decide +revert⟩
    cases gk with
    | zero =>
      obtain rfl : i = 3 := by omega
      have hnx := run_next_end (P := Tryd.prog) w ⟨#[32, 40, 41]⟩ 3
      clear h3
      go_wp2
      go_ret
      exact ⟨rfl, (Below.refl _ _).alloc (Nat.le_refl _) _⟩
    | succ g =>
      have hi : i < (⟨#[32, 40, 41]⟩ : ByteArray).size := by
        have : (⟨#[32, 40, 41]⟩ : ByteArray).size = 3 := rfl
        omega
      have hnx := fun ty => run_next_ascii (P := Tryd.prog) w ⟨#[32, 40, 41]⟩ i ty hi (h3 i hi).1
      obtain ⟨x, hx⟩ : ∃ x : Nat, ((⟨#[32, 40, 41]⟩ : ByteArray)[i]'hi).toNat = x := ⟨_, rfl⟩
      have hne : ((x : Int) == 65533) = false := by
        rw [beq_eq_false_iff_ne]
        have := (h3 i hi).2
        omega
      rw [hx] at hnx
      clear h3 hx
      go_wp2
      go_roundg g
      case measure => omega
      case rel => exact ⟨i + 1, by omega, rfl⟩

theorem get_at (s : ByteArray) (i : Nat) (h : i < s.size) : (s.get! i).toNat = (s[i]'h).toNat := by
  have : s.get! i = s[i]'h := by
    simp [ByteArray.get!, getElem!_pos, h]
    rfl
  rw [this]

theorem decode_high (s : ByteArray) (pos : Nat) (h : pos < s.size) (ha : 128 ≤ (s[pos]'h).toNat) :
    ∃ c wd : Nat, Utf8.decode s pos = (c, wd) ∧ 1 ≤ wd ∧ pos + wd ≤ s.size ∧ (∀ (j : Nat) (hj : j < s.size), pos ≤ j → j < pos + wd → 128 ≤ (s[j]'hj).toNat) ∧
      (c = 65533 ∨ (128 ≤ c ∧ c ≠ 65533 ∧ Utf8.valid (c : Int) = true)) := by
  have hone : ∀ (j : Nat) (hj : j < s.size), pos ≤ j → j < pos + 1 → 128 ≤ (s[j]'hj).toNat := fun j hj h1 h2 => by
    obtain rfl : j = pos := by omega
    exact ha
  have hcont : ∀ k, (decide (pos + k < s.size) && ((s.get! (pos + k)).toNat / 64 == 2)) = true → ∃ hj : pos + k < s.size, 128 ≤ (s[pos + k]'hj).toNat := fun k hk => by
    simp only [Bool.and_eq_true, decide_eq_true_eq, beq_iff_eq] at hk
    refine ⟨hk.1, ?_⟩
    rw [← get_at s _ hk.1]
    omega
  have hb0 : (s.get! (pos + 0)).toNat = (s[pos]'h).toNat := get_at s pos h
  have herr : ∃ c wd : Nat, (Utf8.runeError, 1) = (c, wd) ∧ 1 ≤ wd ∧ pos + wd ≤ s.size ∧ (∀ (j : Nat) (hj : j < s.size), pos ≤ j → j < pos + wd → 128 ≤ (s[j]'hj).toNat) ∧
      (c = 65533 ∨ (128 ≤ c ∧ c ≠ 65533 ∧ Utf8.valid (c : Int) = true)) := ⟨_, _, rfl, Nat.le_refl _, by omega, hone, .inl rfl⟩
  unfold Utf8.decode
  simp only
  rw [if_neg (by omega)]
  split
  · rename_i h2
    rw [Bool.and_eq_true] at h2
    obtain ⟨hj1, hc1⟩ := hcont 1 h2.2
    split
    · rename_i hc
      refine ⟨_, _, rfl, by omega, by omega, fun j hj h3 h4 => ?_, ?_⟩
      · rcases (by omega : j = pos ∨ j = pos + 1) with rfl | rfl
        · exact ha
        · exact hc1
      · have h5 := h2.1
        simp only [beq_iff_eq] at h5
        refine .inr ⟨hc, by omega, ?_⟩
        simp only [Utf8.valid]
        simp
        omega
    · exact herr
  · split
    · rename_i h2
      rw [Bool.and_eq_true, Bool.and_eq_true] at h2
      obtain ⟨hj1, hc1⟩ := hcont 1 h2.1.2
      obtain ⟨hj2, hc2⟩ := hcont 2 h2.2
      split
      · rename_i hc
        simp only [ge_iff_le, Bool.and_eq_true, decide_eq_true_eq] at hc
        refine ⟨_, _, rfl, by omega, by omega, fun j hj h3 h4 => ?_, ?_⟩
        · rcases (by omega : j = pos ∨ j = pos + 1 ∨ j = pos + 2) with rfl | rfl | rfl
          · exact ha
          · exact hc1
          · exact hc2
        · by_cases he : ((s.get! (pos + 0)).toNat % 16) * 4096 + ((s.get! (pos + 1)).toNat % 64) * 64 + (s.get! (pos + 2)).toNat % 64 = 65533
          · exact .inl he
          · exact .inr ⟨by omega, he, hc.2⟩
      · exact herr
    · split
      · rename_i h2
        rw [Bool.and_eq_true, Bool.and_eq_true, Bool.and_eq_true] at h2
        obtain ⟨hj1, hc1⟩ := hcont 1 h2.1.1.2
        obtain ⟨hj2, hc2⟩ := hcont 2 h2.1.2
        obtain ⟨hj3, hc3⟩ := hcont 3 h2.2
        split
        · rename_i hc
          simp only [ge_iff_le, Bool.and_eq_true, decide_eq_true_eq] at hc
          refine ⟨_, _, rfl, by omega, by omega, fun j hj h3 h4 => ?_, ?_⟩
          · rcases (by omega : j = pos ∨ j = pos + 1 ∨ j = pos + 2 ∨ j = pos + 3) with rfl | rfl | rfl | rfl
            · exact ha
            · exact hc1
            · exact hc2
            · exact hc3
          · exact .inr ⟨by omega, by omega, hc.2⟩
        · exact herr
      · exact herr

def withObj (w : World) (k : Nat) (o : Obj) : World := { w with heap := w.heap.setIfInBounds k o }
theorem withObj_at {w : World} {k : Nat} {o o' : Obj} (h : w.heap[k]? = some o) : (withObj w k o').heap[k]? = some o' := by
  have hk : k < w.heap.size := (Array.getElem?_eq_some_iff.1 h).1
  simp [withObj, hk]
theorem withObj_other {w : World} {k j : Nat} (o : Obj) (h : j ≠ k) : (withObj w k o).heap[j]? = w.heap[j]? := by
  simp only [withObj]
  rw [Array.getElem?_setIfInBounds]
  simp [Ne.symm h]
theorem withObj_size (w : World) (k : Nat) (o : Obj) : (withObj w k o).heap.size = w.heap.size := by simp [withObj]
theorem withObj_below {B k : Nat} {a w : World} (h : Below B a w) (hk : B ≤ k) (o : Obj) : Below B a (withObj w k o) :=
  h.trans ⟨rfl, rfl, rfl, by rw [withObj_size]; exact Nat.le_refl _, fun i hi => withObj_other o (by omega)⟩

theorem run_next_at {P : Program} (w : World) (k : Nat) (s : ByteArray) (pos : Nat) (ty : TypeId) (hk : w.heap[k]? = some (.stringIter s pos)) (h : pos < s.size) (c wd : Nat) (hd : Utf8.decode s pos = (c, wd)) :
    (Instr.next (.pointer (some ⟨k, 0, none⟩)) true ty).run P w =
      .ok (.tuple #[.bool true, .int .i64 pos, .int .i32 (c : Int)]) (withObj w k (.stringIter s (pos + wd))) := by
  simp only [Instr.next, getObj, setObj, Sem.run_bind, Sem.run, hk, Result.andThen, h, if_true, hd]
  simp [goInt, withObj]
theorem run_next_over {P : Program} (w : World) (k : Nat) (s : ByteArray) (pos : Nat) (ty : TypeId) (hk : w.heap[k]? = some (.stringIter s pos)) (h : ¬ pos < s.size) :
    (Instr.next (.pointer (some ⟨k, 0, none⟩)) true ty).run P w = .ok (.tuple #[.bool false]) w := by
  simp [Instr.next, getObj, Sem.run, hk, h]

theorem noAny_steps {s chars : List UInt8} {i n : Nat} (h : Lib.NoAny s chars i) (hn : ∀ j b, i ≤ j → j < i + n → s[j]? = some b → chars.contains b = false) : Lib.NoAny s chars (i + n) := fun j b hj hb => by
  by_cases hji : j < i
  · exact h j b hji hb
  · exact hn j b (by omega) hj hb

set_option maxHeartbeats 2000000 in
set_option maxRecDepth 100000 in
theorem indexAny_short (s : ByteArray) (w : World) (h8 : s.size ≤ 8) :
    Calls Tryd.prog 45 #[.string s, .string ⟨#[32, 40, 41]⟩] w fun e w' => e = .returned (.int .i64 (Lib.indexAny s.data.toList [32, 40, 41])) ∧ Below w.heap.size w w' := by
  have h8z : decide ((8 : Int) < (s.size : Int)) = false := decide_eq_false (by omega)
  go_enter Tryd.func45, Tryd.ntmps45
  go_wp2_with (go_at_call 63; refine (Tryd.strings_shouldUseASCIISet _ _).mono ?_; rintro e w' ⟨rfl, hw⟩; rw [hw, h8z])
  go_loopg [9, 10] s.size (fun g _ _ wx => ∃ i : Nat, i ≤ s.size ∧ s.size ≤ i + g ∧ wx.heap[w.heap.size]? = some (.stringIter s i) ∧ Below w.heap.size w wx ∧ Lib.NoAny s.data.toList [32, 40, 41] i)
  case atStart => exact ⟨0, by omega, by omega, World.iter_heap _ _ _, (Below.refl _ _).alloc (Nat.le_refl _) _, Lib.NoAny.zero _ _⟩
  case round =>
    obtain ⟨i, his, hig, hit, hB, hno⟩ := hrel
    have HN := Lib.hid hno
    have HB := Lib.hid hB
    have HI := Lib.hid hit
    clear hno hB hit
    by_cases hi : i < s.size
    · cases gk with
      | zero => omega
      | succ g =>
        obtain ⟨x, hx⟩ : ∃ x : UInt8, s[i]'hi = x := ⟨_, rfl⟩
        have Hx := Lib.hid (show s.data.toList[i]? = some x by rw [← hx]; exact Lib.data_getElem? s i hi)
        by_cases ha : x.toNat < 128
        · have hnx := fun ty => run_next_at (P := Tryd.prog) wr w.heap.size s i ty HI.out hi x.toNat 1 (by have := decode_ascii s i hi (by rw [hx]; exact ha); rw [hx] at this; exact this)
          clear hx
          have hcon := Lib.contains_iff_indexByte [32, 40, 41] x
          have hback : ((x.toNat : Int)).toNat.toUInt8 = x := by simp
          have HB2 := Lib.hid (withObj_below HB.out (Nat.le_refl _) (.stringIter s (i + 1)))
          have HI2 := Lib.hid (withObj_at (o' := .stringIter s (i + 1)) HI.out)
          generalize withObj wr w.heap.size (.stringIter s (i + 1)) = w2 at *
          cases hin : ([32, 40, 41] : List UInt8).contains x
          · rw [hin] at hcon
            have hlt : ¬ ((0 : Int) ≤ Lib.indexByte [32, 40, 41] x) := of_decide_eq_false hcon.symm
            clear hcon
            go_wp2_with (go_at_call 62; refine (Tryd.strings_IndexRune_ascii _ _ _ (by omega) (by omega)).mono ?_; rintro e w' ⟨rfl, hw⟩; rw [hw, hback])
            go_roundg g
            case measure => omega
            case rel => exact ⟨i + 1, by omega, by omega, HI2.out, HB2.out, HN.out.succ Hx.out hin⟩
          · rw [hin] at hcon
            have hge : (0 : Int) ≤ Lib.indexByte [32, 40, 41] x := of_decide_eq_true hcon.symm
            clear hcon
            go_wp2_with (go_at_call 62; refine (Tryd.strings_IndexRune_ascii _ _ _ (by omega) (by omega)).mono ?_; rintro e w' ⟨rfl, hw⟩; rw [hw, hback])
            go_ret
            exact ⟨by rw [Lib.indexAny_hit HN.out Hx.out hin]; rfl, HB2.out⟩
        · obtain ⟨c, wd, hd, hw1, hw2, hall, hc⟩ := decode_high s i hi (by rw [hx]; omega)
          have hnx := fun ty => run_next_at (P := Tryd.prog) wr w.heap.size s i ty HI.out hi c wd hd
          have HN2 := Lib.hid (noAny_steps (n := wd) HN.out (fun j b h1 h2 hb => by
            have hj : j < s.size := by omega
            have h3 := hall j hj h1 h2
            rw [Lib.data_getElem? s j hj] at hb
            injection hb with hb
            rw [hb] at h3
            simp only [List.contains_eq_mem, List.mem_cons, List.mem_nil_iff, or_false, decide_eq_false_iff_not]
            rintro (rfl | rfl | rfl) <;> revert h3 <;> decide))
          clear hx hall hd
          have HB2 := Lib.hid (withObj_below HB.out (Nat.le_refl _) (.stringIter s (i + wd)))
          have HI2 := Lib.hid (withObj_at (o' := .stringIter s (i + wd)) HI.out)
          generalize withObj wr w.heap.size (.stringIter s (i + wd)) = w2 at *
          have HC : Hid (Calls Tryd.prog 62 #[.string ⟨#[32, 40, 41]⟩, .int .i32 (c : Int)] w2 fun e w' => e = .returned (.int .i64 (-1)) ∧ Below w2.heap.size w2 w') := by
            rcases hc with rfl | ⟨h1, h2, h3⟩
            · exact indexRune_error w2
            · exact indexRune_multi c (by omega) (by omega) h3 w2
          clear hc
          go_wp2_with (go_at_call 62; refine Calls.mono HC.out ?_; rintro e w3 ⟨rfl, hb3⟩)
          go_roundg g
          case measure => omega
          case rel =>
            have hlt : w.heap.size < w2.heap.size := (Array.getElem?_eq_some_iff.1 HI2.out).1
            exact ⟨i + wd, by omega, by omega, (hb3.block _ hlt).trans HI2.out, HB2.out.trans (hb3.mono (by omega)), HN2.out⟩
    · obtain rfl : i = s.size := by omega
      have hnx := fun ty => run_next_over (P := Tryd.prog) wr w.heap.size s s.size ty HI.out (by omega)
      go_wp2
      go_ret
      exact ⟨by rw [Lib.indexAny_none (by rw [← Lib.size_eq]; exact HN.out)]; rfl, HB.out⟩

/-- strings.IndexAny(s, " ()"), whatever the bytes of s. -/
theorem indexAny_calls (s : ByteArray) (w : World) (hs : s.size < 4294967281) :
    Calls Tryd.prog 45 #[.string s, .string ⟨#[32, 40, 41]⟩] w fun e w' => e = .returned (.int .i64 (Lib.indexAny s.data.toList [32, 40, 41])) ∧ Below w.heap.size w w' := by
  by_cases h8 : s.size ≤ 8
  · exact indexAny_short s w h8
  · have hz : (Tryd.prog.info? 100).map (fun i => (i.zero, i.size)) = some (some (.agg (Array.replicate 256 (.bool false))), 256) := by kernel_rfl
    refine (Tryd.strings_IndexAny_long (zero_of_info hz).1 s ⟨#[32, 40, 41]⟩ w (by decide) (by omega) hs (by decide) (fun j b hj => ?_)).mono ?_
    · have : j = 0 ∨ j = 1 ∨ j = 2 ∨ 3 ≤ j := by omega
      rcases this with rfl | rfl | rfl | h3
      · simp at hj; subst hj; decide
      · simp at hj; subst hj; decide
      · simp at hj; subst hj; decide
      · rw [List.getElem?_eq_none (by simpa using h3)] at hj
        cases hj
    · rintro e w' ⟨rfl, rfl⟩
      exact ⟨rfl, ((Below.refl _ _).alloc (Nat.le_refl _) _).alloc (by simp) _⟩
end Go.Proofs.YtjcdpmoabkfchaaDoor
