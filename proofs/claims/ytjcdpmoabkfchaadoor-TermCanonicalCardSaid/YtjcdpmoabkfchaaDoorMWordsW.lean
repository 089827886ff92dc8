/- term.words: the map of words, whole. -/
import Derived.Test.YtjcdpmoabkfchaaDoorMWords
set_option linter.unusedSimpArgs false
namespace Go.Proofs.YtjcdpmoabkfchaaDoor
open Go.RowKit Go.Lib

theorem range_shapes {W : World} {B : Nat} (h : ShapesAt W B) :
    (Instr.range 71 (.map (some B))).run Tryd.prog W = .ok (.pointer (some ⟨W.heap.size, 0, none⟩)) (W.alloc (.mapIter (some B) 21 #[] 21)) := by
  obtain ⟨es, h1, _⟩ := h
  exact run_range_map (P := Tryd.prog) W 71 3 70 B es 21 u71 h1

theorem ShapesAt.withObj {W : World} {B k : Nat} {o o' : Obj} (h : ShapesAt W B) (hk : W.heap[k]? = some o) (hB : B ≠ k) (hc : ∀ c t f, o ≠ .cells c t f) : ShapesAt (withObj W k o') B := by
  obtain ⟨es, h1, h2, h3⟩ := h
  refine ⟨es, (withObj_other _ hB).trans h1, h2, fun i s hi hs => ?_⟩
  obtain ⟨A, c, h4, h5, h6⟩ := h3 i s hi hs
  refine ⟨A, c, h4, fun j x hx => ?_, h6⟩
  obtain ⟨ad, e, hcell, cs, f, hty⟩ := h5 j x hx
  refine ⟨ad, e, ?_, cs, f, ?_⟩
  rotate_left
  · have hne : ad.block ≠ k := fun he => by
      rw [he, hk] at hty
      injection hty with hty
      exact hc _ _ _ hty
    exact (withObj_other _ hne).trans hty
  by_cases ha : ad.block = k
  · have hblk : (ad.add j).block = k := by unfold Addr.add; split <;> exact ha
    rw [World.cell?, hblk, hk] at hcell
    cases o with
    | cells c t f => exact absurd rfl (hc c t f)
    | _ => cases hcell
  · have hblk : (ad.add j).block ≠ k := by unfold Addr.add; split <;> exact ha
    rw [World.cell?, withObj_other _ hblk]
    exact hcell

/-- Where the loop of words stands. -/
structure At (w W : World) (B it : Nat) (seen : Array Nat) : Prop where
  shapes : ShapesAt W B
  iter : W.heap[it]? = some (.mapIter (some B) 21 seen 21)
  words : ∃ es c, W.heap[w.heap.size]? = some (.map es c) ∧ WEnt es seen
  lt : ∀ b ∈ seen, b < 21
  nodup : seen.toList.Nodup
  below : Below w.heap.size w W
  apart : w.heap.size < B ∧ w.heap.size < it ∧ B ≠ it

theorem nodup_le : ∀ (n : Nat) (l : List Nat), l.Nodup → (∀ b ∈ l, b < n) → l.length ≤ n := by
  intro n
  induction n with
  | zero =>
    intro l _ h
    cases l with
    | nil => exact Nat.le_refl _
    | cons x l => exact absurd (h x (List.mem_cons_self ..)) (by omega)
  | succ n ih =>
    intro l hn h
    by_cases hm : n ∈ l
    · have h1 := ih (l.erase n) (hn.erase n) (fun b hb => by
        have h2 := h b (List.mem_of_mem_erase hb)
        have h3 : b ≠ n := fun e => by rw [e] at hb; exact (List.Nodup.not_mem_erase hn) hb
        omega)
      rw [List.length_erase_of_mem hm] at h1
      omega
    · have h1 := ih l hn (fun b hb => by
        have h2 := h b hb
        have h3 : b ≠ n := fun e => by rw [e] at hb; exact hm hb
        omega)
      omega

/-- One round. -/
theorem At.next {w W : World} {B it b c n : Nat} {seen : Array Nat} {s : Shape} {A : Option Addr} (h : At w W B it seen) (hb : b < 21) (hn : b ∉ seen) (hs : tab[b]? = some s) :
    ∃ W3, (Instr.mapUpdate 80 (.map (some w.heap.size)) (Sv s.word) (.int .i64 ((b : Int) + 1))).run Tryd.prog ((withObj (W.drewN n) it (.mapIter (some B) 21 (seen.push b) 21)).alloc (.cells #[Sv s.word, .int .i64 (s.numbers : Int), .slice A s.kids.length c, .int .i64 s.sort] 70)) = .ok () W3 ∧
      At w W3 B it (seen.push b) := by
  obtain ⟨es, cl, hm, he⟩ := h.words
  have hw : wordAt b = s.word := by simp [wordAt, hs]
  have h1 : w.heap.size ≠ it := by have := h.apart.2.1; omega
  have hB1 := withObj_below (B := w.heap.size) (a := w) (w := W.drewN n) (k := it) (h.below.trans (drewN_belowB _ _ _)) (by have := h.apart.2.1; omega) (.mapIter (some B) 21 (seen.push b) 21)
  have hS1 : ShapesAt (withObj (W.drewN n) it (.mapIter (some B) 21 (seen.push b) 21)) B := ShapesAt.withObj (h.shapes.below (drewN_below _ _)) (k := it) (W := W.drewN n) h.iter h.apart.2.2 (fun _ _ _ e => by cases e)
  have hI1 : (withObj (W.drewN n) it (.mapIter (some B) 21 (seen.push b) 21)).heap[it]? = some (.mapIter (some B) 21 (seen.push b) 21) := withObj_at (w := W.drewN n) h.iter
  have hM1 : (withObj (W.drewN n) it (.mapIter (some B) 21 (seen.push b) 21)).heap[w.heap.size]? = some (.map es cl) := (withObj_other (w := W.drewN n) _ h1).trans hm
  generalize withObj (W.drewN n) it (.mapIter (some B) 21 (seen.push b) 21) = W1 at *
  have hab : ∀ o, Below W1.heap.size W1 (W1.alloc o) := fun o => (Below.refl _ _).alloc (Nat.le_refl _) o
  obtain ⟨p1, p2⟩ := put_word (below_blk (hab (.cells #[Sv s.word, .int .i64 (s.numbers : Int), .slice A s.kids.length c, .int .i64 s.sort] 70)) hM1) he h.lt hb hn
  rw [hw] at p1
  refine ⟨_, p1, ?_⟩
  have hm2 := below_blk (hab (.cells #[Sv s.word, .int .i64 (s.numbers : Int), .slice A s.kids.length c, .int .i64 s.sort] 70)) hM1
  have hB2 := hB1.trans ((hab (.cells #[Sv s.word, .int .i64 (s.numbers : Int), .slice A s.kids.length c, .int .i64 s.sort] 70)).mono hB1.size)
  have hS2 := hS1.below (hab (.cells #[Sv s.word, .int .i64 (s.numbers : Int), .slice A s.kids.length c, .int .i64 s.sort] 70))
  have hI2 := below_blk (hab (.cells #[Sv s.word, .int .i64 (s.numbers : Int), .slice A s.kids.length c, .int .i64 s.sort] 70)) hI1
  rw [hw] at p2
  generalize W1.alloc (.cells #[Sv s.word, .int .i64 (s.numbers : Int), .slice A s.kids.length c, .int .i64 s.sort] 70) = W2 at *
  refine ⟨hS2.withObj hm2 (by have := h.apart.1; omega) (fun _ _ _ e => by cases e), (withObj_other _ (by omega)).trans hI2, ⟨_, _, withObj_at hm2, p2⟩, ?_, ?_, withObj_below hB2 (Nat.le_refl _) _, h.apart⟩
  · intro x hx
    rcases Array.mem_push.1 hx with hx | rfl
    · exact h.lt x hx
    · exact hb
  · rw [Array.toList_push, List.nodup_append]
    refine ⟨h.nodup, by simp, fun x hx y hy => ?_⟩
    simp at hy
    subst hy
    rintro rfl
    exact hn (by simpa using hx)

set_option maxHeartbeats 2000000 in
set_option maxRecDepth 100000 in
theorem words_calls (w : World) : Calls Tryd.prog 42 #[] w fun e w' => ∃ m, e = .returned (.map (some m)) ∧ WordsAt w' m ∧ Below w.heap.size w w' := by
  have hmm := @run_makeMap Tryd.prog
  go_enter Tryd.func42, Tryd.ntmps42
  go_wp2_with fail
  refine (shapes_calls _).mono ?_
  rintro e w1 ⟨B, rfl, hS, hBB, hb1⟩
  clear hmm
  have HA : Hid (At w (w1.alloc (.mapIter (some B) 21 #[] 21)) B w1.heap.size #[]) := by
    have hb0 : Below w.heap.size w w1 := ((Below.refl w.heap.size w).alloc (Nat.le_refl _) (.map #[] 0)).trans (hb1.mono (by simp))
    have hm : w1.heap[w.heap.size]? = some (.map #[] 0) := (hb1.block w.heap.size (by simp)).trans (heap_alloc_new w (.map #[] 0))
    have hBlt : B < w1.heap.size := by obtain ⟨es, h1, _⟩ := hS; exact blk_lt' h1
    have hab : Below w1.heap.size w1 (w1.alloc (.mapIter (some B) 21 #[] 21)) := (Below.refl _ _).alloc (Nat.le_refl _) _
    have h5 : w.heap.size < B := by simp at hBB; omega
    exact ⟨hS.below hab, heap_alloc_new _ _, ⟨#[], 0, below_blk hab hm, rfl, fun i b h => by simp at h⟩, fun b h => by simp at h, by simp, hb0.trans (hab.mono hb0.size), h5, by omega, by omega⟩
  have hr := range_shapes hS
  clear hb1 hS hBB
  go_wp2_with fail
  clear hr
  go_loopg [2, 3] 21 (fun g _ _ wx => ∃ seen : Array Nat, 21 ≤ seen.size + g ∧ Hid (At w wx B w1.heap.size seen))
  case atStart => exact ⟨#[], by omega, HA⟩
  case round =>
    clear HA
    obtain ⟨seen, hg, HA⟩ := hrel
    rcases next_map HA.out.shapes HA.out.iter with ⟨hall, hnx⟩ | ⟨b, s, A, c, n, hb, hn, hs, hk, hnx, hen⟩
    · go_wp2
      go_ret
      obtain ⟨es, cl, hm, he⟩ := HA.out.words
      exact ⟨_, rfl, ⟨es, cl, seen, hm, he, hall, HA.out.lt⟩, HA.out.below⟩
    · cases gk with
      | zero =>
        have h1 := nodup_le 21 (b :: seen.toList) (List.nodup_cons.2 ⟨by simpa using hn, HA.out.nodup⟩) (fun x hx => by
          rcases List.mem_cons.1 hx with rfl | hx
          · exact hb
          · exact HA.out.lt x (by simpa using hx))
        simp at h1
        omega
      | succ g =>
        obtain ⟨W3, hu, HA3⟩ := At.next (n := n) (c := c) (A := A) HA.out hb hn hs
        have HA4 := Lib.hid HA3
        clear HA3 hs hk hn hb HA
        unfold shapeVal at hnx hen
        unfold Sv at hnx hen hu
        go_wp2
        go_roundg g
        case measure => omega
        case rel => exact ⟨seen.push b, by simp; omega, HA4⟩
end Go.Proofs.YtjcdpmoabkfchaaDoor
