/- The parser's next and want: what they take, and what is left; want gives up where the token is another. -/
import Derived.Test.YtjcdpmoabkfchaaDoorMBase
import Derived.Outline
namespace Go.Proofs.YtjcdpmoabkfchaaDoor
open Go.RowKit Go.Lib

theorem ba_extract (l : List UInt8) (i j : Nat) : (⟨l.toArray⟩ : ByteArray).extract i j = ⟨((l.drop i).take (j - i)).toArray⟩ := by
  apply ByteArray.ext
  rw [ByteArray.data_extract]
  simp [List.extract_eq_take_drop]

theorem next_end {g : Nat} {l r : List UInt8} {w w2 : World} {n : Nat} (hr : tok l = r.take n ∧ rest l = r.drop n) (hg : w2.heap[g]? = some (.cells #[.string ⟨r.toArray⟩] 59 (0, 0))) (hf : Fr g w w2) (m : Nat) (hm : n = m) {e1 e2 : Nat} (h2 : e2 = r.length) (h1 : e1 = m) :
    Ending.returned (.string ((⟨r.toArray⟩ : ByteArray).extract 0 e1)) = .returned (Sv (tok l)) ∧ (w2.setCell ⟨g, 0, none⟩ (.string ((⟨r.toArray⟩ : ByteArray).extract m e2))).heap[g]? = some (.cells #[Sv (rest l)] 59 (0, 0)) ∧ Fr g w (w2.setCell ⟨g, 0, none⟩ (.string ((⟨r.toArray⟩ : ByteArray).extract m e2))) := by
  subst hm h2 h1
  refine ⟨?_, ?_, hf.setCell 0 _⟩
  · rw [ba_extract, hr.1]; simp [Sv]
  · rw [blk_set1 hg, ba_extract, hr.2]
    simp only [Sv]
    rw [List.take_of_length_le (by simp)]

theorem next_end_full {g : Nat} {l r : List UInt8} {w w2 : World} (hr : tok l = r.take r.length ∧ rest l = r.drop r.length) (hg : w2.heap[g]? = some (.cells #[.string ⟨r.toArray⟩] 59 (0, 0))) (hf : Fr g w w2) :
    Ending.returned (.string ((⟨r.toArray⟩ : ByteArray).extract 0 r.length)) = .returned (Sv (tok l)) ∧ (w2.setCell ⟨g, 0, none⟩ (.string ByteArray.empty)).heap[g]? = some (.cells #[Sv (rest l)] 59 (0, 0)) ∧ Fr g w (w2.setCell ⟨g, 0, none⟩ (.string ByteArray.empty)) := by
  have he : ByteArray.empty = (⟨r.toArray⟩ : ByteArray).extract r.length r.length := by
    rw [ba_extract]
    simp
    rfl
  rw [he]
  exact next_end hr hg hf _ rfl rfl rfl

set_option maxHeartbeats 1000000 in
theorem next_calls (g : Nat) (l : List UInt8) (hl : l.length ≤ 1000000) (w : World) (hg : w.heap[g]? = some (.cells #[Sv l] 59 (0, 0))) :
    Calls Tryd.prog 28 #[.pointer (some ⟨g, 0, none⟩)] w fun e w' => e = .returned (Sv (tok l)) ∧ w'.heap[g]? = some (.cells #[Sv (rest l)] 59 (0, 0)) ∧ Fr g w w' := by
  have HG := Lib.hid hg
  have hc := (Lib.cell_of_heap hg 0).trans (by rfl : _ = some (Sv l))
  have hf := Lib.frozen_of_heap hg 0
  clear hg
  unfold Sv at hc
  have HL := trim_length l
  go_enter Tryd.func28, Tryd.ntmps28
  go_wp2_with (go_at_call 44; refine (Tryd.strings_TrimLeft_one _ 32 (by decide) _).mono ?_; rintro e w1 ⟨rfl, hw⟩; rw [hw]; clear hw)
  have hr : trimLeftB l 32 = trim l := rfl
  rw [hr]
  have HG1 := Lib.hid (blk_set1 (v := Sv (trim l)) HG.out)
  have HF1 := Lib.hid ((Fr.refl g w).setCell 0 (Sv (trim l)))
  have HR := Lib.hid (show tok l = (trim l).take (tokLen (trim l)) ∧ rest l = (trim l).drop (tokLen (trim l)) from ⟨rfl, rfl⟩)
  have HH := Lib.hid (fun c q => @trim_head l c q)
  unfold Sv at HG1 HF1
  generalize trim l = r at *
  generalize w.setCell ⟨g, 0, none⟩ (.string ⟨r.toArray⟩) = w1 at *
  clear hc hf hr
  refine (indexAny_calls ⟨r.toArray⟩ _ (by show r.toArray.size < _; simp; omega)).mono ?_
  rintro e w2 ⟨rfl, hb⟩
  have HG2 := Lib.hid (below_blk hb HG1.out)
  have HF2 := Lib.hid (HF1.out.below hb)
  clear hb HG1 HF1 HG
  have hc := (Lib.cell_of_heap HG2.out 0).trans (by rfl : _ = some (Value.string ⟨r.toArray⟩))
  have hf := Lib.frozen_of_heap HG2.out 0
  have hi := indexAny_takeWhile r
  have he : (⟨r.toArray⟩ : ByteArray).data.toList = r := by simp
  rw [he]
  clear he
  cases r with
  | nil =>
    simp only [Lib.indexAny]
    go_wp2
    go_ret
    exact ⟨by rw [HR.out.1]; rfl, by rw [HR.out.2]; exact HG2.out, HF2.out⟩
  | cons c q =>
    have hne : (c == 32) = false := beq_eq_false_iff_ne.2 (HH.out c q rfl)
    obtain ⟨n, hn⟩ : ∃ n, tokLen (c :: q) = n := ⟨_, rfl⟩
    rw [hn] at HR
    by_cases hp : (c == 40 || c == 41) = true
    · have h0 : Lib.indexAny (c :: q) [32, 40, 41] = 0 := by
        simp only [Lib.indexAny]
        rw [if_pos]
        simp only [List.contains_eq_mem, List.mem_cons, List.mem_nil_iff, or_false, decide_eq_true_eq]
        simp only [Bool.or_eq_true, beq_iff_eq] at hp
        exact .inr hp
      rw [h0]
      clear h0 hi
      have h1 : n = 1 := by rw [← hn]; simp only [tokLen]; rw [if_pos hp]
      subst h1
      go_wp2
      go_ret
      exact next_end HR.out HG2.out HF2.out 1 rfl (by simp) (by simp)
    · obtain ⟨k, hk⟩ : ∃ k, (List.takeWhile nsep (c :: q)).length = k := ⟨_, rfl⟩
      have h1 : n = k := by rw [← hn, ← hk]; simp only [tokLen]; rw [if_neg hp]
      subst h1
      have hs : nsep c = true := by
        simp only [nsep, sep, hne]
        simp at hp ⊢
        exact hp
      have hpos : 1 ≤ n := by rw [← hk, List.takeWhile_cons_of_pos hs]; simp
      have hkl : n ≤ (c :: q).length := by rw [← hk]; exact (List.takeWhile_sublist _).length_le
      rw [hk] at hi
      clear hk
      rw [hi]
      clear hi hn hp hne hs HH
      have hem : (c :: q).isEmpty = false := rfl
      generalize c :: q = r at *
      by_cases he : n = r.length
      · rw [if_pos he]
        subst he
        go_wp2
        go_ret
        exact next_end_full HR.out HG2.out HF2.out
      · rw [if_neg he]
        have hlt : n < r.length := by omega
        have H1 : (((n : Int)) == 0) = false := beq_eq_false_iff_ne.2 (by omega)
        go_wp2
        go_ret
        exact next_end HR.out HG2.out HF2.out n rfl rfl rfl

/-- What the parser gives up with. -/
def gaveUp : Ending := .panicked [{ v := .iface 55 (.agg #[]), recovered := false }]

set_option maxHeartbeats 1000000 in
theorem want_ok (g : Nat) (l t : List UInt8) (hl : l.length ≤ 1000000) (w : World) (hg : w.heap[g]? = some (.cells #[Sv l] 59 (0, 0))) (ht : tok l = t) :
    Calls Tryd.prog 41 #[.pointer (some ⟨g, 0, none⟩), Sv t] w fun e w' => e = .returned (.tuple #[]) ∧ w'.heap[g]? = some (.cells #[Sv (rest l)] 59 (0, 0)) ∧ Fr g w w' := by
  subst ht
  have HG := Lib.hid hg
  clear hg
  unfold Sv
  go_enter Tryd.func41, Tryd.ntmps41
  go_wp2_with (go_at_call 28; refine (next_calls g l hl _ HG.out).mono ?_; rintro e w1 ⟨rfl, h1, h2⟩; have H1 := Lib.hid h1; have H2 := Lib.hid h2; clear h1 h2; unfold Sv)
  go_end0
  exact ⟨rfl, H1.out, H2.out⟩

set_option maxHeartbeats 1000000 in
theorem want_no (g : Nat) (l t : List UInt8) (hl : l.length ≤ 1000000) (w : World) (hg : w.heap[g]? = some (.cells #[Sv l] 59 (0, 0))) (ht : tok l ≠ t) :
    Calls Tryd.prog 41 #[.pointer (some ⟨g, 0, none⟩), Sv t] w fun e w' => e = gaveUp ∧ Fr g w w' := by
  have HG := Lib.hid hg
  have hb : (!tok l == t) = true := by simp [ht]
  clear hg ht
  unfold Sv
  go_enter Tryd.func41, Tryd.ntmps41
  go_wp2_with (go_at_call 28; refine (next_calls g l hl _ HG.out).mono ?_; rintro e w1 ⟨rfl, h1, h2⟩; have H1 := Lib.hid h1; have H2 := Lib.hid h2; clear h1 h2; unfold Sv)
  exact ⟨rfl, rfl, H2.out⟩
end Go.Proofs.YtjcdpmoabkfchaaDoor
