/- A right term: its text is short, has its tokens, and is parsed as this term. No program's run. -/
import Derived.Test.YtjcdpmoabkfchaaDoorMLaw
import Derived.Test.YtjcdpmoabkfchaaDoorMLex
set_option linter.unusedSimpArgs false
set_option linter.unusedVariables false
namespace Go.Proofs.YtjcdpmoabkfchaaDoor
open Go.Lib Go.Proofs.YtjcdpmoabkfchaaDoor.PTermMatchesReference

theorem kidsSz_sum {f : S24 → Nat} : ∀ {ks : List S24} {qs : List Int} {acc : Nat}, ks.length = qs.length → kidsSz f ks qs acc ≠ 0 → kidsSz f ks qs acc = acc + (ks.map f).sum
  | [], _, acc, hl, _ => by
    cases ‹List Int› with
    | nil => simp [kidsSz]
    | cons => simp at hl
  | k :: ks, [], _, hl, _ => by simp at hl
  | k :: ks, q :: qs, acc, hl, h => by
    rw [kidsSz] at h ⊢
    split at h
    · exact absurd rfl h
    · rename_i hk
      rw [if_neg hk, kidsSz_sum (by simpa using hl) h]
      simp
      omega
theorem kidsTxt_sum {f : S24 → List UInt8} {g : S24 → Nat} : ∀ {ks : List S24}, (∀ k ∈ ks, (f k).length + 1 ≤ g k) → (kidsTxt f ks).length ≤ (ks.map g).sum
  | [], _ => by simp [kidsTxt]
  | k :: ks, h => by
    have h1 := h k (List.mem_cons_self ..)
    have h2 := kidsTxt_sum (f := f) (g := g) (ks := ks) (fun x hx => h x (List.mem_cons_of_mem _ hx))
    simp only [kidsTxt, List.length_append, List.length_cons, List.map_cons, List.sum_cons]
    omega
theorem sum_mul (g : S24 → Nat) (c : Nat) : ∀ ks : List S24, (ks.map fun k => c * g k).sum = c * (ks.map g).sum
  | [] => by simp
  | k :: ks => by simp [sum_mul g c ks, Nat.mul_add]
theorem txt_len : ∀ (n : Nat) (t : S24), sz n t ≠ 0 → (txt n t).length + 1 ≤ 60 * sz n t
  | 0, t, h => absurd rfl h
  | n + 1, t, h => by
    obtain ⟨s, hs, hl, hn, hk⟩ := sz_inv h
    have hD : shpD t.f0 = s := by simp [shpD, hs]
    have h0 := kidsTxt_sum (f := txt n) (g := fun k => 60 * sz n k) (ks := t.f3) (fun k hk' => txt_len n k (hk k hk'))
    rw [sum_mul] at h0
    have h2 := word_le hD
    have h3 := nums_le hD
    have h4 : (numsTxt ([t.f1, t.f2].take s.numbers)).length ≤ 2 * 22 := by
      refine Nat.le_trans (numsTxt_le _ (fun x hx => ?_)) (Nat.mul_le_mul_right _ (by simp; omega))
      have := List.mem_of_mem_take hx
      simp only [List.mem_cons, List.mem_nil_iff, or_false] at this
      rcases this with rfl | rfl
      · exact ⟨hn.1.1, hn.1.2.1⟩
      · exact ⟨hn.2.1, hn.2.2.1⟩
    rw [sz_some hs] at h ⊢
    rw [if_pos ⟨hl, hn⟩] at h ⊢
    rw [kidsSz_sum hl h]
    rw [txt, hD]
    simp only [List.length_append, List.length_cons, List.length_nil]
    omega
theorem good_len {t : S24} (h : good t = true) : (txt 6 t).length ≤ 1200 := by
  obtain ⟨h1, h2⟩ := good_sz h
  have := txt_len 6 t h1
  omega
theorem good_toks {t : S24} (h : good t = true) : toks (txt 6 t) = ttoks 6 t := by
  have := toks_txt 6 t (good_sz h).1 []
  rw [List.append_nil, toks_nil (l := []) rfl, List.append_nil] at this
  exact this
theorem good_parse {t : S24} (h : good t = true) : parseS (txt 6 t) = (t, 0) := parse_of_toks h (by have := good_len h; omega) (good_toks h)
theorem ptx_good {t : S24} (h : good t = true) : ptx t = txt 6 t := by unfold ptx; rw [if_pos h]
theorem ptx_bad {t : S24} (h : good t = false) : ptx t = [] := by unfold ptx; rw [h]; rfl
end Go.Proofs.YtjcdpmoabkfchaaDoor
