/- The plain law of texts: tokens, the term of tokens, the text of a term is parsed xs this term, and what is parsed of a text has a text with the same tokens. No program's run. -/
import Derived.Test.YtjcdpmoabkfchaaDoorMParse
import Derived.Lib.ItoaMem
set_option linter.unusedSimpArgs false
set_option linter.unusedVariables false
namespace Go.Proofs.YtjcdpmoabkfchaaDoor
open Go.Lib Go.Proofs.YtjcdpmoabkfchaaDoor.PTermMatchesReference

/-! ### Numbers -/
theorem parseUint10_append : ∀ (l m : List UInt8) (acc : Nat), parseUint10 acc (l ++ m) = match parseUint10 acc l with | .ok a => parseUint10 a m | e => e
  | [], m, acc => rfl
  | c :: r, m, acc => by
    simp only [List.cons_append, parseUint10]
    split
    · split
      · rfl
      · split
        · rfl
        · exact parseUint10_append r m _
    · rfl
theorem digit_toNat (d : Nat) (h : d < 10) : (UInt8.ofNat (48 + d)).toNat = 48 + d := by simp; omega
theorem parseUint10_dec (u : Nat) : u < 1000000000000000000 → parseUint10 0 (decDigits u) = .ok u := by
  induction u using Nat.strongRecOn with
  | _ u ih =>
    intro hu
    rw [decDigits]
    by_cases h : u < 10
    · rw [dif_pos h]
      have hd := digit_toNat u h
      simp only [parseUint10, hd]
      rw [if_pos (by omega), if_neg (by omega), if_neg (by omega)]
      congr 1
      omega
    · rw [dif_neg h, parseUint10_append, ih (u / 10) (by omega) (by omega)]
      have hd := digit_toNat (u % 10) (by omega)
      simp only [parseUint10, hd]
      rw [if_pos (by omega), if_neg (by omega), if_neg (by omega)]
      congr 1
      omega
theorem decDigits_digit (u : Nat) : ∀ c ∈ decDigits u, 48 ≤ c.toNat ∧ c.toNat ≤ 57 := by
  induction u using Nat.strongRecOn with
  | _ u ih =>
    intro c hc
    rw [decDigits] at hc
    by_cases h : u < 10
    · rw [dif_pos h] at hc
      obtain rfl := List.mem_singleton.1 hc
      rw [digit_toNat u h]; omega
    · rw [dif_neg h] at hc
      rcases List.mem_append.1 hc with hc | hc
      · exact ih (u / 10) (by omega) c hc
      · obtain rfl := List.mem_singleton.1 hc
        rw [digit_toNat _ (by omega)]; omega
theorem decDigits_ne (u : Nat) : decDigits u ≠ [] := by
  rw [decDigits]
  split <;> simp
theorem atoiAll_itoa (u : Nat) (hu : u < 1000000000000000000) : atoiAll (itoa (u : Int)) = .ok (u : Int) := by
  rw [itoa_nonneg]
  have hp := parseUint10_dec u hu
  have hne := decDigits_ne u
  have hd := decDigits_digit u
  cases hl : decDigits u with
  | nil => exact absurd hl hne
  | cons c r =>
    rw [hl] at hp hd
    have hc := hd c (List.mem_cons_self ..)
    have h1 : ¬ (c.toNat = 43 ∨ c.toNat = 45) := by omega
    have h2 : ¬ c.toNat = 45 := by omega
    have hm : parseMag (c :: r) = .ok u := by rw [parseMag, if_neg (by simp), hp]
    unfold atoiAll
    simp only
    rw [if_neg h1, hm]
    simp only
    rw [if_neg (by omega), if_neg (by omega), if_neg h2]
theorem num_itoa (a : Int) (h0 : 0 ≤ a) (h1 : a ≤ 65535) : num? (itoa a) = some a := by
  obtain ⟨u, rfl⟩ : ∃ u : Nat, a = u := ⟨a.toNat, by omega⟩
  unfold num?
  rw [atoiAll_itoa u (by omega)]
  simp only
  rw [if_pos ⟨h0, h1, trivial⟩]
theorem num_some {c : List UInt8} {v : Int} (h : num? c = some v) : itoa v = c ∧ 0 ≤ v ∧ v ≤ 65535 := by
  unfold num? at h
  cases ha : atoiAll c with
  | ok u =>
    rw [ha] at h
    simp only at h
    split at h
    · rename_i hu
      obtain rfl := Option.some.inj h
      exact ⟨hu.2.2, hu.1, hu.2.1⟩
    · cases h
  | _ => rw [ha] at h; cases h
theorem num_nil : num? [] = none := rfl
theorem itoa_digits (a : Int) (h0 : 0 ≤ a) : itoa a ≠ [] ∧ ∀ c ∈ itoa a, 48 ≤ c.toNat ∧ c.toNat ≤ 57 := by
  obtain ⟨u, rfl⟩ : ∃ u : Nat, a = u := ⟨a.toNat, by omega⟩
  rw [itoa_nonneg]
  exact ⟨decDigits_ne u, decDigits_digit u⟩

/-! ### Words -/
theorem shp_at {op : Int} {s : Shape} (h : shp op = some s) : ∃ b : Nat, b < 21 ∧ op = (b : Int) + 1 ∧ tab[b]? = some s := by
  unfold shp at h
  split at h
  · rename_i h1
    have := (List.getElem?_eq_some_iff.1 h).1
    have hl : tab.length = 21 := rfl
    exact ⟨op.toNat - 1, by omega, by omega, h⟩
  · cases h
theorem shp_of_at (b : Nat) : shp ((b : Int) + 1) = tab[b]? := by
  unfold shp
  rw [if_pos (by omega)]
  congr 1
theorem shpD_word (b : Nat) : (shpD ((b : Int) + 1)).word = wordAt b := by
  unfold shpD wordAt
  rw [shp_of_at]
  cases tab[b]? <;> rfl
theorem word_of_all : ((List.range 21).all fun b => opOf (wordAt b) == some ((b : Int) + 1)) = true := by decide +kernel
theorem words_nsep : (tab.all fun s => !s.word.isEmpty && s.word.all nsep) = true := by decide +kernel
theorem word_op {op : Int} {s : Shape} (h : shp op = some s) : opOf s.word = some op := by
  obtain ⟨b, hb, rfl, ht⟩ := shp_at h
  have hw : wordAt b = s.word := by unfold wordAt; rw [ht]; rfl
  have := List.all_eq_true.1 word_of_all b (List.mem_range.2 hb)
  rw [hw] at this
  simpa using this
theorem op_word {w : List UInt8} {op : Int} (h : opOf w = some op) : (shpD op).word = w ∧ ∃ s, shp op = some s := by
  unfold opOf at h
  cases hf : (List.range 21).find? (fun b => wordAt b == w) with
  | none => rw [hf] at h; cases h
  | some b =>
    rw [hf] at h
    obtain rfl : op = (b : Int) + 1 := (Option.some.inj h).symm
    have h1 := List.find?_some hf
    have h2 := List.mem_range.1 (List.mem_of_find?_eq_some hf)
    refine ⟨by rw [shpD_word]; simpa using h1, ?_⟩
    rw [shp_of_at]
    have hl : tab.length = 21 := rfl
    exact ⟨_, List.getElem?_eq_getElem (by omega)⟩
theorem op_nil : opOf [] = none := by decide +kernel
theorem word_nsep {op : Int} {s : Shape} (h : shp op = some s) : s.word ≠ [] ∧ ∀ c ∈ s.word, nsep c = true := by
  obtain ⟨b, hb, rfl, ht⟩ := shp_at h
  have := List.all_eq_true.1 words_nsep s (List.mem_of_getElem? ht)
  rw [Bool.and_eq_true] at this
  refine ⟨fun he => by rw [he] at this; simp at this, fun c hc => List.all_eq_true.1 this.2 c hc⟩

/-! ### Tokens -/
theorem tok_blank (q : List UInt8) : tok (32 :: q) = tok q ∧ rest (32 :: q) = rest q := ⟨rfl, rfl⟩
theorem tok_paren (c : UInt8) (q : List UInt8) (h : c = 40 ∨ c = 41) : tok (c :: q) = [c] ∧ rest (c :: q) = q := by
  rcases h with rfl | rfl <;> exact ⟨rfl, rfl⟩
def Starts (q : List UInt8) : Prop := ∃ c r, q = c :: r ∧ sep c = true
theorem takeWhile_word : ∀ (w q : List UInt8), (∀ c ∈ w, nsep c = true) → (q = [] ∨ Starts q) → (w ++ q).takeWhile nsep = w
  | [], q, _, hq => by
    rcases hq with rfl | ⟨c, r, rfl, hc⟩
    · rfl
    · simp [List.takeWhile_cons, nsep, hc]
  | c :: w, q, hw, hq => by
    rw [List.cons_append, List.takeWhile_cons_of_pos (hw c (List.mem_cons_self ..)), takeWhile_word w q (fun x hx => hw x (List.mem_cons_of_mem _ hx)) hq]
theorem tok_word (w q : List UInt8) (hne : w ≠ []) (hw : ∀ c ∈ w, nsep c = true) (hq : q = [] ∨ Starts q) : tok (w ++ q) = w ∧ rest (w ++ q) = q := by
  obtain ⟨c, w', rfl⟩ := List.exists_cons_of_ne_nil hne
  have hc := hw c (List.mem_cons_self ..)
  have hc3 : c ≠ 32 ∧ c ≠ 40 ∧ c ≠ 41 := by
    simp only [nsep, sep, Bool.not_eq_true', Bool.or_eq_false_iff, beq_eq_false_iff_ne] at hc
    exact ⟨hc.1.1, hc.1.2, hc.2⟩
  have ht : trim (c :: w' ++ q) = c :: w' ++ q := by
    unfold trim
    rw [List.cons_append, List.dropWhile_cons_of_neg (by simpa using hc3.1)]
  have hl : tokLen (c :: w' ++ q) = (c :: w').length := by
    have htw := takeWhile_word (c :: w') q hw hq
    rw [List.cons_append] at htw ⊢
    rw [tokLen, if_neg (by simp [hc3.2.1, hc3.2.2]), htw]
  unfold tok rest
  rw [ht, hl]
  exact ⟨List.take_left, List.drop_left⟩
theorem tokLen_pos {l : List UInt8} (h : ∀ c q, l = c :: q → c ≠ 32) (hne : l ≠ []) : 0 < tokLen l := by
  cases l with
  | nil => exact absurd rfl hne
  | cons c q =>
    have h32 := h c q rfl
    show 0 < (if (c == 40 || c == 41) = true then 1 else ((c :: q).takeWhile nsep).length)
    split
    · omega
    · rename_i hp
      have : nsep c = true := by
        simp only [nsep, sep, Bool.not_eq_true', Bool.or_eq_false_iff, beq_eq_false_iff_ne]
        simp only [Bool.or_eq_true, beq_iff_eq, not_or] at hp
        exact ⟨⟨h32, hp.1⟩, hp.2⟩
      rw [List.takeWhile_cons_of_pos this]
      simp
theorem tok_ne {l : List UInt8} (h : trim l ≠ []) : tok l ≠ [] := by
  unfold tok
  have := tokLen_pos (l := trim l) (fun c q hc => trim_head hc) h
  intro he
  rw [List.take_eq_nil_iff] at he
  rcases he with he | he
  · omega
  · exact h he
theorem rest_lt {l : List UInt8} (h : tok l ≠ []) : (rest l).length < l.length := by
  have ht : trim l ≠ [] := fun he => h (by unfold tok; rw [he]; rfl)
  have := tokLen_pos (l := trim l) (fun c q hc => trim_head hc) ht
  have h2 := trim_length l
  have h3 : 0 < (trim l).length := List.length_pos_iff.2 ht
  unfold rest
  rw [List.length_drop]
  omega
/-- The tokens of a text. -/
def toks (l : List UInt8) : List (List UInt8) := if h : tok l = [] then [] else tok l :: toks (rest l)
termination_by l.length
decreasing_by exact rest_lt h
theorem toks_nil {l : List UInt8} (h : tok l = []) : toks l = [] := by rw [toks, dif_pos h]
theorem toks_cons {l : List UInt8} (h : tok l ≠ []) : toks l = tok l :: toks (rest l) := by rw [toks, dif_neg h]
theorem tok_of_toks {l : List UInt8} (h : toks l = []) : tok l = [] := by
  by_cases h2 : tok l = []
  · exact h2
  · rw [toks_cons h2] at h; cases h
theorem toks_blank (q : List UInt8) : toks (32 :: q) = toks q := by
  by_cases h : tok q = []
  · rw [toks_nil h, toks_nil (by rw [(tok_blank q).1]; exact h)]
  · rw [toks_cons h, toks_cons (by rw [(tok_blank q).1]; exact h), (tok_blank q).1, (tok_blank q).2]
theorem toks_paren (c : UInt8) (q : List UInt8) (h : c = 40 ∨ c = 41) : toks (c :: q) = [c] :: toks q := by
  obtain ⟨h1, h2⟩ := tok_paren c q h
  rw [toks_cons (by rw [h1]; simp), h1, h2]
theorem toks_word (w q : List UInt8) (hne : w ≠ []) (hw : ∀ c ∈ w, nsep c = true) (hq : q = [] ∨ Starts q) : toks (w ++ q) = w :: toks q := by
  obtain ⟨h1, h2⟩ := tok_word w q hne hw hq
  rw [toks_cons (by rw [h1]; exact hne), h1, h2]

/-! ### The term of tokens -/
abbrev Tk := List (List UInt8)
def tk (f : Tk → Option (S24 × Tk)) (op x y : Int) : Nat → List S24 → Tk → Option (S24 × Tk)
  | 0, ks, ts => match ts with
    | [] => none
    | c :: r => if c = [41] then some (⟨op, x, y, ks⟩, r) else none
  | k + 1, ks, ts => match f ts with
    | none => none
    | some (t, r) => tk f op x y k (ks ++ [t]) r
def tn (f : Tk → Option (S24 × Tk)) (op : Int) (kids : Nat) : Nat → Nat → Int → Int → Tk → Option (S24 × Tk)
  | 0, _, x, y, ts => tk f op x y kids [] ts
  | k + 1, j, x, y, ts => match ts with
    | [] => none
    | c :: r => match num? c with
      | none => none
      | some v => tn f op kids k (j + 1) (if j = 0 then v else x) (if j = 0 then y else v) r
def tterm : Nat → Tk → Option (S24 × Tk)
  | 0, _ => none
  | n + 1, ts => match ts with
    | [] => none
    | c :: r => if c = [40] then match r with
        | [] => none
        | w :: r => match opOf w with
          | none => none
          | some op => tn (tterm n) op (shpD op).kids.length (shpD op).numbers 0 0 0 r
      else none

abbrev both (r : Option (S24 × List UInt8)) : Option (S24 × Tk) := r.map fun p => (p.1, toks p.2)

theorem pk_toks {F : Tk → Option (S24 × Tk)} {f : List UInt8 → Option (S24 × List UInt8)} (hf : ∀ l, F (toks l) = both (f l)) (op x y : Int) : ∀ (k : Nat) (ks : List S24) (l : List UInt8), tk F op x y k ks (toks l) = both (pk f op x y k ks l)
  | 0, ks, l => by
    unfold tk pk
    by_cases h : tok l = []
    · rw [toks_nil h, h]; rfl
    · rw [toks_cons h]
      by_cases h2 : tok l = [41]
      · simp only [h2, if_true]; rfl
      · simp only [h2, if_false]; rfl
  | k + 1, ks, l => by
    unfold tk pk; rw [hf l]
    cases f l with
    | none => rfl
    | some p => exact pk_toks hf op x y k _ _
theorem pn_toks {F : Tk → Option (S24 × Tk)} {f : List UInt8 → Option (S24 × List UInt8)} (hf : ∀ l, F (toks l) = both (f l)) (op : Int) (kids : Nat) : ∀ (k j : Nat) (x y : Int) (l : List UInt8), tn F op kids k j x y (toks l) = both (pn f op kids k j x y l)
  | 0, j, x, y, l => by unfold tn pn; exact pk_toks hf op x y kids [] l
  | k + 1, j, x, y, l => by
    unfold tn pn
    by_cases h : tok l = []
    · rw [toks_nil h, h, num_nil]; rfl
    · rw [toks_cons h]
      simp only
      cases num? (tok l) with
      | none => rfl
      | some v => exact pn_toks hf op kids k _ _ _ _
theorem pterm_toks : ∀ (n : Nat) (l : List UInt8), tterm n (toks l) = both (pterm n l)
  | 0, l => rfl
  | n + 1, l => by
    unfold tterm pterm
    by_cases h : tok l = []
    · rw [toks_nil h, h]; rfl
    · rw [toks_cons h]
      by_cases h2 : tok l = [40]
      · simp only [h2, if_true]
        by_cases h3 : tok (rest l) = []
        · rw [toks_nil h3, h3, op_nil]; rfl
        · rw [toks_cons h3]
          simp only
          cases opOf (tok (rest l)) with
          | none => rfl
          | some op => exact pn_toks (pterm_toks n) op _ _ _ _ _ _
      · simp only [h2, if_false]; rfl

/-! ### The tokens of a term -/
def ttoks : Nat → S24 → Tk
  | 0, _ => []
  | n + 1, t => [40] :: (shpD t.f0).word :: (([t.f1, t.f2].take (shpD t.f0).numbers).map itoa ++ ((t.f3.map (ttoks n)).flatten ++ [[41]]))

theorem tk_inv {f : Tk → Option (S24 × Tk)} {F : S24 → Tk} (hf : ∀ ts t r, f ts = some (t, r) → ts = F t ++ r) {op x y : Int} : ∀ {k : Nat} {ks : List S24} {ts : Tk} {t : S24} {r : Tk}, tk f op x y k ks ts = some (t, r) →
    ∃ us : List S24, us.length = k ∧ t = ⟨op, x, y, ks ++ us⟩ ∧ ts = (us.map F).flatten ++ ([41] :: r)
  | 0, ks, ts, t, r, h => by
    unfold tk at h
    cases ts with
    | nil => cases h
    | cons c q =>
      simp only at h
      split at h
      · rename_i hc
        obtain ⟨rfl, rfl⟩ := Prod.mk.inj (Option.some.inj h)
        exact ⟨[], rfl, by simp, by simp [hc]⟩
      · cases h
  | k + 1, ks, ts, t, r, h => by
    unfold tk at h
    cases hq : f ts with
    | none => rw [hq] at h; cases h
    | some p =>
      obtain ⟨u, q⟩ := p
      rw [hq] at h
      obtain ⟨us, h1, h2, h3⟩ := tk_inv hf (show tk f op x y k (ks ++ [u]) q = some (t, r) from h)
      refine ⟨u :: us, by simp [h1], by rw [h2]; simp, ?_⟩
      rw [hf _ _ _ hq, h3]
      simp
theorem tk_of {f : Tk → Option (S24 × Tk)} {F : S24 → Tk} (op x y : Int) (r : Tk) : ∀ (us ks : List S24), (∀ u ∈ us, ∀ q, f (F u ++ q) = some (u, q)) →
    tk f op x y us.length ks ((us.map F).flatten ++ ([41] :: r)) = some (⟨op, x, y, ks ++ us⟩, r)
  | [], ks, _ => by simp [tk]
  | u :: us, ks, h => by
    rw [List.length_cons]; unfold tk
    have e : ((u :: us).map F).flatten ++ ([41] :: r) = F u ++ ((us.map F).flatten ++ ([41] :: r)) := by simp
    rw [e, h u (List.mem_cons_self ..)]
    have := tk_of op x y r us (ks ++ [u]) (fun v hv => h v (List.mem_cons_of_mem _ hv))
    simp only
    rw [this]
    simp
theorem tterm_inv : ∀ (n : Nat) (ts : Tk) (t : S24) (r : Tk), tterm n ts = some (t, r) → ts = ttoks n t ++ r
  | 0, ts, t, r, h => by cases h
  | n + 1, ts, t, r, h => by
    unfold tterm at h
    cases ts with
    | nil => cases h
    | cons c q =>
      simp only at h
      split at h
      · rename_i hc
        subst hc
        cases q with
        | nil => cases h
        | cons w q =>
          simp only at h
          cases ho : opOf w with
          | none => rw [ho] at h; cases h
          | some op =>
            rw [ho] at h
            simp only at h
            obtain ⟨hw, s, hs⟩ := op_word ho
            have hD : shpD op = s := by simp [shpD, hs]
            have hn := nums_le hD
            rw [hD] at h hw
            have ih := tterm_inv n
            rcases (by omega : s.numbers = 0 ∨ s.numbers = 1 ∨ s.numbers = 2) with h0 | h0 | h0
            · rw [h0] at h; unfold tn at h
              obtain ⟨us, h1, rfl, h3⟩ := tk_inv ih h
              rw [h3, ttoks]
              simp [hD, h0, hw]
            · rw [h0] at h; unfold tn at h
              cases q with
              | nil => cases h
              | cons c q =>
                simp only at h
                cases hv : num? c with
                | none => rw [hv] at h; cases h
                | some v =>
                  rw [hv] at h
                  simp only [if_true] at h
                  unfold tn at h
                  obtain ⟨us, h1, rfl, h3⟩ := tk_inv ih h
                  rw [h3, ttoks]
                  simp [hD, h0, hw, (num_some hv).1]
            · rw [h0] at h; unfold tn at h
              cases q with
              | nil => cases h
              | cons c q =>
                simp only at h
                cases hv : num? c with
                | none => rw [hv] at h; cases h
                | some v =>
                  rw [hv] at h
                  simp only [if_true] at h
                  unfold tn at h
                  cases q with
                  | nil => cases h
                  | cons c2 q =>
                    simp only at h
                    cases hv2 : num? c2 with
                    | none => rw [hv2] at h; cases h
                    | some v2 =>
                      rw [hv2] at h
                      simp only [Nat.zero_add, Nat.succ_ne_zero, if_false] at h
                      unfold tn at h
                      obtain ⟨us, h1, rfl, h3⟩ := tk_inv ih h
                      rw [h3, ttoks]
                      simp [hD, h0, hw, (num_some hv).1, (num_some hv2).1]
      · cases h
theorem tterm_of : ∀ (n : Nat) (t : S24), sz n t ≠ 0 → ∀ r : Tk, tterm n (ttoks n t ++ r) = some (t, r)
  | 0, t, h, r => absurd rfl h
  | n + 1, t, h, r => by
    obtain ⟨s, hs, hl, hn, hk⟩ := sz_inv h
    obtain ⟨op, a, b, ks⟩ := t
    simp only at hs hl hn hk
    have hD : shpD op = s := by simp [shpD, hs]
    have hnum := nums_le hD
    have hkk := fun (q : Tk) => tk_of (f := tterm n) (F := ttoks n) op a b q ks [] (fun u hu => tterm_of n u (hk u hu))
    unfold ttoks tterm
    simp only [hD, List.cons_append, if_true]
    rw [word_op hs]
    simp only [hD]
    rw [← hl]
    obtain ⟨⟨a0, a1, a2⟩, b0, b1, b2⟩ := hn
    rcases (by omega : s.numbers = 0 ∨ s.numbers = 1 ∨ s.numbers = 2) with h0 | h0 | h0
    · obtain rfl := a2 h0
      obtain rfl := b2 (by omega)
      rw [h0]; unfold tn
      have := hkk r
      simpa using this
    · obtain rfl := b2 (by omega)
      rw [h0]; unfold tn
      have := hkk r
      simp only [List.take_succ_cons, List.take_zero, List.map_cons, List.map_nil, List.cons_append, List.nil_append, num_itoa a a0 a1, if_true]
      unfold tn
      simpa using this
    · rw [h0]; unfold tn
      have := hkk r
      simp only [List.take_succ_cons, List.take_zero, List.map_cons, List.map_nil, List.cons_append, List.nil_append, num_itoa a a0 a1, if_true]
      unfold tn
      simp only [num_itoa b b0 b1, Nat.zero_add, Nat.succ_ne_zero, if_false]
      unfold tn
      simpa using this

/-! ### The tokens of a text of a term -/
theorem digit_nsep (a : Int) (h0 : 0 ≤ a) : ∀ c ∈ itoa a, nsep c = true := fun c hc => by
  have := (itoa_digits a h0).2 c hc
  simp only [nsep, sep, Bool.not_eq_true', Bool.or_eq_false_iff, beq_eq_false_iff_ne]
  refine ⟨⟨?_, ?_⟩, ?_⟩ <;> (rintro rfl; revert this; decide)
theorem nums_starts (xs : List Int) (q : List UInt8) (h : Starts q) : Starts (numsTxt xs ++ q) := by
  cases xs with
  | nil => exact h
  | cons a xs => exact ⟨32, _, rfl, rfl⟩
theorem kids_starts (f : S24 → List UInt8) (ks : List S24) (q : List UInt8) (h : Starts q) : Starts (kidsTxt f ks ++ q) := by
  cases ks with
  | nil => exact h
  | cons a xs => exact ⟨32, _, rfl, rfl⟩
theorem toks_nums (q : List UInt8) (hq : Starts q) : ∀ (xs : List Int), (∀ a ∈ xs, 0 ≤ a) → toks (numsTxt xs ++ q) = xs.map itoa ++ toks q
  | [], _ => rfl
  | a :: xs, h => by
    have ha := h a (List.mem_cons_self ..)
    rw [numsTxt, List.cons_append, List.cons_append, List.append_assoc, toks_blank, toks_word _ _ (itoa_digits a ha).1 (digit_nsep a ha) (.inr (nums_starts xs q hq)),
      toks_nums q hq xs (fun x hx => h x (List.mem_cons_of_mem _ hx))]
    rfl
theorem toks_kids {f : S24 → List UInt8} {F : S24 → Tk} (q : List UInt8) : ∀ (ks : List S24), (∀ k ∈ ks, ∀ q, toks (f k ++ q) = F k ++ toks q) → toks (kidsTxt f ks ++ q) = (ks.map F).flatten ++ toks q
  | [], _ => rfl
  | k :: ks, h => by
    rw [kidsTxt, List.cons_append, List.cons_append, List.append_assoc, toks_blank, h k (List.mem_cons_self ..), toks_kids q ks (fun x hx => h x (List.mem_cons_of_mem _ hx))]
    simp
theorem toks_txt : ∀ (n : Nat) (t : S24), sz n t ≠ 0 → ∀ q, toks (txt n t ++ q) = ttoks n t ++ toks q
  | 0, t, h, q => absurd rfl h
  | n + 1, t, h, q => by
    obtain ⟨s, hs, hl, hn, hk⟩ := sz_inv h
    have hD : shpD t.f0 = s := by simp [shpD, hs]
    obtain ⟨hw1, hw2⟩ := word_nsep hs
    have hS : Starts ((41 : UInt8) :: q) := ⟨41, q, rfl, rfl⟩
    rw [txt, ttoks, hD]
    simp only [List.cons_append, List.append_assoc, List.nil_append]
    rw [toks_paren _ _ (.inl rfl), toks_word _ _ hw1 hw2 (.inr (nums_starts _ _ (kids_starts _ _ _ hS))), toks_nums _ (kids_starts _ _ _ hS) _ (by
      intro a ha
      have := List.mem_of_mem_take ha
      simp only [List.mem_cons, List.mem_nil_iff, or_false] at this
      rcases this with rfl | rfl
      · exact hn.1.1
      · exact hn.2.1), toks_kids _ _ (fun k hk' => toks_txt n k (hk k hk')), toks_paren _ _ (.inr rfl)]

/-! ### What Parse answers -/
theorem good_sz {t : S24} (h : good t = true) : sz 6 t ≠ 0 ∧ sz 6 t ≤ 20 := by
  unfold good at h
  simp only [Bool.and_eq_true, decide_eq_true_eq] at h
  omega
theorem good_of {t : S24} (h1 : sz 6 t ≠ 0) (h2 : sz 6 t ≤ 20) : good t = true := by
  unfold good
  simp only [Bool.and_eq_true, decide_eq_true_eq]
  omega
/-- What Parse answers: an error and no term, or a right term that has the text's tokens. -/
theorem parse_cases (s : List UInt8) : parseS s = (z24, 5) ∨ ∃ t, parseS s = (t, 0) ∧ good t = true ∧ s.length ≤ 4000 ∧ toks s = ttoks 6 t := by
  unfold parseS
  by_cases hl : 4000 < s.length
  · rw [if_pos hl]; exact .inl rfl
  · rw [if_neg hl]
    have hp := pterm_toks 6 s
    cases h : pterm 6 s with
    | none => exact .inl rfl
    | some p =>
      obtain ⟨t, q⟩ := p
      rw [h] at hp
      simp only
      by_cases hc : tok q = [] ∧ good t = true
      · rw [if_pos hc]
        refine .inr ⟨t, rfl, hc.2, by omega, ?_⟩
        have := tterm_inv 6 _ _ _ hp
        rw [this]
        simp only [toks_nil hc.1, List.append_nil]
      · rw [if_neg hc]; exact .inl rfl
/-- A text that has a right term's tokens is parsed xs this term. -/
theorem parse_of_toks {s : List UInt8} {t : S24} (hg : good t = true) (hl : s.length ≤ 4000) (hs : toks s = ttoks 6 t) : parseS s = (t, 0) := by
  obtain ⟨h1, h2⟩ := good_sz hg
  have hp := pterm_toks 6 s
  have ht := tterm_of 6 t h1 []
  rw [List.append_nil, ← hs, hp] at ht
  cases h : pterm 6 s with
  | none => rw [h] at ht; cases ht
  | some p =>
    obtain ⟨u, q⟩ := p
    rw [h] at ht
    obtain ⟨rfl, hq⟩ := Prod.mk.inj (Option.some.inj ht)
    unfold parseS
    rw [if_neg (by omega), h]
    simp only
    rw [if_pos ⟨tok_of_toks hq, hg⟩]
/-- A text without a right term's tokens is refused. -/
theorem parse_not {s : List UInt8} (h : ∀ t, good t = true → toks s ≠ ttoks 6 t) : parseS s = (z24, 5) := by
  rcases parse_cases s with h1 | ⟨t, h1, h2, h3, h4⟩
  · exact h1
  · exact absurd h4 (h t h2)
end Go.Proofs.YtjcdpmoabkfchaaDoor
