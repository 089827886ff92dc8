/- The map that term.words makes, in whatever order the shapes come up; what a look-up in it answers. -/
import Derived.Test.YtjcdpmoabkfchaaDoorMLook
import Derived.Deep.LoopGhost
import Derived.Laws.IdiomRangeMap
set_option linter.unusedSimpArgs false
namespace Go.Proofs.YtjcdpmoabkfchaaDoor
open Go.RowKit Go.Lib

/-- The word of the entry with a stamp. -/
def wordAt (b : Nat) : List UInt8 := (tab[b]?.map Shape.word).getD []
theorem words_differ : ∀ i j : Nat, i < 21 → j < 21 → wordAt i = wordAt j → i = j := by
  have h : (List.range 21).all (fun i => (List.range 21).all fun j => !(wordAt i == wordAt j) || i == j) = true := by decide +kernel
  intro i j hi hj he
  have h1 := List.all_eq_true.1 h i (List.mem_range.2 hi)
  have h2 := List.all_eq_true.1 h1 j (List.mem_range.2 hj)
  simp only [he, beq_self_eq_true, Bool.not_true, Bool.false_or, beq_iff_eq] at h2
  exact h2

/-- The entries that the iterator has not handed out. -/
theorem ent_born {W : World} {es : Array MapEntry} (h : Ent W es 21) (e : MapEntry) (he : e ∈ es) : ∃ (b : Nat) (s : Shape) (A : Option Addr) (c : Nat), b < 21 ∧ tab[b]? = some s ∧ e = { key := .int .i64 ((b : Int) + 1), val := shapeVal A c s, born := b } ∧ es[b]? = some e ∧ KidsAt W A s.kids := by
  obtain ⟨i, hi, hie⟩ := Array.getElem_of_mem he
  have hi' : i < 21 := by rw [← h.1]; exact hi
  have hlt : i < tab.length := hi'
  obtain ⟨A, c, h1, h2, h3⟩ := h.2 i tab[i] hi' (List.getElem?_eq_getElem hlt)
  have h4 : es[i]? = some e := by rw [← hie]; exact Array.getElem?_eq_getElem hi
  rw [h1] at h4
  injection h4 with h4
  exact ⟨i, tab[i], A, c, hi', List.getElem?_eq_getElem hlt, h4.symm, by rw [h1, h4], h2⟩

theorem next_map {W : World} {B it : Nat} {seen : Array Nat} (h : ShapesAt W B) (hi : W.heap[it]? = some (.mapIter (some B) 21 seen 21)) :
    ((∀ b, b < 21 → b ∈ seen) ∧ (Instr.next (.pointer (some ⟨it, 0, none⟩)) false 0).run Tryd.prog W = .ok (.tuple #[.bool false]) W) ∨
    ∃ (b : Nat) (s : Shape) (A : Option Addr) (c n : Nat), b < 21 ∧ b ∉ seen ∧ tab[b]? = some s ∧ KidsAt W A s.kids ∧
      (Instr.next (.pointer (some ⟨it, 0, none⟩)) false 0).run Tryd.prog W = .ok (.tuple #[.bool true, .int .i64 ((b : Int) + 1), shapeVal A c s]) (withObj (W.drewN n) it (.mapIter (some B) 21 (seen.push b) 21)) ∧
      (Instr.entry (.pointer (some ⟨it, 0, none⟩))).run Tryd.prog (withObj (W.drewN n) it (.mapIter (some B) 21 (seen.push b) 21)) = .ok (.tuple #[.int .i64 ((b : Int) + 1), shapeVal A c s]) (withObj (W.drewN n) it (.mapIter (some B) 21 (seen.push b) 21)) := by
  obtain ⟨es, hb, he⟩ := h
  have hold : ∀ x ∈ es.toList, x.born < 21 := fun x hx => by
    obtain ⟨b, s, A, c, h1, h2, h3, _⟩ := ent_born he x (by simpa using hx)
    rw [h3]
    exact h1
  simp only [Instr.next, getObj, Sem.run_bind, Sem.run, hi, hb, Result.andThen, next_test_false seen es 21 21 hold (Nat.le_refl _), Bool.false_eq_true, if_false]
  have hmem : ∀ x ∈ (Array.filter (fun e => !seen.contains e.born) es).toList, x.born < 21 := fun x hx => hold x (by simp at hx ⊢; exact hx.1)
  have hmem2 : ∀ x ∈ Array.filter (fun e => !seen.contains e.born) es, x ∈ es ∧ x.born ∉ seen := fun x hx => by
    simp only [Array.mem_filter, Bool.not_eq_true', Array.contains_eq_mem, decide_eq_false_iff_not] at hx
    exact hx
  have hall : (Array.filter (fun e => !seen.contains e.born) es).size = 0 → ∀ b, b < 21 → b ∈ seen := fun h0 b hb21 => by
    have hlt : b < tab.length := hb21
    obtain ⟨A, c, h1, h2, h3⟩ := he.2 b tab[b] hb21 (List.getElem?_eq_getElem hlt)
    have hm := Array.mem_of_getElem? h1
    have hL : Array.filter (fun e => !seen.contains e.born) es = #[] := Array.eq_empty_of_size_eq_zero h0
    rw [Array.filter_eq_empty_iff] at hL
    have := hL _ hm
    simpa using this
  generalize Array.filter (fun e => !seen.contains e.born) es = L at hmem hmem2 hall ⊢
  have e1 : L.filter (fun x => decide (x.born < 21)) = L := Array.filter_eq_self.2 (fun x hx => by simpa using hmem x (by simpa using hx))
  have e2 : L.filter (fun x => decide (x.born ≥ 21)) = #[] := by
    rw [Array.filter_eq_empty_iff]
    intro x hx
    have := hmem x (by simpa using hx)
    simp
    omega
  simp only [e1, e2, Array.append_empty]
  by_cases h0 : L.size = 0
  · left
    have hn := hall h0
    have : L = #[] := Array.eq_empty_of_size_eq_zero h0
    subst this
    refine ⟨hn, ?_⟩
    simp [choose, Sem.run, Question.forced]
  · right
    have hne : L.isEmpty = false := by simp [Array.isEmpty, h0]
    simp only [hne, Bool.false_eq_true, if_false, Array.empty_append, Array.size_map]
    have hch : ∃ (j n : Nat), j < L.size ∧ (choose (Question.mapNext L.size)).run Tryd.prog W = .ok j (W.drewN n) := by
      by_cases hf : L.size ≤ 1
      · exact ⟨0, 0, by omega, by simp [choose, Sem.run, Question.forced, hf]; rfl⟩
      · exact ⟨_, 1, Nat.mod_lt _ (by omega), by
          simp only [choose, Sem.run, Question.forced, decide_eq_true_eq, hf, if_false, Question.cut]
          rfl⟩
    obtain ⟨j, n, hj, hrun⟩ := hch
    obtain ⟨hin, hns⟩ := hmem2 L[j] (Array.getElem_mem hj)
    obtain ⟨b, s, A, c, h1, h2, h3, h4, h5⟩ := ent_born he L[j] hin
    refine ⟨b, s, A, c, n, h1, by rw [h3] at hns; exact hns, h2, h5, ?_, ?_⟩
    · have hset : (setObj it (.mapIter (some B) 21 (seen.push b) 21)).run Tryd.prog (W.drewN n) = .ok () (withObj (W.drewN n) it (.mapIter (some B) 21 (seen.push b) 21)) := by
        simp only [setObj, Sem.run]
        rw [show (W.drewN n).heap[it]? = some (.mapIter (some B) 21 seen 21) from hi]
        rfl
      simp only [hrun, Array.getElem?_map, Array.getElem?_eq_getElem hj, Option.map_some, h3, Sem.run_bind, hset, Result.andThen]
      rfl
    · have hbi : B ≠ it := fun e => by rw [e, hi] at hb; cases hb
      have hi2 : (withObj (W.drewN n) it (.mapIter (some B) 21 (seen.push b) 21)).heap[it]? = some (.mapIter (some B) 21 (seen.push b) 21) := withObj_at (w := W.drewN n) hi
      have hb2 : (withObj (W.drewN n) it (.mapIter (some B) 21 (seen.push b) 21)).heap[B]? = some (.map es 21) := (withObj_other (w := W.drewN n) _ hbi).trans hb
      have hfind : es.find? (·.born == b) = some L[j] := by
        rw [← Array.find?_toList, List.find?_eq_some_iff_getElem]
        have hb21 : b < es.size := by rw [he.1]; exact h1
        refine ⟨by rw [h3]; simp, b, by simpa using hb21, ?_, fun i hi => ?_⟩
        · have := Array.getElem?_eq_some_iff.1 h4
          obtain ⟨_, h6⟩ := this
          simpa using h6
        · have hlt : i < tab.length := by show i < 21; omega
          obtain ⟨A', c', h6, _⟩ := he.2 i tab[i] (by omega) (List.getElem?_eq_getElem hlt)
          have h7 := (Array.getElem?_eq_some_iff.1 h6).2
          simp only [Array.getElem_toList]
          rw [h7]
          simp
          omega
      simp only [Instr.entry, getObj, Sem.run_bind, Sem.run, hi2, hb2, Result.andThen, Array.back?_push, bne_self_eq_false, Bool.false_eq_true, if_false, hfind]
      rw [h3]
      rfl

/-! ### The map of words -/
theorem u80 : Tryd.prog.underlying 80 = some (.map 9 3) := Tryd.underlying80

/-- The entries, in the order in which the shapes came up. -/
def WEnt (es : Array MapEntry) (seen : Array Nat) : Prop := es.size = seen.size ∧ ∀ (i b : Nat), seen[i]? = some b → ∃ e, es[i]? = some e ∧ e.key = Sv (wordAt b) ∧ e.val = .int .i64 ((b : Int) + 1)

theorem sv_beq (a b : List UInt8) : ((⟨a.toArray⟩ : ByteArray) == ⟨b.toArray⟩) = (a == b) := by
  show (a.toArray == b.toArray) = (a == b)
  simp

theorem findNow_str_none (t : List UInt8) : ∀ (es : List MapEntry) (i : Nat), (∀ e ∈ es, ∃ y, e.key = Sv y ∧ y ≠ t) → Instr.findNow .string (Sv t) es i = some none
  | [], _, _ => rfl
  | e :: es, i, h => by
    obtain ⟨y, hk, hne⟩ := h e (List.mem_cons_self ..)
    have hb : (t == y) = false := beq_eq_false_iff_ne.2 (fun h => hne h.symm)
    simp only [Instr.findNow, hk, Instr.sameNow, Sv, sv_beq, hb]
    exact findNow_str_none t es (i + 1) (fun e' he' => h e' (List.mem_cons_of_mem _ he'))

theorem findNow_str_at (t : List UInt8) (v : Value) : ∀ (es : List MapEntry) (i n : Nat) (e : MapEntry), es[n]? = some e → e.key = Sv t → e.val = v →
    (∀ (j : Nat) e', j < n → es[j]? = some e' → ∃ y, e'.key = Sv y ∧ y ≠ t) → Instr.findNow .string (Sv t) es i = some (some (i + n, v))
  | [], _, _, _, h, _, _, _ => by simp at h
  | e0 :: es, i, 0, e, h, hk, hv, _ => by
    simp at h
    subst h
    have hb : (t == t) = true := beq_self_eq_true t
    simp [Instr.findNow, hk, Instr.sameNow, hv, Sv, sv_beq]
  | e0 :: es, i, n + 1, e, h, hk, hv, hall => by
    obtain ⟨y, hk0, hne⟩ := hall 0 e0 (by omega) rfl
    have hb : (t == y) = false := beq_eq_false_iff_ne.2 (fun h => hne h.symm)
    have ih := findNow_str_at t v es (i + 1) n e (by simpa using h) hk hv (fun j e' hj he' => hall (j + 1) e' (by omega) (by simpa using he'))
    simp only [Sv] at ih hk0
    simp only [Instr.findNow, hk0, Instr.sameNow, Sv, sv_beq, hb]
    rw [ih]
    congr 3
    omega

theorem checkKey_str (b : Bool) (n : Nat) (v : Value) (w : World) : (Instr.checkKey b (n + 1) 9 v).run Tryd.prog w = .ok () w := by
  simp [Instr.checkKey, run_underlying Tryd.underlying9]

theorem wEnt_keys {es : Array MapEntry} {seen : Array Nat} (h : WEnt es seen) : ∀ e ∈ es.toList, ∃ b, b ∈ seen ∧ e.key = Sv (wordAt b) := fun e hm => by
  obtain ⟨i, hi, hie⟩ := List.getElem_of_mem hm
  have hi' : i < seen.size := by rw [← h.1]; simpa using hi
  obtain ⟨e', h1, h2, _⟩ := h.2 i seen[i] (Array.getElem?_eq_getElem hi')
  have h3 : es[i]? = some e := by
    rw [← hie]
    simp [show i < es.size by simpa using hi]
  rw [h1] at h3
  injection h3 with h3
  exact ⟨seen[i], Array.getElem_mem hi', by rw [← h3]; exact h2⟩

theorem put_word {W : World} {m c b : Nat} {es : Array MapEntry} {seen : Array Nat} (hm : W.heap[m]? = some (.map es c)) (h : WEnt es seen) (hs : ∀ x ∈ seen, x < 21) (hb : b < 21) (hn : b ∉ seen) :
    (Instr.mapUpdate 80 (.map (some m)) (Sv (wordAt b)) (.int .i64 ((b : Int) + 1))).run Tryd.prog W = .ok () (withObj W m (.map (es.push { key := Sv (wordAt b), val := .int .i64 ((b : Int) + 1), born := c }) (c + 1))) ∧
      WEnt (es.push { key := Sv (wordAt b), val := .int .i64 ((b : Int) + 1), born := c }) (seen.push b) := by
  have hf : Instr.findNow .string (Sv (wordAt b)) es.toList 0 = some none := by
    refine findNow_str_none _ _ _ (fun e hm => ?_)
    obtain ⟨b', h1, h2⟩ := wEnt_keys h e hm
    exact ⟨_, h2, fun he => hn (by rw [← words_differ b' b (hs b' h1) hb he]; exact h1)⟩
  refine ⟨?_, ?_⟩
  · have hck : (Instr.checkKey false 10000 9 (Sv (wordAt b))).run Tryd.prog W = .ok () W := checkKey_str _ 9999 _ _
    simp only [Instr.mapUpdate, Sem.run_bind, run_underlying u80, Result.andThen, getObj, setObj, Sem.run, hm, hck, Instr.findKey, run_underlying Tryd.underlying9, hf]
    simp [Sem.run, hm, withObj]
  · refine ⟨by simp [h.1], fun i x hx => ?_⟩
    rw [Array.getElem?_push] at hx
    split at hx
    · rename_i hi
      injection hx with hx
      subst hx
      exact ⟨_, by rw [Array.getElem?_push, if_pos (by rw [h.1]; exact hi)], rfl, rfl⟩
    · rename_i hi
      obtain ⟨e, h1, h2, h3⟩ := h.2 i x hx
      exact ⟨e, by rw [Array.getElem?_push, if_neg (by rw [h.1]; exact hi)]; exact h1, h2, h3⟩

/-- The map is whole. -/
def WordsAt (W : World) (m : Nat) : Prop := ∃ es c seen, W.heap[m]? = some (.map es c) ∧ WEnt es seen ∧ (∀ b, b < 21 → b ∈ seen) ∧ ∀ b ∈ seen, b < 21

/-- The operator with a word. -/
def opOf (t : List UInt8) : Option Int := ((List.range 21).find? (fun b => wordAt b == t)).map fun b => (b : Int) + 1

theorem lookup_word {W : World} {m : Nat} (h : WordsAt W m) (t : List UInt8) :
    (Instr.lookup 80 (.map (some m)) (Sv t) true).run Tryd.prog W = .ok (.tuple #[.int .i64 ((opOf t).getD 0), .bool (opOf t).isSome]) W := by
  obtain ⟨es, c, seen, hm, he, hall, hlt⟩ := h
  have hck : ∀ b, (Instr.checkKey b 10000 9 (Sv t)).run Tryd.prog W = .ok () W := fun b => checkKey_str b 9999 _ _
  have hz : (zeroValue 3).run Tryd.prog W = .ok (.int .i64 0) W := Tryd.zeroValue3 W
  cases ho : (List.range 21).find? (fun b => wordAt b == t) with
  | none =>
    have hf : Instr.findNow .string (Sv t) es.toList 0 = some none := by
      refine findNow_str_none _ _ _ (fun e hm => ?_)
      obtain ⟨b', h1, h2⟩ := wEnt_keys he e hm
      refine ⟨_, h2, fun hw => ?_⟩
      have := List.find?_eq_none.1 ho b' (List.mem_range.2 (hlt b' h1))
      simp [hw] at this
    simp only [Instr.lookup, Sem.run_bind, run_underlying u80, Result.andThen, getObj, Sem.run, hm, hck, Instr.findKey, run_underlying Tryd.underlying9, hf]
    simp [Sem.run, hm, hck, hf, hz, opOf, ho]
  | some b =>
    have hb : wordAt b = t := by have := List.find?_some ho; simpa using this
    have hb21 : b < 21 := List.mem_range.1 (List.mem_of_find?_eq_some ho)
    -- the first place of b
    obtain ⟨n, hn, hfirst⟩ : ∃ n : Nat, seen[n]? = some b ∧ ∀ j : Nat, j < n → seen[j]? ≠ some b := by
      obtain ⟨i, hi, hib⟩ := Array.getElem_of_mem (hall b hb21)
      have hex : ∃ n : Nat, seen[n]? = some b := ⟨i, by rw [Array.getElem?_eq_getElem hi, hib]⟩
      have key : ∀ N : Nat, seen[N]? = some b → ∃ n : Nat, seen[n]? = some b ∧ ∀ j : Nat, j < n → seen[j]? ≠ some b := by
        intro N
        induction N using Nat.strongRecOn with
        | _ N ih =>
          intro hN
          by_cases h : ∃ j, j < N ∧ seen[j]? = some b
          · obtain ⟨j, hj, hjb⟩ := h
            exact ih j hj hjb
          · exact ⟨N, hN, fun j hj hjb => h ⟨j, hj, hjb⟩⟩
      obtain ⟨N, hN⟩ := hex
      exact key N hN
    obtain ⟨e, h1, h2, h3⟩ := he.2 n b hn
    have hf : Instr.findNow .string (Sv t) es.toList 0 = some (some (0 + n, .int .i64 ((b : Int) + 1))) := by
      refine findNow_str_at _ _ _ 0 n e (by simpa using h1) (by rw [h2, hb]) h3 (fun j e' hj hje => ?_)
      have hjn : j < es.size := by
        have := (Array.getElem?_eq_some_iff.1 h1).1
        omega
      have hjs : j < seen.size := by rw [← he.1]; exact hjn
      obtain ⟨e2, h4, h5, _⟩ := he.2 j seen[j] (Array.getElem?_eq_getElem hjs)
      have h6 : es[j]? = some e' := by simpa using hje
      rw [h4] at h6
      injection h6 with h6
      subst h6
      refine ⟨_, h5, fun hw => hfirst j hj ?_⟩
      rw [Array.getElem?_eq_getElem hjs, words_differ seen[j] b (hlt _ (Array.getElem_mem hjs)) hb21 (hw.trans hb.symm)]
    simp only [Instr.lookup, Sem.run_bind, run_underlying u80, Result.andThen, getObj, Sem.run, hm, hck, Instr.findKey, run_underlying Tryd.underlying9, hf]
    simp [Sem.run, hm, hck, hf, opOf, ho]
end Go.Proofs.YtjcdpmoabkfchaaDoor
