/- Parse's deferred closure: it recovers what the parser gives up with; it does nothing where nothing was given up. -/
import Derived.Test.YtjcdpmoabkfchaaDoorMSize
import Derived.Test.YtjcdpmoabkfchaaDoorMNext
import Derived.Defers
import Derived.Recover
import Derived.Laws.Pointers
set_option linter.unusedSimpArgs false
set_option linter.unusedVariables false
namespace Go.Proofs.YtjcdpmoabkfchaaDoor
open Go.RowKit Go.Lib

set_option maxHeartbeats 2000000 in
set_option maxRecDepth 100000 in
theorem catch_idle (p q : Addr) (w : World) :
    CallsD Tryd.prog 26 #[.pointer (some p), .pointer (some q)] .returning w fun e u' w' => e = .returned (.tuple #[]) ∧ u' = .returning ∧ w' = w := by
  refine callsD_of_wpS Tryd.func26 rfl fun c₀ cs hu => ?_
  apply wpS_seq
  apply wpS_region
  simp [wpOpsS, go_sem, recoverD, hu, Tryd.ntmps26, Exit.thenS]
  refine wpS_of_wp ?_
  go_wp2
  cases c₀
  simp_all [bodyPostS, results, Tryd.results26]

set_option maxHeartbeats 2000000 in
set_option maxRecDepth 100000 in
theorem catch_gave (p q : Nat) (older : List PanicEntry) (w : World) (a b c : Int) (v : Value) (x : Int) (hp : w.heap[p]? = some (.cells #[.int .i64 a, .int .i64 b, .int .i64 c, v] 24 (0, 0))) (hq : w.heap[q]? = some (.cells #[.int .i64 x] 26 (0, 0))) (hne : p ≠ q) :
    CallsD Tryd.prog 26 #[.pointer (some ⟨p, 0, none⟩), .pointer (some ⟨q, 0, none⟩)] (.panicking ({ v := .iface 55 (.agg #[]), recovered := false } :: older)) w fun e u' w' =>
      e = .returned (.tuple #[]) ∧ u' = .panicking ({ v := .iface 55 (.agg #[]), recovered := true } :: older) ∧ (∃ o, w' = ((((((w.alloc o).setCell ⟨p, 0, none⟩ (.int .i64 0)).setCell ⟨p, 1, none⟩ (.int .i64 0)).setCell ⟨p, 2, none⟩ (.int .i64 0)).setCell ⟨p, 3, none⟩ (.slice none 0 0)).setCell ⟨q, 0, none⟩ (.int .i64 5))) := by
  obtain ⟨z0, z1, z2, z3⟩ := cells70 hp
  obtain ⟨y0, y1, y2, y3⟩ := frozen70 hp
  have x0 := (Lib.cell_of_heap hq 0).trans (rfl : _ = some (Value.int .i64 x))
  have hta : ∀ w, (Instr.typeAssert (.iface 55 (.agg #[])) 20 55 true).run Tryd.prog w = .ok (.tuple #[.agg #[], .bool true]) w := fun _ => by kernel_rfl
  have hz0 := ck_alloc z0 (.cells #[] 55)
  have hz1 := ck_alloc z1 (.cells #[] 55)
  have hz2 := ck_alloc z2 (.cells #[] 55)
  have hz3 := ck_alloc z3 (.cells #[] 55)
  have hx0 := ck_alloc x0 (.cells #[] 55)
  obtain ⟨hy0, hy1, hy2, hy3⟩ := frozen70 (below_blk ((Below.refl _ _).alloc (Nat.le_refl _) (.cells #[] 55)) hp)
  have hx1 := Lib.frozen_of_heap (below_blk ((Below.refl _ _).alloc (Nat.le_refl _) (.cells #[] 55)) hq) 0
  have x1 := Lib.frozen_of_heap hq 0
  refine callsD_of_wpS Tryd.func26 rfl fun c₀ cs hu => ?_
  apply wpS_seq
  apply wpS_region
  simp [wpOpsS, go_sem, recoverD, hu, Tryd.ntmps26, Exit.thenS]
  refine wpS_of_wp ?_
  go_wp2
  simp [bodyPostS, results, Tryd.results26]
  first | exact ⟨_, rfl⟩ | trace_state
end Go.Proofs.YtjcdpmoabkfchaaDoor
