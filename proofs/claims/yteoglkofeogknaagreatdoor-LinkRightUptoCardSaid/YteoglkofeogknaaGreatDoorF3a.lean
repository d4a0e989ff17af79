/- Walk: asm.fits. Conditions: what each theorem states. -/
import Derived.Test.YteoglkofeogknaaGreatDoorFA
import Derived.Test.YteoglkofeogknaaGreatDoorDC
import Derived.Deep.RegionHeld3
set_option linter.unusedVariables false
set_option linter.unusedSimpArgs false
namespace Go.Proofs.YteoglkofeogknaaGreatDoor
open Go.RowKit
set_option maxRecDepth 100000 in
set_option maxHeartbeats 8000000 in
theorem fits_c1 (A1 : Option Addr) (n1 k1 : Nat) (A2 : Option Addr) (n2 k2 : Nat) (v3 v4 : Value) (s k kd add : Int) (nm : ByteArray) (w : World) (h1 : s < 0) :
    Calls Tryz.prog 38 #[.agg #[.slice A1 n1 k1, .slice A2 n2 k2, v3, v4], .agg #[.int .i64 s, .int .i64 k, .int .i64 kd, .int .i64 add, .string nm]] w fun e w' => e = .returned (.bool false) ∧ Below w.heap.size w w' := by
  skip
  all_goals
    go_enter Tryz.func38, Tryz.ntmps38
    go_wp2_with fail
    go_quiet (fail)
    go_wp2_with fail
    go_ret
    exact ⟨rfl, below_dN (((Below.refl _ _).alloc (Nat.le_refl _) _).alloc (by simp) _) _⟩
set_option maxRecDepth 100000 in
set_option maxHeartbeats 8000000 in
theorem fits_c2 (A1 : Option Addr) (n1 k1 : Nat) (A2 : Option Addr) (n2 k2 : Nat) (v3 v4 : Value) (s k kd add : Int) (nm : ByteArray) (w : World) (h1 : decide (s < 0) = false) (h2 : 1 < s) :
    Calls Tryz.prog 38 #[.agg #[.slice A1 n1 k1, .slice A2 n2 k2, v3, v4], .agg #[.int .i64 s, .int .i64 k, .int .i64 kd, .int .i64 add, .string nm]] w fun e w' => e = .returned (.bool false) ∧ Below w.heap.size w w' := by
  skip
  all_goals
    go_enter Tryz.func38, Tryz.ntmps38
    go_wp2_with fail
    go_quiet (fail)
    go_wp2_with fail
    go_ret
    exact ⟨rfl, below_dN (((Below.refl _ _).alloc (Nat.le_refl _) _).alloc (by simp) _) _⟩
set_option maxRecDepth 100000 in
set_option maxHeartbeats 8000000 in
theorem fits_c3 (A1 : Option Addr) (n1 k1 : Nat) (A2 : Option Addr) (n2 k2 : Nat) (v3 v4 : Value) (s k kd add : Int) (nm : ByteArray) (w : World) (h1 : decide (s < 0) = false) (h2 : decide (1 < s) = false) (h3 : k < 0) :
    Calls Tryz.prog 38 #[.agg #[.slice A1 n1 k1, .slice A2 n2 k2, v3, v4], .agg #[.int .i64 s, .int .i64 k, .int .i64 kd, .int .i64 add, .string nm]] w fun e w' => e = .returned (.bool false) ∧ Below w.heap.size w w' := by
  skip
  all_goals
    go_enter Tryz.func38, Tryz.ntmps38
    go_wp2_with fail
    go_quiet (fail)
    go_wp2_with fail
    go_ret
    exact ⟨rfl, below_dN (((Below.refl _ _).alloc (Nat.le_refl _) _).alloc (by simp) _) _⟩
end Go.Proofs.YteoglkofeogknaaGreatDoor
