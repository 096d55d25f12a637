import Derived.Test.YtbofcocfcmlcaaaGreatRegionB
import Derived.Test.YtbofcocfcmlcaaaGreatSlices
import Derived.Test.YtbofcocfcmlcaaaGreatUnframe
import Derived.BigQuiet
/-! Package node: which requests and replies may be. -/
namespace Go.Proofs.YtbofcocfcmlcaaaGreat
open Go.RowKit

def rightB (k lo po : Int) (n : Nat) : Bool := decide (1 ≤ k ∧ k < 7 ∧ 0 ≤ lo ∧ lo < 281474976710656 ∧ 0 ≤ po ∧ po ≤ 4096 ∧ n ≤ 65504 ∧ (k = 1 ∨ k = 2 ∨ (n = 0 ∧ (k = 3 ∨ k = 5 → po = 0))))
def tellsB (e tl : Int) (n : Nat) : Bool := decide (0 ≤ e ∧ e ≤ 255 ∧ 0 ≤ tl ∧ tl ≤ 4096 ∧ n ≤ 65504)

theorem ret_bool {a b : Bool} (h : a = b) : Ending.returned (.bool a) = .returned (.bool b) := by rw [h]

set_option maxRecDepth 100000 in
set_option maxHeartbeats 1600000 in
theorem request_right (k lo po : Int) (av : Option Addr) (n cv : Nat) (W : World) (hn : n ≤ 9223372036854775807) :
    Calls Tryz.prog 107 #[.agg #[.int .i64 k, .int .i64 lo, .int .i64 po, .slice av n cv]] W fun e w' => e = .returned (.bool (rightB k lo po n)) ∧ Below W.heap.size W w' := by
  go_enter Tryz.func107, Tryz.ntmps107
  go_wp2_with fail
  all_goals go_ret
  all_goals (refine ⟨ret_bool (Bool.eq_iff_iff.2 ?_), (Below.refl _ _).alloc (Nat.le_refl _) _⟩)
  all_goals (try simp only [beq_iff_eq, beq_eq_false_iff_ne, ne_eq] at *)
  all_goals (simp [rightB]; omega)

set_option maxRecDepth 100000 in
set_option maxHeartbeats 1600000 in
theorem reply_right (er tl : Int) (sl : Bool) (av : Option Addr) (n cv : Nat) (W : World) (hn : n ≤ 9223372036854775807) :
    Calls Tryz.prog 99 #[.agg #[.int .i64 er, .int .i64 tl, .bool sl, .slice av n cv]] W fun e w' => e = .returned (.bool (tellsB er tl n)) ∧ Below W.heap.size W w' := by
  go_enter Tryz.func99, Tryz.ntmps99
  go_wp2_with fail
  all_goals go_ret
  all_goals (refine ⟨ret_bool (Bool.eq_iff_iff.2 ?_), (Below.refl _ _).alloc (Nat.le_refl _) _⟩)
  all_goals (try simp only [beq_iff_eq, beq_eq_false_iff_ne, ne_eq] at *)
  all_goals (simp [tellsB]; omega)
end Go.Proofs.YtbofcocfcmlcaaaGreat
