/-
  Walks of functions: what each call comes to.
-/
import Derived.Test.YtehfgmagmnjffaaGreatDoorDraw
import Derived.Test.YtehfgmagmnjffaaGreatDoorProg
namespace Go.Proofs.YtehfgmagmnjffaaGreatDoor.Num
open Go Go.RowKit Go.Proofs.YtehfgmagmnjffaaGreatDoor.E 
theorem hmix : Tryz.prog.follows .mixedOrders = true := by kernel_rfl
theorem en32 : Enters Tryz.prog 32 := enters_of Tryz.func32 (by kernel_rfl) rfl

/-- An error that is nil, or an Errno. -/
def ev : Option Int → Value
  | none => .nilIface
  | some n => .iface 36 (.int .i64 n)
def numE : Option Int → Int
  | none => 0
  | some n => if n ≠ 0 then n else -1

theorem num_nil  (w : World)  : Calls Tryz.prog 32 #[.nilIface] w fun e w' => e = .returned (.int .i64 (numE none)) ∧ Gr w w' := by
  refine enter (vs := [.nilIface]) Tryz.func32 rfl Tryz.ntmps32 rfl ?_
  refine g_seq ?_
  refine g_reg ?_
  refine l_y (y_assign rfl) rfl ?_
  refine l_nil ?_
  refine g_seq ?_
  refine g_seq ?_
  refine g_reg ?_
  refine l_y (y_move rfl) rfl ?_
  refine l_y (y_eqnn rfl rfl Tryz.underlying31) rfl ?_
  refine l_nil ?_
  refine g_true rfl ?_
  refine g_seq ?_
  refine g_reg ?_
  refine l_y (y_assign rfl) rfl ?_
  refine l_nil ?_
  refine g_ret Tryz.results32 rfl ?_
  exact ⟨rfl, Gr.rf _⟩

theorem num_errno (n : Int) (w : World)  : Calls Tryz.prog 32 #[.iface 36 (.int .i64 n)] w fun e w' => e = .returned (.int .i64 (numE (some n))) ∧ Gr w w' := by
  refine enter (vs := [.iface 36 (.int .i64 n)]) Tryz.func32 rfl Tryz.ntmps32 rfl ?_
  refine g_seq ?_
  refine g_reg ?_
  refine l_y (y_assign rfl) rfl ?_
  refine l_nil ?_
  refine g_seq ?_
  refine g_seq ?_
  refine g_reg ?_
  refine l_y (y_move rfl) rfl ?_
  refine l_y (y_eqni rfl rfl Tryz.underlying31) rfl ?_
  refine l_nil ?_
  refine g_false rfl ?_
  refine g_skip ?_
  refine g_seq ?_
  refine g_reg ?_
  refine l_y (y_move rfl) rfl ?_
  refine l_y (y_ta rfl Tryz.underlying36 rfl) rfl ?_
  refine l_y (y_move rfl) rfl ?_
  refine l_y (y_ext rfl rfl) rfl ?_
  refine l_y (y_ext rfl rfl) rfl ?_
  refine l_y (y_assign rfl) rfl ?_
  refine l_y (y_assign rfl) rfl ?_
  refine l_nil ?_
  refine g_seq ?_
  refine g_seq ?_
  refine g_reg ?_
  refine l_y (y_move rfl) rfl ?_
  refine l_y (y_move rfl) rfl ?_
  refine l_g (gd_t rfl rfl) (fun hc => y_move rfl) rfl ?_
  refine l_g (gd_t rfl rfl) (fun hc => y_neq (og rfl hc) rfl) rfl ?_
  refine l_y (y_pand rfl rfl (fun h => h)) rfl ?_
  refine l_nil ?_
  refine g_cond rfl (fun hc2 => ?_) (fun hc2 => ?_)
  · skip
    try simp only [Bool.and_eq_true, Bool.or_eq_true, Bool.not_eq_true', decide_eq_true_eq, ne_eq, Decidable.not_not] at hc2
    refine g_seq ?_
    refine g_reg ?_
    refine l_y (y_move rfl) rfl ?_
    refine l_y (y_assign rfl) rfl ?_
    refine l_nil ?_
    refine g_ret Tryz.results32 rfl ?_
    exact ⟨by simp [numE, hc2], Gr.rf _⟩
  · skip
    try simp only [Bool.and_eq_false_iff, Bool.or_eq_false_iff, decide_eq_false_iff_not, Bool.not_eq_false', ne_eq, Decidable.not_not] at hc2
    refine g_skip ?_
    refine g_seq ?_
    refine g_reg ?_
    refine l_y (y_assign rfl) rfl ?_
    refine l_nil ?_
    refine g_ret Tryz.results32 rfl ?_
    exact ⟨by have h0 : n = 0 := by simpa using hc2
              simp [numE, h0], Gr.rf _⟩

theorem num_any (e0 : Option Int) (w : World) : Calls Tryz.prog 32 #[ev e0] w fun e w' => e = .returned (.int .i64 (numE e0)) ∧ Gr w w' := by
  cases e0 with
  | none => exact num_nil w
  | some n => exact num_errno n w

theorem is_any (e0 : Option Int) (n : Int) (w : World)  : Calls Tryz.prog 10 #[ev e0, .int .i64 n] w fun e w' => e = .returned (.bool (decide (numE e0 = n))) ∧ Gr w w' := by
  refine enter (vs := [ev e0, .int .i64 n]) Tryz.func10 rfl Tryz.ntmps10 rfl ?_
  refine g_seq ?_
  refine g_reg ?_
  refine l_y (y_assign rfl) rfl ?_
  refine l_nil ?_
  refine g_seq ?_
  refine g_reg ?_
  refine l_y (y_move rfl) rfl ?_
  refine l_call0 rfl rfl en32 (num_any e0 _) (fun _ _ h => ⟨_, h.1⟩) rfl (fun w1 v1 h1 => ?_)
  obtain ⟨h1, hk1⟩ := h1
  cases h1
  have hgr := hk1
  refine l_y (y_move rfl) rfl ?_
  refine l_y (y_eql rfl rfl) rfl ?_
  refine l_y (y_assign rfl) rfl ?_
  refine l_nil ?_
  refine g_ret Tryz.results10 rfl ?_
  exact ⟨rfl, hgr⟩

theorem same_any (v u : Value) (s s' : List UInt8) (w : World) (hv : Rc w 1 v s.length (s.map bc)) (hu : Rc w 1 u s'.length (s'.map bc)) : Calls Tryz.prog 11 #[v, u] w fun e w' => e = .returned (.bool (decide (s = s'))) ∧ Gr w w' := by
  refine enter (vs := [v, u]) Tryz.func11 rfl Tryz.ntmps11 rfl ?_
  refine g_seq ?_
  refine g_reg ?_
  refine l_y (y_assign rfl) rfl ?_
  refine l_nil ?_
  refine g_seq ?_
  refine g_reg ?_
  refine l_y (y_move rfl) rfl ?_
  refine l_y (y_b2s rfl hv (plain_gr _) Tryz.underlying29 Tryz.underlying5 Tryz.underlying9) rfl ?_
  refine l_y (y_move rfl) rfl ?_
  refine l_y (y_b2s rfl hu (plain_gr _) Tryz.underlying29 Tryz.underlying5 Tryz.underlying9) rfl ?_
  refine l_y (y_seq' rfl rfl) rfl ?_
  refine l_y (y_assign rfl) rfl ?_
  refine l_nil ?_
  refine g_ret Tryz.results11 rfl ?_
  exact ⟨rfl, Gr.rf _⟩

end Go.Proofs.YtehfgmagmnjffaaGreatDoor.Num
