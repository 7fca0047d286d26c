/-
  Walks of functions: what each call comes to.
-/
import Derived.Test.YtehfgmagmnjffaaGreatDoorDraw
import Derived.Test.YtehfgmagmnjffaaGreatDoorPlain
import Derived.Test.YtehfgmagmnjffaaGreatDoorProg
namespace Go.Proofs.YtehfgmagmnjffaaGreatDoor.Ref15
open Go Go.RowKit Go.Proofs.YtehfgmagmnjffaaGreatDoor.E Go.Proofs.YtehfgmagmnjffaaGreatDoor.Pl
theorem hmix : Tryz.prog.follows .mixedOrders = true := by kernel_rfl
theorem en33 : Enters Tryz.prog 33 := enters_of Tryz.func33 (by kernel_rfl) rfl

theorem named_any (s : Bs) (w : World)  : Calls Tryz.prog 31 #[.string (S s)] w fun e w' => e = .returned (.bool (named s)) ∧ Gr w w' := by
  refine enter (vs := [.string (S s)]) Tryz.func31 rfl Tryz.ntmps31 rfl ?_
  refine g_seq ?_
  refine g_reg ?_
  refine l_y (y_assign rfl) rfl ?_
  refine l_nil ?_
  refine g_seq ?_
  refine g_seq ?_
  refine g_reg ?_
  refine l_y (y_move rfl) rfl ?_
  refine l_y (y_slen rfl Tryz.underlying9) rfl ?_
  refine l_y (y_lss rfl rfl) rfl ?_
  refine l_y (y_move rfl) rfl ?_
  refine l_g (gd_f rfl rfl) (fun hc => y_move rfl) rfl ?_
  refine l_g (gd_f rfl rfl) (fun hc => y_slen (og rfl hc) Tryz.underlying9) rfl ?_
  refine l_g (gd_f rfl rfl) (fun hc => y_gtr (og rfl hc) rfl) rfl ?_
  refine l_y (y_por rfl rfl (fun h => nt h)) rfl ?_
  refine l_nil ?_
  refine g_cond rfl (fun hc1 => ?_) (fun hc1 => ?_)
  · have hc1 : named s = false := by simp only [Bool.or_eq_true, decide_eq_true_eq] at hc1; unfold named; rw [decide_eq_false (by omega)]; rfl
    refine g_seq ?_
    refine g_reg ?_
    refine l_y (y_assign rfl) rfl ?_
    refine l_nil ?_
    refine g_ret Tryz.results31 rfl ?_
    exact ⟨by rw [hc1], Gr.rf _⟩
  · simp only [Bool.or_eq_false_iff, decide_eq_false_iff_not] at hc1
    refine g_skip ?_
    refine g_seq ?_
    refine g_seq ?_
    refine g_reg ?_
    refine l_y (y_assign rfl) rfl ?_
    refine l_nil ?_
    refine g_block ?_
    refine g_loop (σ := Nat) (fun k => s.length - k) (fun k => [(0, .string (S s)), (3, .int .i64 k)]) (fun k w' => k ≤ s.length ∧ (s.take k).all nameC = true ∧ Gr w w') 0 ⟨Nat.zero_le _, by simp, Gr.rf _⟩ ⟨rfl, rfl, trivial⟩ ?_
    rintro k w' ⟨hk, hall, hgr⟩
    refine g_seq ?_
    refine g_seq ?_
    refine g_reg ?_
    refine l_y (y_move rfl) rfl ?_
    refine l_y (y_move rfl) rfl ?_
    refine l_y (y_slen rfl Tryz.underlying9) rfl ?_
    refine l_y (y_lss rfl rfl) rfl ?_
    refine l_nil ?_
    refine g_cond rfl (fun hc2 => ?_) (fun hc2 => ?_)
    · skip
      replace hc2 := of_decide_eq_true hc2
      refine g_skip ?_
      refine g_seq ?_
      refine g_block ?_
      refine g_seq ?_
      obtain ⟨b, hb⟩ := get_some s (k := k) (by omega)
      refine g_reg ?_
      refine l_y (y_move rfl) rfl ?_
      refine l_y (y_move rfl) rfl ?_
      refine l_y (y_sidx rfl rfl Tryz.underlying9 (by omega) (by simpa using hb)) rfl ?_
      refine l_y (y_assign rfl) rfl ?_
      refine l_nil ?_
      refine g_seq ?_
      refine g_reg ?_
      refine l_y (y_move rfl) rfl ?_
      refine l_y (y_geq rfl rfl) rfl ?_
      refine l_y (y_move rfl) rfl ?_
      refine l_g (gd_t rfl rfl) (fun hc => y_move rfl) rfl ?_
      refine l_g (gd_t rfl rfl) (fun hc => y_leq (og rfl hc) rfl) rfl ?_
      refine l_y (y_pand rfl rfl (fun h => h)) rfl ?_
      refine l_y (y_move rfl) rfl ?_
      refine l_g (gd_f rfl rfl) (fun hc => y_move rfl) rfl ?_
      refine l_g (gd_f rfl rfl) (fun hc => y_geq (og rfl hc) rfl) rfl ?_
      refine l_g (gd_f rfl rfl) (fun hc => y_move (og rfl hc)) rfl ?_
      refine l_g (gd_tg rfl rfl) (fun hc => y_move rfl) rfl ?_
      refine l_g (gd_tg rfl rfl) (fun hc => y_leq (og rfl hc) rfl) rfl ?_
      refine l_g (gd_f rfl rfl) (fun hc => y_pand (og rfl hc) rfl (fun h => i2 hc h)) rfl ?_
      refine l_y (y_por rfl rfl (fun h => nt h)) rfl ?_
      refine l_y (y_move rfl) rfl ?_
      refine l_g (gd_f rfl rfl) (fun hc => y_move rfl) rfl ?_
      refine l_g (gd_f rfl rfl) (fun hc => y_eql (og rfl hc) rfl) rfl ?_
      refine l_y (y_por rfl rfl (fun h => nt h)) rfl ?_
      refine l_y (y_move rfl) rfl ?_
      refine l_g (gd_f rfl rfl) (fun hc => y_move rfl) rfl ?_
      refine l_g (gd_f rfl rfl) (fun hc => y_eql (og rfl hc) rfl) rfl ?_
      refine l_y (y_por rfl rfl (fun h => nt h)) rfl ?_
      refine l_y (y_move rfl) rfl ?_
      refine l_g (gd_f rfl rfl) (fun hc => y_move rfl) rfl ?_
      refine l_g (gd_f rfl rfl) (fun hc => y_eql (og rfl hc) rfl) rfl ?_
      refine l_y (y_por rfl rfl (fun h => nt h)) rfl ?_
      refine l_y (y_move rfl) rfl ?_
      refine l_g (gd_f rfl rfl) (fun hc => y_move rfl) rfl ?_
      refine l_g (gd_f rfl rfl) (fun hc => y_eql (og rfl hc) rfl) rfl ?_
      refine l_y (y_por rfl rfl (fun h => nt h)) rfl ?_
      refine l_y (y_not rfl) rfl ?_
      refine l_nil ?_
      refine g_cond rfl (fun hc3 => ?_) (fun hc3 => ?_)
      · simp only [nameI, Bool.not_eq_true'] at hc3
        refine g_seq ?_
        refine g_reg ?_
        refine l_y (y_assign rfl) rfl ?_
        refine l_nil ?_
        refine g_ret Tryz.results31 rfl ?_
        exact ⟨by unfold named; rw [all_false s nameC hb hc3, Bool.and_false], hgr⟩
      · simp only [nameI, Bool.not_eq_false'] at hc3
        refine g_skip ?_
        refine g_blk ?_
        refine g_reg ?_
        refine l_y (y_move rfl) rfl ?_
        refine l_y (y_addN rfl rfl (by omega)) rfl ?_
        refine l_y (y_assign rfl) rfl ?_
        refine l_nil ?_
        exact g_lp fun a ha => ⟨k + 1, by omega, ha.sub ⟨rfl, rfl, trivial⟩, by omega, by rw [all_take s nameC hb, hall, hc3]; rfl, hgr⟩
    · skip
      replace hc2 := of_decide_eq_false hc2
      refine g_exit rfl ?_
      refine g_seq ?_
      refine g_reg ?_
      refine l_y (y_assign rfl) rfl ?_
      refine l_nil ?_
      refine g_ret Tryz.results31 rfl ?_
      exact ⟨by rw [List.take_of_length_le (by omega)] at hall; unfold named; rw [hall, decide_eq_true (by omega)]; rfl, hgr⟩

theorem number_lo (n : Nat) (h : n < 10) (w : World)  : Calls Tryz.prog 33 #[.int .i64 n] w fun e w' => e = .returned (.string (S (number n))) ∧ Gr w w' := by
  refine enter (vs := [.int .i64 n]) Tryz.func33 rfl Tryz.ntmps33 rfl ?_
  refine g_seq ?_
  refine g_reg ?_
  refine l_y (y_assign rfl) rfl ?_
  refine l_nil ?_
  refine g_seq ?_
  refine g_seq ?_
  refine g_reg ?_
  refine l_y (y_move rfl) rfl ?_
  refine l_y (y_lss rfl rfl) rfl ?_
  refine l_nil ?_
  refine g_cond rfl (fun hc1 => ?_) (fun hc1 => ?_)
  · skip
    replace hc1 := of_decide_eq_true hc1
    refine g_seq ?_
    refine g_reg ?_
    refine l_y (y_move rfl) rfl ?_
    refine l_y (y_move rfl) rfl ?_
    refine l_y (y_addN rfl rfl (by omega)) rfl ?_
    refine l_y (y_ssl_lh rfl rfl rfl Tryz.underlying9 (by omega) (by omega) (by simp; omega)) rfl ?_
    refine l_y (y_assign rfl) rfl ?_
    refine l_nil ?_
    refine g_ret Tryz.results33 rfl ?_
    exact ⟨by rw [number_small h, fig_slice n h], Gr.rf _⟩
  · exact absurd hc1 (by simp; omega)

theorem number_hi (n : Nat) (hb : n ≤ 9223372036854775807) (h : ¬ n < 10) (ih : ∀ m, m < n → ∀ w, Calls Tryz.prog 33 #[.int .i64 (m : Nat)] w fun e w' => e = .returned (.string (S (number m))) ∧ Gr w w') (w : World)  : Calls Tryz.prog 33 #[.int .i64 n] w fun e w' => e = .returned (.string (S (number n))) ∧ Gr w w' := by
  refine enter (vs := [.int .i64 n]) Tryz.func33 rfl Tryz.ntmps33 rfl ?_
  refine g_seq ?_
  refine g_reg ?_
  refine l_y (y_assign rfl) rfl ?_
  refine l_nil ?_
  refine g_seq ?_
  refine g_seq ?_
  refine g_reg ?_
  refine l_y (y_move rfl) rfl ?_
  refine l_y (y_lss rfl rfl) rfl ?_
  refine l_nil ?_
  refine g_cond rfl (fun hc1 => ?_) (fun hc1 => ?_)
  · exact absurd hc1 (by simp; omega)
  · skip
    replace hc1 := of_decide_eq_false hc1
    refine g_skip ?_
    refine g_seq ?_
    refine g_reg ?_
    refine l_y (y_move rfl) rfl ?_
    refine l_y (y_quoN rfl rfl (by omega) (by omega) (by simp only [IntKind.wrap_i64]; omega)) rfl ?_
    refine l_call0 rfl rfl en33 (ih (n / 10) (by omega) _) (fun _ _ h => ⟨_, h.1⟩) rfl (fun w1 v1 h1 => ?_)
    obtain ⟨h1, hk1⟩ := h1
    cases h1
    have hgr := hk1
    refine l_y (y_move rfl) rfl ?_
    refine l_y (y_remN rfl rfl (by omega) (by omega)) rfl ?_
    refine l_call0 rfl rfl en33 (ih (n % 10) (by omega) _) (fun _ _ h => ⟨_, h.1⟩) rfl (fun w2 v2 h2 => ?_)
    obtain ⟨h2, hk2⟩ := h2
    cases h2
    have hgr := hgr.tr hk2
    refine l_y (y_cat' rfl rfl (by have := number_length (n / 10); have := number_length (n % 10); omega)) rfl ?_
    refine l_y (y_assign rfl) rfl ?_
    refine l_nil ?_
    refine g_ret Tryz.results33 rfl ?_
    exact ⟨by rw [number_big h, number_small (n := n % 10) (by omega)], hgr⟩

theorem number_any (n : Nat) (hb : n ≤ 9223372036854775807) (w : World) : Calls Tryz.prog 33 #[.int .i64 n] w fun e w' => e = .returned (.string (S (number n))) ∧ Gr w w' := by
  induction n using Nat.strongRecOn generalizing w with
  | _ n ih =>
    by_cases h : n < 10
    · exact number_lo n h w
    · exact number_hi n hb h (fun m hm w => ih m hm (by omega) w) w

end Go.Proofs.YtehfgmagmnjffaaGreatDoor.Ref15
