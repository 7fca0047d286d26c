/-
  Walks of functions: what each call comes to.
-/
import Derived.Test.YtehfgmagmnjffaaGreatDoorEntry
import Derived.Test.YtehfgmagmnjffaaGreatDoorNum
import Derived.Test.YtehfgmagmnjffaaGreatDoorEnv
namespace Go.Proofs.YtehfgmagmnjffaaGreatDoor.Check
open Go Go.RowKit Go.Proofs.YtehfgmagmnjffaaGreatDoor.E Go.Proofs.YtehfgmagmnjffaaGreatDoor.Pl Go.Proofs.YtehfgmagmnjffaaGreatDoor.Name Go.Proofs.YtehfgmagmnjffaaGreatDoor.Entry Go.Proofs.YtehfgmagmnjffaaGreatDoor.Num
theorem hmix : Tryz.prog.follows .mixedOrders = true := by kernel_rfl
theorem en120 : Enters Tryz.prog 120 := enters_of Tryz.func120 (by kernel_rfl) rfl
theorem en121 : Enters Tryz.prog 121 := enters_of Tryz.func121 (by kernel_rfl) rfl
theorem en122 : Enters Tryz.prog 122 := enters_of Tryz.func122 (by kernel_rfl) rfl
theorem en123 : Enters Tryz.prog 123 := enters_of Tryz.func123 (by kernel_rfl) rfl
theorem szT136 : (Tryz.prog.info? 136).map (·.size) = some 70 := by kernel_rfl

theorem own4_is (e : En) (hk : e.kind = 4) {b : Bool} (hb : e.own4 = b) (w : World) : Calls Tryz.prog 120 #[e.val] w fun e' w' => e' = .returned (.bool b) ∧ Gr w w' :=
  (own4_any e w hk).mono fun _ _ h => ⟨by rw [h.1, hb], h.2⟩
theorem signed_is (v : Value) (l : List Sg) {b : Bool} (hb : sigsOk l = b) (w : World) (hv : Rc w 97 v l.length (l.flatMap Sg.cells)) (hs : l.length ≤ 1000000) : Calls Tryz.prog 121 #[v] w fun e' w' => e' = .returned (.bool b) ∧ Gr w w' :=
  (signed_any v l w hv hs).mono fun _ _ h => ⟨by rw [h.1, hb], h.2⟩
theorem equal_is (a b : En) (p q : Bs) (l m : List Sg) {r : Bool} (hr : a.same b p q l m = r) (w : World) (hp : Rc w 1 a.pay p.length (p.map bc)) (hq : Rc w 1 b.pay q.length (q.map bc)) (hl : Rc w 97 a.sigs l.length (l.flatMap Sg.cells)) (hm : Rc w 97 b.sigs m.length (m.flatMap Sg.cells)) (hpl : p.length ≤ 1000000) (hll : l.length ≤ 1000000) :
    Calls Tryz.prog 122 #[a.val, b.val] w fun e' w' => e' = .returned (.bool r) ∧ Gr w w' :=
  (equal_any a b p q l m w hp hq hl hm hpl hll).mono fun _ _ h => ⟨by rw [h.1, hr], h.2⟩

theorem check4_own (e : En) (w : World) (hk : e.kind = 4) (ho : e.own4 = false) : Calls Tryz.prog 85 #[e.val] w fun e' w' => e' = .returned (ev (some 11)) ∧ Gr w w' := by
  refine enter (vs := [e.val]) Tryz.func85 rfl Tryz.ntmps85 rfl ?_
  refine g_seq ?_
  refine g_reg ?_
  refine l_box rfl rfl (fun w1 g1 hk1 hg1 hB1 => ?_)
  have hl1 : w.heap.size ≤ g1 := hg1
  have hgr := hk1
  have hB1 : Blk w1 g1 136 e.cells.toArray := hB1
  refine l_y (y_assign rfl) rfl ?_
  refine l_nil ?_
  refine g_seq ?_
  refine g_seq ?_
  refine g_draw Gr hmix (fun w2 hk2 he2 => ?_)
  have hB1 := hB1.gr hk2
  have hgr := hgr.tr hk2
  have hq := Gr.rf w2
  have hZ1 := hB1
  refine h_take 0 rfl (by kernel_rfl) (y_ldbs (o := 0) (vs := e.cells) rfl hZ1 (fun _ h => h) Tryz.underlying136 rfl (by rw [szT136, e.len]) (fun j v hj => by simpa using hj)) rfl hq ?_
  refine h_call0 1 rfl (by kernel_rfl) rfl rfl en120 (own4_is e hk ho _) (fun _ _ h => ⟨_, h.1⟩) rfl hq (fun w3 v3 h3 => ?_)
  obtain ⟨h3, hk3⟩ := h3
  cases h3
  have hq := hq.tr hk3
  have hB1 := hB1.gr hk3
  have hgr := hgr.tr hk3
  refine h_take 2 rfl (by kernel_rfl) (y_not rfl) rfl hq ?_
  refine h_take 3 rfl (by kernel_rfl) (y_move rfl) rfl hq ?_
  refine h_takeF 4 rfl (by kernel_rfl) (gd_f0 rfl rfl) rfl hq ?_
  refine h_takeF 5 rfl (by kernel_rfl) (gd_f0 rfl rfl) rfl hq ?_
  refine h_gf 6 rfl (by kernel_rfl) (gd_f0 rfl rfl) rfl hq ?_
  refine h_takeF 7 rfl (by kernel_rfl) (gd_f0 rfl rfl) rfl hq ?_
  refine h_take 8 rfl (by kernel_rfl) (y_pick rfl rfl rfl) rfl hq ?_
  refine h_take 9 rfl (by kernel_rfl) (y_move rfl) rfl hq ?_
  refine h_takeF 10 rfl (by kernel_rfl) (gd_f0 rfl rfl) rfl hq ?_
  refine h_takeF 12 rfl (by kernel_rfl) (gd_f0 rfl rfl) rfl hq ?_
  refine h_takeF 13 rfl (by kernel_rfl) (gd_f0 rfl rfl) rfl hq ?_
  refine h_takeF 14 rfl (by kernel_rfl) (gd_f0 rfl rfl) rfl hq ?_
  refine h_takeF 15 rfl (by kernel_rfl) (gd_f0 rfl rfl) rfl hq ?_
  refine h_takeF 16 rfl (by kernel_rfl) (gd_f0 rfl rfl) rfl hq ?_
  refine h_gf 11 rfl (by kernel_rfl) (gd_f0 rfl rfl) rfl hq ?_
  refine h_gf 17 rfl (by kernel_rfl) (gd_f0 rfl rfl) rfl hq ?_
  refine h_takeF 18 rfl (by kernel_rfl) (gd_f0 rfl rfl) rfl hq ?_
  refine h_take 19 rfl (by kernel_rfl) (y_pick rfl rfl rfl) rfl hq ?_
  refine h_done (by kernel_rfl) hq ?_
  refine g_true rfl ?_
  refine g_seq ?_
  refine g_reg ?_
  refine l_y (y_mki rfl Tryz.underlying36 rfl) rfl ?_
  refine l_y (y_assign rfl) rfl ?_
  refine l_nil ?_
  refine g_ret Tryz.results85 rfl ?_
  exact ⟨rfl, hgr⟩

theorem check4_ok (e : En) (p : Bs) (l : List Sg) (w : World) (hk : e.kind = 4) (ho : e.own4 = true) (hsg : sigsOk l = true) (hsame : e.bare4.same (En.only4 e.sigs) p [] l l = true) (hp : Rc w 1 e.pay p.length (p.map bc)) (hl : Rc w 97 e.sigs l.length (l.flatMap Sg.cells)) (hpl : p.length ≤ 1000000) (hll : l.length ≤ 1000000) (hp1 : e.pay.oneCell' = true) (hs1 : e.sigs.oneCell' = true) : Calls Tryz.prog 85 #[e.val] w fun e' w' => e' = .returned (ev none) ∧ Gr w w' := by
  obtain ⟨A0, c0, hsv⟩ := hl.form
  refine enter (vs := [e.val]) Tryz.func85 rfl Tryz.ntmps85 rfl ?_
  refine g_seq ?_
  refine g_reg ?_
  refine l_box rfl rfl (fun w1 g1 hk1 hg1 hB1 => ?_)
  have hl1 : w.heap.size ≤ g1 := hg1
  have hgr := hk1
  have hB1 : Blk w1 g1 136 e.cells.toArray := hB1
  refine l_y (y_assign rfl) rfl ?_
  refine l_nil ?_
  refine g_seq ?_
  refine g_seq ?_
  refine g_draw Gr hmix (fun w2 hk2 he2 => ?_)
  have hB1 := hB1.gr hk2
  have hgr := hgr.tr hk2
  have hq := Gr.rf w2
  have hZ1 := hB1
  refine h_take 0 rfl (by kernel_rfl) (y_ldbs (o := 0) (vs := e.cells) rfl hZ1 (fun _ h => h) Tryz.underlying136 rfl (by rw [szT136, e.len]) (fun j v hj => by simpa using hj)) rfl hq ?_
  refine h_call0 1 rfl (by kernel_rfl) rfl rfl en120 (own4_is e hk ho _) (fun _ _ h => ⟨_, h.1⟩) rfl hq (fun w3 v3 h3 => ?_)
  obtain ⟨h3, hk3⟩ := h3
  cases h3
  have hq := hq.tr hk3
  have hB1 := hB1.gr hk3
  have hgr := hgr.tr hk3
  refine h_take 2 rfl (by kernel_rfl) (y_not rfl) rfl hq ?_
  refine h_take 3 rfl (by kernel_rfl) (y_move rfl) rfl hq ?_
  refine h_takeT 4 rfl (by kernel_rfl) (gd_f1 rfl rfl) (y_fa (v := .pointer (some ⟨g1, 69, none⟩)) rfl (fun _ => by kernel_rfl)) rfl hq ?_
  refine h_takeT 5 rfl (by kernel_rfl) (gd_f1 rfl rfl) (y_ldb rfl hZ1 (fun _ h => h) Tryz.underlying134 rfl e.at69) rfl hq ?_
  refine h_gcall0 6 rfl (by kernel_rfl) (gd_f1 rfl rfl) rfl rfl en121 (signed_is _ l hsg _ (hl.gr hgr) hll) (fun _ _ h => ⟨_, h.1⟩) rfl hq (fun w4 v4 h4 => ?_)
  obtain ⟨h4, hk4⟩ := h4
  cases h4
  have hq := hq.tr hk4
  have hB1 := hB1.gr hk4
  have hgr := hgr.tr hk4
  refine h_takeT 7 rfl (by kernel_rfl) (gd_f1 rfl rfl) (y_not rfl) rfl hq ?_
  refine h_take 8 rfl (by kernel_rfl) (y_pick rfl rfl rfl) rfl hq ?_
  refine h_take 9 rfl (by kernel_rfl) (y_move rfl) rfl hq ?_
  refine h_takeT 10 rfl (by kernel_rfl) (gd_f1 rfl rfl) (y_ldbs (o := 0) (vs := e.cells) rfl hZ1 (fun _ h => h) Tryz.underlying136 rfl (by rw [szT136, e.len]) (fun j v hj => by simpa using hj)) rfl hq ?_
  refine h_takeT 12 rfl (by kernel_rfl) (gd_f1 rfl rfl) (y_fa (v := .pointer (some ⟨g1, 0, none⟩)) rfl (fun _ => by kernel_rfl)) rfl hq ?_
  refine h_takeT 13 rfl (by kernel_rfl) (gd_f1 rfl rfl) (y_ldb rfl hZ1 (fun _ h => h) Tryz.underlying3 rfl e.at0) rfl hq ?_
  refine h_takeT 14 rfl (by kernel_rfl) (gd_f1 rfl rfl) (y_fa (v := .pointer (some ⟨g1, 69, none⟩)) rfl (fun _ => by kernel_rfl)) rfl hq ?_
  refine h_takeT 15 rfl (by kernel_rfl) (gd_f1 rfl rfl) (y_ldb rfl hZ1 (fun _ h => h) Tryz.underlying134 rfl e.at69) rfl hq ?_
  refine h_takeT 16 rfl (by kernel_rfl) (gd_f1 rfl rfl) (y_build (v := (En.only4 e.sigs).val) rfl (fun _ => by rw [hk, hsv]; kernel_rfl)) rfl hq ?_
  refine h_gcall0 11 rfl (by kernel_rfl) (gd_f1 rfl rfl) rfl rfl en123 (blank4_any e _ hk hp1 hs1) (fun _ _ h => ⟨_, h.1⟩) rfl hq (fun w5 v5 h5 => ?_)
  obtain ⟨h5, hk5⟩ := h5
  cases h5
  have hq := hq.tr hk5
  have hB1 := hB1.gr hk5
  have hgr := hgr.tr hk5
  refine h_gcall0 17 rfl (by kernel_rfl) (gd_f1 rfl rfl) rfl rfl en122 (equal_is e.bare4 (En.only4 e.sigs) p [] l l hsame _ (by rw [(bare4_pay e).1]; exact hp.gr hgr) (Rc.nil _ _ _ _) (by rw [(bare4_pay e).2]; exact hl.gr hgr) (hl.gr hgr) hpl hll) (fun _ _ h => ⟨_, h.1⟩) rfl hq (fun w6 v6 h6 => ?_)
  obtain ⟨h6, hk6⟩ := h6
  cases h6
  have hq := hq.tr hk6
  have hB1 := hB1.gr hk6
  have hgr := hgr.tr hk6
  refine h_takeT 18 rfl (by kernel_rfl) (gd_f1 rfl rfl) (y_not rfl) rfl hq ?_
  refine h_take 19 rfl (by kernel_rfl) (y_pick rfl rfl rfl) rfl hq ?_
  refine h_done (by kernel_rfl) hq ?_
  refine g_false rfl ?_
  refine g_skip ?_
  refine g_seq ?_
  refine g_reg ?_
  refine l_y (y_assign rfl) rfl ?_
  refine l_nil ?_
  refine g_ret Tryz.results85 rfl ?_
  exact ⟨rfl, hgr⟩

end Go.Proofs.YtehfgmagmnjffaaGreatDoor.Check
