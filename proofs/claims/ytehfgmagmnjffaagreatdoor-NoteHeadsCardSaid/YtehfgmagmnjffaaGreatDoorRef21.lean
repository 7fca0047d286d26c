/-
  Walks of functions: what each call comes to.
-/
import Derived.Test.YtehfgmagmnjffaaGreatDoorEnv
import Derived.Test.YtehfgmagmnjffaaGreatDoorRef15
import Derived.Test.YtehfgmagmnjffaaGreatDoorRef14
namespace Go.Proofs.YtehfgmagmnjffaaGreatDoor.Ref21
open Go Go.RowKit Go.Proofs.YtehfgmagmnjffaaGreatDoor.E Go.Proofs.YtehfgmagmnjffaaGreatDoor.Pl Go.Proofs.YtehfgmagmnjffaaGreatDoor.Ref15 Go.Proofs.YtehfgmagmnjffaaGreatDoor.Ref14
theorem hmix : Tryz.prog.follows .mixedOrders = true := by kernel_rfl
theorem en12 : Enters Tryz.prog 12 := enters_of Tryz.func12 (by kernel_rfl) rfl
theorem en31 : Enters Tryz.prog 31 := enters_of Tryz.func31 (by kernel_rfl) rfl
theorem en33 : Enters Tryz.prog 33 := enters_of Tryz.func33 (by kernel_rfl) rfl
theorem en34 : Enters Tryz.prog 34 := enters_of Tryz.func34 (by kernel_rfl) rfl
theorem en35 : Enters Tryz.prog 35 := enters_of Tryz.func35 (by kernel_rfl) rfl
theorem szT5 : (Tryz.prog.info? 5).map (·.size) = some 1 := by kernel_rfl
theorem szT27 : (Tryz.prog.info? 27).map (·.size) = some 99 := by kernel_rfl
theorem inf5 : ∃ ti, Tryz.prog.info? 5 = some ti ∧ ti.zero = some (Value.int .u8 0) ∧ ti.size = 1 ∧ ti.bytes = 1 := by
  have h : (Tryz.prog.info? 5).map (fun i => (i.zero, i.size, i.bytes)) = some (some (Value.int .u8 0), 1, 1) := by kernel_rfl
  exact info_parts h

theorem goodr_any (h : Hd) (w : World)  : Calls Tryz.prog 9 #[h.val] w fun e w' => e = .returned (.bool h.good) ∧ Gr w w' := by
  refine enter (vs := [h.val]) Tryz.func9 rfl Tryz.ntmps9 rfl ?_
  refine g_seq ?_
  refine g_reg ?_
  refine l_box rfl rfl (fun w1 g1 hk1 hg1 hB1 => ?_)
  have hl1 : w.heap.size ≤ g1 := hg1
  have hgr := hk1
  refine l_y (y_assign rfl) rfl ?_
  refine l_nil ?_
  refine g_seq ?_
  refine g_reg ?_
  refine l_y (y_fa (v := .pointer (some ⟨g1, 0, none⟩)) rfl (fun _ => by kernel_rfl)) rfl ?_
  refine l_y (y_ldb rfl hB1 (plain_gr _) Tryz.underlying9 rfl h.at0) rfl ?_
  refine l_call0 rfl rfl en31 (named_any h.o _) (fun _ _ h => ⟨_, h.1⟩) rfl (fun w2 v2 h2 => ?_)
  obtain ⟨h2, hk2⟩ := h2
  cases h2
  have hB1 := hB1.gr hk2
  have hgr := hgr.tr hk2
  refine l_y (y_move rfl) rfl ?_
  refine l_g (gd_t rfl rfl) (fun hc => y_fa (v := .pointer (some ⟨g1, 1, none⟩)) rfl (fun _ => by kernel_rfl)) rfl ?_
  refine l_g (gd_t rfl rfl) (fun hc => y_ldb (og rfl hc) hB1 (plain_gr _) Tryz.underlying3 rfl h.at1) rfl ?_
  refine l_g (gd_t rfl rfl) (fun hc => y_geq (og rfl hc) rfl) rfl ?_
  refine l_y (y_pand rfl rfl (fun h => h)) rfl ?_
  refine l_y (y_move rfl) rfl ?_
  refine l_g (gd_t rfl rfl) (fun hc => y_fa (v := .pointer (some ⟨g1, 1, none⟩)) rfl (fun _ => by kernel_rfl)) rfl ?_
  refine l_g (gd_t rfl rfl) (fun hc => y_ldb (og rfl hc) hB1 (plain_gr _) Tryz.underlying3 rfl h.at1) rfl ?_
  refine l_g (gd_t rfl rfl) (fun hc => y_leq (og rfl hc) rfl) rfl ?_
  refine l_y (y_pand rfl rfl (fun h => h)) rfl ?_
  refine l_y (y_move rfl) rfl ?_
  refine l_g (gd_t rfl rfl) (fun hc => y_fa (v := .pointer (some ⟨g1, 2, none⟩)) rfl (fun _ => by kernel_rfl)) rfl ?_
  refine l_g (gd_t rfl rfl) (fun hc => y_ldb (og rfl hc) hB1 (plain_gr _) Tryz.underlying3 rfl h.at2) rfl ?_
  refine l_g (gd_t rfl rfl) (fun hc => y_geq (og rfl hc) rfl) rfl ?_
  refine l_y (y_pand rfl rfl (fun h => h)) rfl ?_
  refine l_y (y_move rfl) rfl ?_
  refine l_g (gd_t rfl rfl) (fun hc => y_fa (v := .pointer (some ⟨g1, 2, none⟩)) rfl (fun _ => by kernel_rfl)) rfl ?_
  refine l_g (gd_t rfl rfl) (fun hc => y_ldb (og rfl hc) hB1 (plain_gr _) Tryz.underlying3 rfl h.at2) rfl ?_
  refine l_g (gd_t rfl rfl) (fun hc => y_leq (og rfl hc) rfl) rfl ?_
  refine l_y (y_pand rfl rfl (fun h => h)) rfl ?_
  refine l_y (y_assign rfl) rfl ?_
  refine l_nil ?_
  refine g_ret Tryz.results9 rfl ?_
  exact ⟨rfl, hgr⟩

theorem bodyr_any (h : Hd) (w : World) (hg : h.Good) : Calls Tryz.prog 12 #[h.val] w fun e w' => ∃ v, e = .returned v ∧ Own w' w.heap.size 5 1 v h.body.length (h.body.map bc) ∧ Gr w w' := by
  refine enter (vs := [h.val]) Tryz.func12 rfl Tryz.ntmps12 rfl ?_
  refine g_seq ?_
  refine g_reg ?_
  refine l_box rfl rfl (fun w1 g1 hk1 hg1 hB1 => ?_)
  have hl1 : w.heap.size ≤ g1 := hg1
  have hgr := hk1
  refine l_y (y_assign rfl) rfl ?_
  refine l_nil ?_
  refine g_seq ?_
  have ho := hg.o
  have hls := hg.ls
  have hlt := hg.lt
  have hhx := hex_length h.root
  have hhr := h.hr
  refine g_draw Gr hmix (fun w2 hk2 he2 => ?_)
  have hB1 := hB1.gr hk2
  have hgr := hgr.tr hk2
  have hq := Gr.rf w2
  have hZ1 := hB1
  refine h_take 0 rfl (by kernel_rfl) (y_fa (v := .pointer (some ⟨g1, 0, none⟩)) rfl (fun _ => by kernel_rfl)) rfl hq ?_
  refine h_take 1 rfl (by kernel_rfl) (y_ldb rfl hZ1 (fun _ h => h) Tryz.underlying9 rfl h.at0) rfl hq ?_
  refine h_take 2 rfl (by kernel_rfl) (y_cat' rfl rfl (by simp only [List.length_append, List.length_cons, List.length_nil]; omega)) rfl hq ?_
  refine h_take 3 rfl (by kernel_rfl) (y_cat' rfl rfl (by simp only [List.length_append, List.length_cons, List.length_nil]; omega)) rfl hq ?_
  refine h_take 4 rfl (by kernel_rfl) (y_fa (v := .pointer (some ⟨g1, 1, none⟩)) rfl (fun _ => by kernel_rfl)) rfl hq ?_
  refine h_take 5 rfl (by kernel_rfl) (y_as (v' := .int .i64 (h.size.toNat : Nat)) (y_ldb rfl hZ1 (fun _ h => h) Tryz.underlying3 rfl h.at1) (by rw [Int.toNat_of_nonneg hg.s0])) rfl hq ?_
  refine h_take 9 rfl (by kernel_rfl) (y_fa (v := .pointer (some ⟨g1, 2, none⟩)) rfl (fun _ => by kernel_rfl)) rfl hq ?_
  refine h_take 10 rfl (by kernel_rfl) (y_as (v' := .int .i64 (h.time.toNat : Nat)) (y_ldb rfl hZ1 (fun _ h => h) Tryz.underlying3 rfl h.at2) (by rw [Int.toNat_of_nonneg hg.t0])) rfl hq ?_
  refine h_take 14 rfl (by kernel_rfl) (y_fa (v := .pointer (some ⟨g1, 3, none⟩)) rfl (fun _ => by kernel_rfl)) rfl hq ?_
  refine h_take 15 rfl (by kernel_rfl) (y_arr rfl Tryz.underlying23 (some_of szT5)) rfl hq ?_
  refine h_call0 6 rfl (by kernel_rfl) rfl rfl en33 (number_any _ (by have := hg.s1; omega) _) (fun _ _ h => ⟨_, h.1⟩) rfl hq (fun w3 v3 h3 => ?_)
  obtain ⟨h3, hk3⟩ := h3
  cases h3
  have hq := hq.tr hk3
  have hB1 := hB1.gr hk3
  have hgr := hgr.tr hk3
  refine h_take 7 rfl (by kernel_rfl) (y_cat' rfl rfl (by simp only [List.length_append, List.length_cons, List.length_nil]; omega)) rfl hq ?_
  refine h_take 8 rfl (by kernel_rfl) (y_cat' rfl rfl (by simp only [List.length_append, List.length_cons, List.length_nil]; omega)) rfl hq ?_
  refine h_call0 11 rfl (by kernel_rfl) rfl rfl en33 (number_any _ (by have := hg.t1; omega) _) (fun _ _ h => ⟨_, h.1⟩) rfl hq (fun w4 v4 h4 => ?_)
  obtain ⟨h4, hk4⟩ := h4
  cases h4
  have hq := hq.tr hk4
  have hB1 := hB1.gr hk4
  have hgr := hgr.tr hk4
  refine h_take 12 rfl (by kernel_rfl) (y_cat' rfl rfl (by simp only [List.length_append, List.length_cons, List.length_nil]; omega)) rfl hq ?_
  refine h_take 13 rfl (by kernel_rfl) (y_cat' rfl rfl (by simp only [List.length_append, List.length_cons, List.length_nil]; omega)) rfl hq ?_
  refine h_call0 16 rfl (by kernel_rfl) rfl rfl en34 (hexr_any _ h.root _ (Hd.rcRoot hB1) (by have := h.hr; omega)) (fun _ _ h => ⟨_, h.1⟩) rfl hq (fun w5 v5 h5 => ?_)
  obtain ⟨h5, hk5⟩ := h5
  cases h5
  have hq := hq.tr hk5
  have hB1 := hB1.gr hk5
  have hgr := hgr.tr hk5
  refine h_take 17 rfl (by kernel_rfl) (y_cat' rfl rfl (by simp only [List.length_append, List.length_cons, List.length_nil]; omega)) rfl hq ?_
  refine h_take 18 rfl (by kernel_rfl) (y_cat' rfl rfl (by simp only [List.length_append, List.length_cons, List.length_nil]; omega)) rfl hq ?_
  refine h_s2b 19 rfl (by kernel_rfl) rfl Tryz.underlying9 Tryz.underlying29 Tryz.underlying5 (by simp only [maxLen]; have := Hd.body_length hg; simp only [Hd.body] at this; omega) rfl hq (fun w6 v6 hk6 ho6 => ?_)
  have hown := ho6.lower hgr.le
  have hB1 := hB1.gr hk6
  have hgr := hgr.tr hk6
  have hq := hq.tr hk6
  refine h_take 20 rfl (by kernel_rfl) (y_assign rfl) rfl hq ?_
  refine h_done (by kernel_rfl) hq ?_
  refine g_ret Tryz.results12 rfl ?_
  exact ⟨_, rfl, hown, hgr⟩

theorem textr_any (h : Hd) (w : World) (hg : h.Good) : Calls Tryz.prog 13 #[h.val] w fun e w' => ∃ v, e = .returned v ∧ Own w' w.heap.size 5 1 v h.text.length (h.text.map bc) ∧ Gr w w' := by
  obtain ⟨ti5, i51, i52, i53, i54⟩ := inf5
  refine enter (vs := [h.val]) Tryz.func13 rfl Tryz.ntmps13 rfl ?_
  refine g_seq ?_
  refine g_reg ?_
  refine l_box rfl rfl (fun w1 g1 hk1 hg1 hB1 => ?_)
  have hl1 : w.heap.size ≤ g1 := hg1
  have hgr := hk1
  refine l_y (y_assign rfl) rfl ?_
  refine l_nil ?_
  refine g_seq ?_
  refine g_draw Gr hmix (fun w2 hk2 he2 => ?_)
  have hB1 := hB1.gr hk2
  have hgr := hgr.tr hk2
  have hq := Gr.rf w2
  have hZ1 := hB1
  have hgr2 := hgr
  refine h_take 0 rfl (by kernel_rfl) (y_ldbs (o := 0) (vs := h.cells) rfl hZ1 (fun _ h => h) Tryz.underlying27 rfl (by rw [szT27, h.len]) (fun j v hj => by show h.cells.toArray[0 + j]? = _; simpa using hj)) rfl hq ?_
  refine h_take 2 rfl (by kernel_rfl) (y_fa (v := .pointer (some ⟨g1, 35, none⟩)) rfl (fun _ => by kernel_rfl)) rfl hq ?_
  refine h_take 3 rfl (by kernel_rfl) (y_arr rfl Tryz.underlying25 (some_of szT5)) rfl hq ?_
  refine h_call0 1 rfl (by kernel_rfl) rfl rfl en12 (bodyr_any h _ hg) (fun _ _ h => by obtain ⟨v, h, _⟩ := h; exact ⟨v, h⟩) rfl hq (fun w3 v3 h3 => ?_)
  obtain ⟨vb, h3, hown, hk3⟩ := h3
  cases h3
  have hq := hq.tr hk3
  have hB1 := hB1.gr hk3
  have hgr := hgr.tr hk3
  refine h_call0 4 rfl (by kernel_rfl) rfl rfl en35 (base64r_any _ h.sig _ (Hd.rcSig hB1) (by have := h.hs; omega)) (fun _ _ h => ⟨_, h.1⟩) rfl hq (fun w4 v4 h4 => ?_)
  obtain ⟨h4, hk4⟩ := h4
  cases h4
  have hq := hq.tr hk4
  have hB1 := hB1.gr hk4
  have hown := hown.gr hk4
  have hgr := hgr.tr hk4
  refine h_take 5 rfl (by kernel_rfl) (y_cat' rfl rfl (by have := b64_length h.sig; have := h.hs; simp; omega)) rfl hq ?_
  refine h_app 6 rfl (by kernel_rfl) rfl rfl hown (Src.str _ (b64 h.sig ++ [10]) Tryz.underlying9) Tryz.underlying29 i51 i52 i53 i54 rfl (by simp only [maxLen]; have := Hd.body_length hg; have := b64_length h.sig; have := h.hs; simp; omega) (by have := Hd.body_length hg; have := b64_length h.sig; have := h.hs; simp; omega) (by decide) hq.le rfl hq (fun w5 v5 hg5 ho5 hb5 => ?_)
  have hB1 := hB1.grown hg5 (hown.ne_blk hB1 (by decide))
  have hgr0 := hgr
  have hgr : Gr w w5 := hgr.grown hg5 hgr.le (fun k hk => Nat.le_trans hgr2.le (hown.lt k hk).1)
  have hown2 := ho5
  have hq := hq.grown hg5 hq.le (fun k hk => (hown.lt k hk).1)
  refine h_take 7 rfl (by kernel_rfl) (y_assign rfl) rfl hq ?_
  refine h_done (by kernel_rfl) hq ?_
  refine g_ret Tryz.results13 rfl ?_
  exact ⟨_, rfl, by simpa [Hd.text] using hown2.lower hgr2.le, hgr⟩

end Go.Proofs.YtehfgmagmnjffaaGreatDoor.Ref21
