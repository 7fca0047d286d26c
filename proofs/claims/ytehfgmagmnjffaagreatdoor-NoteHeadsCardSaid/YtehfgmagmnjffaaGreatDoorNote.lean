/-
  Walks of functions: what each call comes to.
-/
import Derived.Test.YtehfgmagmnjffaaGreatDoorCheck
import Derived.Test.YtehfgmagmnjffaaGreatDoorRef21
namespace Go.Proofs.YtehfgmagmnjffaaGreatDoor.Note
open Go Go.RowKit Go.Proofs.YtehfgmagmnjffaaGreatDoor.E Go.Proofs.YtehfgmagmnjffaaGreatDoor.Pl Go.Proofs.YtehfgmagmnjffaaGreatDoor.Name Go.Proofs.YtehfgmagmnjffaaGreatDoor.Entry Go.Proofs.YtehfgmagmnjffaaGreatDoor.Num Go.Proofs.YtehfgmagmnjffaaGreatDoor.Check Go.Proofs.YtehfgmagmnjffaaGreatDoor.Coder Go.Proofs.YtehfgmagmnjffaaGreatDoor.Env
theorem hmix : Tryz.prog.follows .mixedOrders = true := by kernel_rfl
theorem en7 : Enters Tryz.prog 7 := enters_of Tryz.func7 (by kernel_rfl) rfl
theorem en26 : Enters Tryz.prog 26 := enters_of Tryz.func26 (by kernel_rfl) rfl
theorem en27 : Enters Tryz.prog 27 := enters_of Tryz.func27 (by kernel_rfl) rfl
theorem en28 : Enters Tryz.prog 28 := enters_of Tryz.func28 (by kernel_rfl) rfl
theorem en29 : Enters Tryz.prog 29 := enters_of Tryz.func29 (by kernel_rfl) rfl
theorem en30 : Enters Tryz.prog 30 := enters_of Tryz.func30 (by kernel_rfl) rfl
theorem en55 : Enters Tryz.prog 55 := enters_of Tryz.func55 (by kernel_rfl) rfl
theorem en56 : Enters Tryz.prog 56 := enters_of Tryz.func56 (by kernel_rfl) rfl
theorem en84 : Enters Tryz.prog 84 := enters_of Tryz.func84 (by kernel_rfl) rfl
theorem en85 : Enters Tryz.prog 85 := enters_of Tryz.func85 (by kernel_rfl) rfl
theorem szT5 : (Tryz.prog.info? 5).map (·.size) = some 1 := by kernel_rfl
theorem szT27 : (Tryz.prog.info? 27).map (·.size) = some 99 := by kernel_rfl
theorem szT133 : (Tryz.prog.info? 133).map (·.size) = some 97 := by kernel_rfl
theorem szT136 : (Tryz.prog.info? 136).map (·.size) = some 70 := by kernel_rfl
theorem zT136 : ∀ w, (zeroValue 136).run Tryz.prog w = .ok (Value.agg (([Value.int .i64 0] ++ (List.replicate 32 (Value.int .u8 0)) ++ [Value.string ⟨#[]⟩] ++ [Value.slice none 0 0] ++ [Value.int .i64 0] ++ [Value.string ⟨#[]⟩] ++ (List.replicate 32 (Value.int .u8 0)) ++ [Value.slice none 0 0])).toArray) w := fun _ => by kernel_rfl
theorem inf5 : ∃ ti, Tryz.prog.info? 5 = some ti ∧ ti.zero = some (Value.int .u8 0) ∧ ti.size = 1 ∧ ti.bytes = 1 := by
  have h : (Tryz.prog.info? 5).map (fun i => (i.zero, i.size, i.bytes)) = some (some (Value.int .u8 0), 1, 1) := by kernel_rfl
  exact info_parts h

abbrev idp : Bs := [105, 100, 58]
theorem cut_id (s : Bs) (w : World) : Calls Tryz.prog 84 #[.string (S (idp ++ s)), .string ⟨#[105, 100, 58]⟩] w fun e w' => e = .returned (.tuple #[.string (S s), .bool true]) ∧ Gr w w' :=
  (Tryz.strings_CutPrefix (S (idp ++ s)) ⟨#[105, 100, 58]⟩ w).mono fun e w' h => ⟨by
    rw [h.1]
    have e1 : (S (idp ++ s)).data.toList = idp ++ s := by simp [S]
    have e2 : Lib.hasPrefix (idp ++ s) [105, 100, 58] = true := by simp [Lib.hasPrefix]
    rw [e1]
    show Ending.returned (.tuple #[.string ⟨(Lib.trimPrefix (idp ++ s) [105, 100, 58]).toArray⟩, .bool (Lib.hasPrefix (idp ++ s) [105, 100, 58])]) = _
    have e3 : Lib.trimPrefix (idp ++ s) [105, 100, 58] = s := by
      unfold Lib.trimPrefix
      rw [if_pos e2]
      rfl
    rw [e2, e3], by rw [h.2]; exact Gr.rf _⟩
theorem ask_bare (s : Bs) (v : Value) : (En.ask s v).bare4 = En.only4 v := by simp [En.bare4, En.ask, En.only4]
theorem ask_same (s : Bs) (v : Value) : (En.ask s v).bare4.same (En.only4 (En.ask s v).sigs) [] [] [Sg.none] [Sg.none] = true := by
  rw [ask_bare]; simp [En.same, En.ask]
theorem ask_own (s : Bs) (v : Value) : (En.ask s v).own4 = named s := by simp [En.own4, En.ask]
theorem none_ok : sigsOk [Sg.none] = true := by decide +kernel
theorem check_ask_f (s : Bs) (v : Value) (h : named s = false) (w : World) : Calls Tryz.prog 85 #[(En.ask s v).val] w fun e w' => e = .returned (ev (some 11)) ∧ Gr w w' :=
  check4_own (En.ask s v) w rfl (by rw [ask_own, h])
theorem check_ask_t (s : Bs) (v : Value) (h : named s = true) (w : World) (hv : Rc w 97 v 1 Sg.none.cells) (h1 : v.oneCell' = true) : Calls Tryz.prog 85 #[(En.ask s v).val] w fun e w' => e = .returned .nilIface ∧ Gr w w' :=
  check4_ok (En.ask s v) [] [Sg.none] w rfl (by rw [ask_own, h]) none_ok (ask_same s v) (Rc.nil _ _ _ _) (by show Rc w 97 v 1 ([Sg.none].flatMap Sg.cells); simpa using hv) (by simp) (by simp) rfl h1

theorem identity_any (s : Bs) (hs : s.length ≤ 1000000) (w : World)  : Calls Tryz.prog 56 #[.string (S s)] w fun e w' => e = .returned (.string (S (idp ++ s))) ∧ Gr w w' := by
  refine enter (vs := [.string (S s)]) Tryz.func56 rfl Tryz.ntmps56 rfl ?_
  refine g_seq ?_
  refine g_reg ?_
  refine l_y (y_assign rfl) rfl ?_
  refine l_nil ?_
  refine g_seq ?_
  refine g_reg ?_
  refine l_y (y_move rfl) rfl ?_
  refine l_y (y_cat' rfl rfl (by simp only [List.length_append, List.length_cons, List.length_nil]; omega)) rfl ?_
  refine l_y (y_assign rfl) rfl ?_
  refine l_nil ?_
  refine g_ret Tryz.results56 rfl ?_
  exact ⟨rfl, Gr.rf _⟩

theorem is_id_f (s : Bs) (w : World) (h : named s = false) : Calls Tryz.prog 55 #[.string (S (idp ++ s))] w fun e w' => e = .returned (.bool false) ∧ Gr w w' := by
  refine enter (vs := [.string (S (idp ++ s))]) Tryz.func55 rfl Tryz.ntmps55 rfl ?_
  refine g_seq ?_
  refine g_reg ?_
  refine l_y (y_assign rfl) rfl ?_
  refine l_nil ?_
  refine g_seq ?_
  refine g_seq ?_
  refine g_reg ?_
  refine l_y (y_move rfl) rfl ?_
  refine l_call0 rfl rfl en84 (cut_id s _) (fun _ _ h => ⟨_, h.1⟩) rfl (fun w1 v1 h1 => ?_)
  obtain ⟨h1, hk1⟩ := h1
  cases h1
  have hgr := hk1
  refine l_y (y_move rfl) rfl ?_
  refine l_y (y_ext rfl rfl) rfl ?_
  refine l_y (y_ext rfl rfl) rfl ?_
  refine l_y (y_assign rfl) rfl ?_
  refine l_y (y_assign rfl) rfl ?_
  refine l_nil ?_
  refine g_seq ?_
  refine g_reg ?_
  refine l_y (y_move rfl) rfl ?_
  refine l_nil ?_
  refine g_true rfl ?_
  refine g_seq ?_
  refine g_reg ?_
  refine l_y (y_move rfl) rfl ?_
  refine l_y (y_build (v := Sg.none.val) rfl (fun _ => by kernel_rfl)) rfl ?_
  refine l_bsl (size := 97) (cs := Sg.none.cells.toArray) (e := 133) rfl Tryz.underlying134 szT133 (by decide) rfl (fun _ => by kernel_rfl) rfl (fun wq vq hkq hoq => ?_)
  obtain ⟨gq, cq, rfl⟩ := own_addr hoq
  have hgr := hgr.tr hkq
  have hql := (hoq.lt gq rfl).2
  refine l_y (y_build (v := (En.ask s (.slice (some ⟨gq, 0, none⟩) (0 + 1) cq)).val) rfl (fun _ => by kernel_rfl)) rfl ?_
  refine l_alloc zT136 rfl (fun w2 g2 hk2 hg2 hB2 => ?_)
  have hl2 : w.heap.size ≤ g2 := Nat.le_trans hgr.le hg2
  have hoq := hoq.gr hk2
  have hgr := hgr.tr hk2
  refine l_stm (vs := (En.ask s (.slice (some ⟨gq, 0, none⟩) (0 + 1) cq)).cells) rfl rfl hB2 rfl (by rw [En.len]; decide) (by exact En.one _ rfl rfl) (by rw [szT136, En.len]) (fun w3 hg3 hs3 hS3 => ?_)
  have hgr0 := hgr
  have hgr : Gr w w3 := hgr.grown hg3 hgr.le (fun k hk => by injection hk with hk; subst hk; exact hl2)
  have hB2 := Blk.whole hS3 (by rw [En.len]; rfl)
  have hoq := hoq.grown hg3 (.inr (fun q => by have q' : gq = g2 := Option.some.inj q; omega))
  refine l_nil ?_
  refine g_seq ?_
  refine g_reg ?_
  refine l_y (y_ldbs (o := 0) (vs := (En.ask s (.slice (some ⟨gq, 0, none⟩) (0 + 1) cq)).cells) rfl hB2 (plain_gr _) Tryz.underlying136 rfl (by rw [szT136, En.len]) (fun j v hj => by simpa using hj)) rfl ?_
  refine l_call0 rfl rfl en85 (check_ask_f s _ h _) (fun _ _ h => ⟨_, h.1⟩) rfl (fun w4 v4 h4 => ?_)
  obtain ⟨h4, hk4⟩ := h4
  cases h4
  have hB2 := hB2.gr hk4
  have hoq := hoq.gr hk4
  have hgr := hgr.tr hk4
  refine l_y (y_eqni rfl rfl Tryz.underlying31) rfl ?_
  refine l_y (y_assign rfl) rfl ?_
  refine l_nil ?_
  refine g_ret Tryz.results55 rfl ?_
  exact ⟨rfl, hgr⟩

theorem is_id_t (s : Bs) (w : World) (h : named s = true) : Calls Tryz.prog 55 #[.string (S (idp ++ s))] w fun e w' => e = .returned (.bool true) ∧ Gr w w' := by
  refine enter (vs := [.string (S (idp ++ s))]) Tryz.func55 rfl Tryz.ntmps55 rfl ?_
  refine g_seq ?_
  refine g_reg ?_
  refine l_y (y_assign rfl) rfl ?_
  refine l_nil ?_
  refine g_seq ?_
  refine g_seq ?_
  refine g_reg ?_
  refine l_y (y_move rfl) rfl ?_
  refine l_call0 rfl rfl en84 (cut_id s _) (fun _ _ h => ⟨_, h.1⟩) rfl (fun w1 v1 h1 => ?_)
  obtain ⟨h1, hk1⟩ := h1
  cases h1
  have hgr := hk1
  refine l_y (y_move rfl) rfl ?_
  refine l_y (y_ext rfl rfl) rfl ?_
  refine l_y (y_ext rfl rfl) rfl ?_
  refine l_y (y_assign rfl) rfl ?_
  refine l_y (y_assign rfl) rfl ?_
  refine l_nil ?_
  refine g_seq ?_
  refine g_reg ?_
  refine l_y (y_move rfl) rfl ?_
  refine l_nil ?_
  refine g_true rfl ?_
  refine g_seq ?_
  refine g_reg ?_
  refine l_y (y_move rfl) rfl ?_
  refine l_y (y_build (v := Sg.none.val) rfl (fun _ => by kernel_rfl)) rfl ?_
  refine l_bsl (size := 97) (cs := Sg.none.cells.toArray) (e := 133) rfl Tryz.underlying134 szT133 (by decide) rfl (fun _ => by kernel_rfl) rfl (fun wq vq hkq hoq => ?_)
  obtain ⟨gq, cq, rfl⟩ := own_addr hoq
  have hgr := hgr.tr hkq
  have hql := (hoq.lt gq rfl).2
  refine l_y (y_build (v := (En.ask s (.slice (some ⟨gq, 0, none⟩) (0 + 1) cq)).val) rfl (fun _ => by kernel_rfl)) rfl ?_
  refine l_alloc zT136 rfl (fun w2 g2 hk2 hg2 hB2 => ?_)
  have hl2 : w.heap.size ≤ g2 := Nat.le_trans hgr.le hg2
  have hoq := hoq.gr hk2
  have hgr := hgr.tr hk2
  refine l_stm (vs := (En.ask s (.slice (some ⟨gq, 0, none⟩) (0 + 1) cq)).cells) rfl rfl hB2 rfl (by rw [En.len]; decide) (by exact En.one _ rfl rfl) (by rw [szT136, En.len]) (fun w3 hg3 hs3 hS3 => ?_)
  have hgr0 := hgr
  have hgr : Gr w w3 := hgr.grown hg3 hgr.le (fun k hk => by injection hk with hk; subst hk; exact hl2)
  have hB2 := Blk.whole hS3 (by rw [En.len]; rfl)
  have hoq := hoq.grown hg3 (.inr (fun q => by have q' : gq = g2 := Option.some.inj q; omega))
  refine l_nil ?_
  refine g_seq ?_
  refine g_reg ?_
  refine l_y (y_ldbs (o := 0) (vs := (En.ask s (.slice (some ⟨gq, 0, none⟩) (0 + 1) cq)).cells) rfl hB2 (plain_gr _) Tryz.underlying136 rfl (by rw [szT136, En.len]) (fun j v hj => by simpa using hj)) rfl ?_
  refine l_call0 rfl rfl en85 (check_ask_t s _ h _ hoq.rc rfl) (fun _ _ h => ⟨_, h.1⟩) rfl (fun w4 v4 h4 => ?_)
  obtain ⟨h4, hk4⟩ := h4
  cases h4
  have hB2 := hB2.gr hk4
  have hoq := hoq.gr hk4
  have hgr := hgr.tr hk4
  refine l_y (y_eqnn rfl rfl Tryz.underlying31) rfl ?_
  refine l_y (y_assign rfl) rfl ?_
  refine l_nil ?_
  refine g_ret Tryz.results55 rfl ?_
  exact ⟨rfl, hgr⟩

theorem is_id (s : Bs) (w : World) : Calls Tryz.prog 55 #[.string (S (idp ++ s))] w fun e w' => e = .returned (.bool (named s)) ∧ Gr w w' := by
  cases h : named s with
  | true => exact is_id_t s w h
  | false => exact is_id_f s w h
theorem sound_any (h : Hd) (w : World) (ho : h.o.length ≤ 1000000) : Calls Tryz.prog 26 #[h.val] w fun e w' => e = .returned (.bool h.good) ∧ Gr w w' := by
  refine enter (vs := [h.val]) Tryz.func26 rfl Tryz.ntmps26 rfl ?_
  refine g_seq ?_
  refine g_reg ?_
  refine l_box rfl rfl (fun w1 g1 hk1 hg1 hB1 => ?_)
  have hl1 : w.heap.size ≤ g1 := hg1
  have hgr := hk1
  refine l_y (y_assign rfl) rfl ?_
  refine l_nil ?_
  refine g_seq ?_
  refine g_reg ?_
  refine l_y (y_fa (v := .pointer (some ⟨g1, 0, none⟩)) rfl (fun _ => by kernel_rfl)) rfl ?_
  refine l_y (y_ldb rfl hB1 (plain_gr _) Tryz.underlying9 rfl h.at0) rfl ?_
  refine l_call0 rfl rfl en56 (identity_any h.o ho _) (fun _ _ h => ⟨_, h.1⟩) rfl (fun w2 v2 h2 => ?_)
  obtain ⟨h2, hk2⟩ := h2
  cases h2
  have hB1 := hB1.gr hk2
  have hgr := hgr.tr hk2
  refine l_call0 rfl rfl en55 (is_id h.o _) (fun _ _ h => ⟨_, h.1⟩) rfl (fun w3 v3 h3 => ?_)
  obtain ⟨h3, hk3⟩ := h3
  cases h3
  have hB1 := hB1.gr hk3
  have hgr := hgr.tr hk3
  refine l_y (y_move rfl) rfl ?_
  refine l_g (gd_t rfl rfl) (fun hc => y_fa (v := .pointer (some ⟨g1, 1, none⟩)) rfl (fun _ => by kernel_rfl)) rfl ?_
  refine l_g (gd_t rfl rfl) (fun hc => y_ldb (og rfl hc) hB1 (plain_gr _) Tryz.underlying3 rfl h.at1) rfl ?_
  refine l_g (gd_t rfl rfl) (fun hc => y_geq (og rfl hc) rfl) rfl ?_
  refine l_y (y_pand rfl rfl (fun h => h)) rfl ?_
  refine l_y (y_move rfl) rfl ?_
  refine l_g (gd_t rfl rfl) (fun hc => y_fa (v := .pointer (some ⟨g1, 1, none⟩)) rfl (fun _ => by kernel_rfl)) rfl ?_
  refine l_g (gd_t rfl rfl) (fun hc => y_ldb (og rfl hc) hB1 (plain_gr _) Tryz.underlying3 rfl h.at1) rfl ?_
  refine l_g (gd_t rfl rfl) (fun hc => y_leq (og rfl hc) rfl) rfl ?_
  refine l_y (y_pand rfl rfl (fun h => h)) rfl ?_
  refine l_y (y_move rfl) rfl ?_
  refine l_g (gd_t rfl rfl) (fun hc => y_fa (v := .pointer (some ⟨g1, 2, none⟩)) rfl (fun _ => by kernel_rfl)) rfl ?_
  refine l_g (gd_t rfl rfl) (fun hc => y_ldb (og rfl hc) hB1 (plain_gr _) Tryz.underlying3 rfl h.at2) rfl ?_
  refine l_g (gd_t rfl rfl) (fun hc => y_geq (og rfl hc) rfl) rfl ?_
  refine l_y (y_pand rfl rfl (fun h => h)) rfl ?_
  refine l_y (y_move rfl) rfl ?_
  refine l_g (gd_t rfl rfl) (fun hc => y_fa (v := .pointer (some ⟨g1, 2, none⟩)) rfl (fun _ => by kernel_rfl)) rfl ?_
  refine l_g (gd_t rfl rfl) (fun hc => y_ldb (og rfl hc) hB1 (plain_gr _) Tryz.underlying3 rfl h.at2) rfl ?_
  refine l_g (gd_t rfl rfl) (fun hc => y_leq (og rfl hc) rfl) rfl ?_
  refine l_y (y_pand rfl rfl (fun h => h)) rfl ?_
  refine l_y (y_assign rfl) rfl ?_
  refine l_nil ?_
  refine g_ret Tryz.results26 rfl ?_
  exact ⟨rfl, hgr⟩

theorem sound_is (h : Hd) {b : Bool} (hb : h.good = b) (w : World) (ho : h.o.length ≤ 1000000) : Calls Tryz.prog 26 #[h.val] w fun e w' => e = .returned (.bool b) ∧ Gr w w' :=
  (sound_any h w ho).mono fun _ _ h => ⟨by rw [h.1, hb], h.2⟩
theorem body_bad (h : Hd) (w : World) (hg : h.good = false) (ho : h.o.length ≤ 1000000) : Calls Tryz.prog 7 #[h.val] w fun e w' => e = .returned (.tuple #[.slice none 0 0, ev (some 1)]) ∧ Gr w w' := by
  refine enter (vs := [h.val]) Tryz.func7 rfl Tryz.ntmps7 rfl ?_
  refine g_seq ?_
  refine g_reg ?_
  refine l_box rfl rfl (fun w1 g1 hk1 hg1 hB1 => ?_)
  have hl1 : w.heap.size ≤ g1 := hg1
  have hgr := hk1
  refine l_y (y_assign rfl) rfl ?_
  refine l_y (y_assign rfl) rfl ?_
  refine l_nil ?_
  refine g_seq ?_
  refine g_seq ?_
  refine g_reg ?_
  refine l_y (y_ldbs (o := 0) (vs := h.cells) rfl hB1 (plain_gr _) Tryz.underlying27 rfl (by rw [szT27, h.len]) (fun j v hj => by show h.cells.toArray[0 + j]? = _; simpa using hj)) rfl ?_
  refine l_call0 rfl rfl en26 (sound_is h hg _ ho) (fun _ _ h => ⟨_, h.1⟩) rfl (fun w2 v2 h2 => ?_)
  obtain ⟨h2, hk2⟩ := h2
  cases h2
  have hB1 := hB1.gr hk2
  have hgr := hgr.tr hk2
  refine l_y (y_not rfl) rfl ?_
  refine l_nil ?_
  refine g_true rfl ?_
  refine g_seq ?_
  refine g_reg ?_
  refine l_y (y_mki rfl Tryz.underlying36 rfl) rfl ?_
  refine l_y (y_assign rfl) rfl ?_
  refine l_y (y_assign rfl) rfl ?_
  refine l_nil ?_
  refine g_ret Tryz.results7 rfl ?_
  exact ⟨rfl, hgr⟩

theorem join_six (o a b : Bs) (bk c : Nat) (w : World) (hc : ∀ (j : Nat) x, [S [99, 97, 99, 104, 101, 116, 32, 118, 49], S o, S a, S b, S [], S []][j]? = some x → w.cell? ⟨bk, 0 + j, none⟩ = some (.string x)) (hbk : bk < w.heap.size) (hcap : 6 ≤ c) (hl : o.length + a.length + b.length ≤ 1000000) :
    Calls Tryz.prog 28 #[.slice (some ⟨bk, 0, none⟩) 6 c, .string ⟨#[10]⟩] w fun e w' => e = .returned (.string (S ([99, 97, 99, 104, 101, 116, 32, 118, 49, 10] ++ o ++ [10] ++ a ++ [10] ++ b ++ [10, 10]))) ∧ Gr w w' := by
  have hj : Lib.join ([S [99, 97, 99, 104, 101, 116, 32, 118, 49], S o, S a, S b, S [], S []].map (·.data.toList)) (⟨#[10]⟩ : ByteArray).data.toList = [99, 97, 99, 104, 101, 116, 32, 118, 49, 10] ++ o ++ [10] ++ a ++ [10] ++ b ++ [10, 10] := by
    simp [Lib.join, List.intercalate, S]
  refine (Tryz.strings_Join bk 0 c [S [99, 97, 99, 104, 101, 116, 32, 118, 49], S o, S a, S b, S [], S []] ⟨#[10]⟩ w hc hbk (by simp) hcap (by rw [hj]; simp; omega)).mono fun e w' h => ⟨?_, h.2⟩
  rw [h.1, hj]
theorem own_cap {w : World} {base : Nat} {e : TypeId} {size m g c : Nat} {xs : List Value} (h : Own w base e size (.slice (some ⟨g, 0, none⟩) m c) m xs) : m ≤ c := by
  rcases h.2 with ⟨h1, _⟩ | ⟨g', cap, cur, fr, h1, _, _, _, h2, _⟩
  · cases h1
  · injection h1 with _ _ h3
    omega
theorem six_cells {w : World} {base : Nat} {e : TypeId} {g c : Nat} {a b d f h k : ByteArray} (ho : Own w base e 1 (.slice (some ⟨g, 0, none⟩) 6 c) 6 #[.string a, .string b, .string d, .string f, .string h, .string k].toList) : ∀ (j : Nat) x, [a, b, d, f, h, k][j]? = some x → w.cell? ⟨g, 0 + j, none⟩ = some (.string x) := by
  intro j x hj
  have h1 := ho.rc.at_ (j := j) (u := .string x) (by
    have : ([a, b, d, f, h, k].map Value.string)[j]? = some (.string x) := by rw [List.getElem?_map, hj]; rfl
    exact this)
  have hadd : (⟨g, 0, none⟩ : Addr).add j = ⟨g, 0 + j, none⟩ := by unfold Addr.add; split <;> simp_all
  rw [← hadd]; exact h1
theorem body_good (h : Hd) (w : World) (hb : h.good = true) (hg : h.Good) (he : Env w) : Calls Tryz.prog 7 #[h.val] w fun e w' => ∃ v, e = .returned (.tuple #[v, .nilIface]) ∧ Own w' w.heap.size 5 1 v h.body.length (h.body.map bc) ∧ Gr w w' := by
  refine enter (vs := [h.val]) Tryz.func7 rfl Tryz.ntmps7 rfl ?_
  refine g_seq ?_
  refine g_reg ?_
  refine l_box rfl rfl (fun w1 g1 hk1 hg1 hB1 => ?_)
  have hl1 : w.heap.size ≤ g1 := hg1
  have hgr := hk1
  refine l_y (y_assign rfl) rfl ?_
  refine l_y (y_assign rfl) rfl ?_
  refine l_nil ?_
  refine g_seq ?_
  refine g_seq ?_
  refine g_reg ?_
  refine l_y (y_ldbs (o := 0) (vs := h.cells) rfl hB1 (plain_gr _) Tryz.underlying27 rfl (by rw [szT27, h.len]) (fun j v hj => by show h.cells.toArray[0 + j]? = _; simpa using hj)) rfl ?_
  refine l_call0 rfl rfl en26 (sound_is h hb _ (by have := hg.o; omega)) (fun _ _ h => ⟨_, h.1⟩) rfl (fun w2 v2 h2 => ?_)
  obtain ⟨h2, hk2⟩ := h2
  cases h2
  have hB1 := hB1.gr hk2
  have hgr := hgr.tr hk2
  refine l_y (y_not rfl) rfl ?_
  refine l_nil ?_
  refine g_false rfl ?_
  refine g_skip ?_
  refine g_seq ?_
  have hls := hg.ls
  have hlt := hg.lt
  have hlo := hg.o
  have hhx := hex_length h.root
  have hhr := h.hr
  refine g_draw Gr hmix (fun w3 hk3 he3 => ?_)
  have hB1 := hB1.gr hk3
  have hgr := hgr.tr hk3
  have hq := Gr.rf w3
  have hZ1 := hB1
  refine h_take 0 rfl (by kernel_rfl) (y_fa (v := .pointer (some ⟨g1, 1, none⟩)) rfl (fun _ => by kernel_rfl)) rfl hq ?_
  refine h_take 1 rfl (by kernel_rfl) (y_as (v' := .int .i64 (h.size.toNat : Nat)) (y_ldb rfl hZ1 (fun _ h => h) Tryz.underlying3 rfl h.at1) (by rw [Int.toNat_of_nonneg hg.s0])) rfl hq ?_
  refine h_take 4 rfl (by kernel_rfl) (y_fa (v := .pointer (some ⟨g1, 2, none⟩)) rfl (fun _ => by kernel_rfl)) rfl hq ?_
  refine h_take 5 rfl (by kernel_rfl) (y_as (v' := .int .i64 (h.time.toNat : Nat)) (y_ldb rfl hZ1 (fun _ h => h) Tryz.underlying3 rfl h.at2) (by rw [Int.toNat_of_nonneg hg.t0])) rfl hq ?_
  refine h_call0 2 rfl (by kernel_rfl) rfl rfl en27 (itoa_any _ (by have := hg.s1; omega) _ (he.gr hgr)) (fun _ _ h => ⟨_, h.1⟩) rfl hq (fun w4 v4 h4 => ?_)
  obtain ⟨h4, hk4⟩ := h4
  cases h4
  have hq := hq.tr hk4
  have hB1 := hB1.gr hk4
  have hgr := hgr.tr hk4
  refine h_take 3 rfl (by kernel_rfl) (y_cat' rfl rfl (by simp only [List.length_append, List.length_cons, List.length_nil]; omega)) rfl hq ?_
  refine h_call0 6 rfl (by kernel_rfl) rfl rfl en27 (itoa_any _ (by have := hg.t1; omega) _ (he.gr hgr)) (fun _ _ h => ⟨_, h.1⟩) rfl hq (fun w5 v5 h5 => ?_)
  obtain ⟨h5, hk5⟩ := h5
  cases h5
  have hq := hq.tr hk5
  have hB1 := hB1.gr hk5
  have hgr := hgr.tr hk5
  refine h_take 7 rfl (by kernel_rfl) (y_cat' rfl rfl (by simp only [List.length_append, List.length_cons, List.length_nil]; omega)) rfl hq ?_
  refine h_take 8 rfl (by kernel_rfl) (y_assign rfl) rfl hq ?_
  refine h_done (by kernel_rfl) hq ?_
  refine g_seq ?_
  refine g_draw Gr hmix (fun w6 hk6 he6 => ?_)
  have hB1 := hB1.gr hk6
  have hgr := hgr.tr hk6
  have hq := Gr.rf w6
  have hZ1 := hB1
  refine h_take 0 rfl (by kernel_rfl) (y_fa (v := .pointer (some ⟨g1, 0, none⟩)) rfl (fun _ => by kernel_rfl)) rfl hq ?_
  refine h_take 1 rfl (by kernel_rfl) (y_ldb rfl hZ1 (fun _ h => h) Tryz.underlying9 rfl h.at0) rfl hq ?_
  refine h_take 2 rfl (by kernel_rfl) (y_move rfl) rfl hq ?_
  refine h_take 3 rfl (by kernel_rfl) (y_fa (v := .pointer (some ⟨g1, 3, none⟩)) rfl (fun _ => by kernel_rfl)) rfl hq ?_
  refine h_take 4 rfl (by kernel_rfl) (y_arr rfl Tryz.underlying23 (some_of szT5)) rfl hq ?_
  refine h_call0 5 rfl (by kernel_rfl) rfl rfl en29 (hex_any _ h.root _ (Hd.rcRoot hB1) (by omega)) (fun _ _ h => ⟨_, h.1⟩) rfl hq (fun w7 v7 h7 => ?_)
  obtain ⟨h7, hk7⟩ := h7
  cases h7
  have hq := hq.tr hk7
  have hB1 := hB1.gr hk7
  have hgr := hgr.tr hk7
  refine h_bsl 6 rfl (by kernel_rfl) (size := 1) (cs := #[.string (S [99, 97, 99, 104, 101, 116, 32, 118, 49]), .string (S h.o), .string (S (number h.size.toNat ++ [32] ++ number h.time.toNat)), .string (S (hex h.root)), .string (S []), .string (S [])]) (e := 9) rfl (by decide) rfl (fun _ => by kernel_rfl) rfl hq (fun w8 v8 hk8 ho8 => ?_)
  have hsl := ho8
  have hB1 := hB1.gr hk8
  have hgr := hgr.tr hk8
  have hq := hq.tr hk8
  obtain ⟨gq, cq, rfl⟩ := own_addr hsl
  have hcap := own_cap hsl
  have hql := (hsl.lt gq rfl).2
  refine h_call0 7 rfl (by kernel_rfl) rfl rfl en28 (join_six h.o (number h.size.toNat ++ [32] ++ number h.time.toNat) (hex h.root) gq cq _ (six_cells hsl) hql hcap (by simp; omega)) (fun _ _ h => ⟨_, h.1⟩) rfl hq (fun w9 v9 h9 => ?_)
  obtain ⟨h9, hk9⟩ := h9
  cases h9
  have hq := hq.tr hk9
  have hB1 := hB1.gr hk9
  have hgr := hgr.tr hk9
  refine h_s2b 8 rfl (by kernel_rfl) rfl Tryz.underlying9 Tryz.underlying29 Tryz.underlying5 (by simp only [maxLen]; have := Hd.body_length hg; simp [Hd.body] at this ⊢; omega) rfl hq (fun w10 v10 hk10 ho10 => ?_)
  have hown := ho10.lower hgr.le
  have hB1 := hB1.gr hk10
  have hgr := hgr.tr hk10
  have hq := hq.tr hk10
  refine h_take 9 rfl (by kernel_rfl) (y_assign rfl) rfl hq ?_
  refine h_take 10 rfl (by kernel_rfl) (y_assign rfl) rfl hq ?_
  refine h_done (by kernel_rfl) hq ?_
  refine g_ret Tryz.results7 rfl ?_
  exact ⟨_, rfl, by simpa [Hd.body] using hown, hgr⟩

theorem put_bad (h : Hd) (w : World) (hg : h.good = false) (ho : h.o.length ≤ 1000000) : Calls Tryz.prog 8 #[h.val] w fun e w' => e = .returned (.tuple #[.slice none 0 0, ev (some 1)]) ∧ Gr w w' := by
  refine enter (vs := [h.val]) Tryz.func8 rfl Tryz.ntmps8 rfl ?_
  refine g_seq ?_
  refine g_reg ?_
  refine l_box rfl rfl (fun w1 g1 hk1 hg1 hB1 => ?_)
  have hl1 : w.heap.size ≤ g1 := hg1
  have hgr := hk1
  refine l_y (y_assign rfl) rfl ?_
  refine l_y (y_assign rfl) rfl ?_
  refine l_nil ?_
  refine g_seq ?_
  refine g_reg ?_
  refine l_y (y_ldbs (o := 0) (vs := h.cells) rfl hB1 (plain_gr _) Tryz.underlying27 rfl (by rw [szT27, h.len]) (fun j v hj => by show h.cells.toArray[0 + j]? = _; simpa using hj)) rfl ?_
  refine l_call0 rfl rfl en7 (body_bad h _ hg ho) (fun _ _ h => ⟨_, h.1⟩) rfl (fun w2 v2 h2 => ?_)
  obtain ⟨h2, hk2⟩ := h2
  cases h2
  have hB1 := hB1.gr hk2
  have hgr := hgr.tr hk2
  refine l_y (y_move rfl) rfl ?_
  refine l_y (y_ext rfl rfl) rfl ?_
  refine l_y (y_ext rfl rfl) rfl ?_
  refine l_y (y_assign rfl) rfl ?_
  refine l_y (y_assign rfl) rfl ?_
  refine l_nil ?_
  refine g_seq ?_
  refine g_seq ?_
  refine g_reg ?_
  refine l_y (y_move rfl) rfl ?_
  refine l_y (y_neni rfl rfl Tryz.underlying31) rfl ?_
  refine l_nil ?_
  refine g_true rfl ?_
  refine g_seq ?_
  refine g_reg ?_
  refine l_y (y_move rfl) rfl ?_
  refine l_y (y_assign rfl) rfl ?_
  refine l_y (y_assign rfl) rfl ?_
  refine l_nil ?_
  refine g_ret Tryz.results8 rfl ?_
  exact ⟨rfl, hgr⟩

theorem put_good (h : Hd) (w : World) (hb : h.good = true) (hg : h.Good) (he : Env w) : Calls Tryz.prog 8 #[h.val] w fun e w' => ∃ v, e = .returned (.tuple #[v, .nilIface]) ∧ Own w' w.heap.size 5 1 v h.text.length (h.text.map bc) ∧ Gr w w' := by
  obtain ⟨ti5, i51, i52, i53, i54⟩ := inf5
  refine enter (vs := [h.val]) Tryz.func8 rfl Tryz.ntmps8 rfl ?_
  refine g_seq ?_
  refine g_reg ?_
  refine l_box rfl rfl (fun w1 g1 hk1 hg1 hB1 => ?_)
  have hl1 : w.heap.size ≤ g1 := hg1
  have hgr := hk1
  refine l_y (y_assign rfl) rfl ?_
  refine l_y (y_assign rfl) rfl ?_
  refine l_nil ?_
  refine g_seq ?_
  refine g_reg ?_
  refine l_y (y_ldbs (o := 0) (vs := h.cells) rfl hB1 (plain_gr _) Tryz.underlying27 rfl (by rw [szT27, h.len]) (fun j v hj => by show h.cells.toArray[0 + j]? = _; simpa using hj)) rfl ?_
  refine l_call0 rfl rfl en7 (body_good h _ hb hg (he.gr hgr)) (fun _ _ h => by obtain ⟨v, h, _⟩ := h; exact ⟨_, h⟩) rfl (fun w2 v2 h2 => ?_)
  obtain ⟨vb, h2, hown, hk2⟩ := h2
  cases h2
  replace hown := hown.lower hgr.le
  have hB1 := hB1.gr hk2
  have hgr := hgr.tr hk2
  refine l_y (y_move rfl) rfl ?_
  refine l_y (y_ext rfl rfl) rfl ?_
  refine l_y (y_ext rfl rfl) rfl ?_
  refine l_y (y_assign rfl) rfl ?_
  refine l_y (y_assign rfl) rfl ?_
  refine l_nil ?_
  refine g_seq ?_
  refine g_seq ?_
  refine g_reg ?_
  refine l_y (y_move rfl) rfl ?_
  refine l_y (y_nenn rfl rfl Tryz.underlying31) rfl ?_
  refine l_nil ?_
  refine g_false rfl ?_
  refine g_skip ?_
  refine g_seq ?_
  refine g_reg ?_
  refine l_y (y_move rfl) rfl ?_
  refine l_y (y_fa (v := .pointer (some ⟨g1, 35, none⟩)) rfl (fun _ => by kernel_rfl)) rfl ?_
  refine l_y (y_arr rfl Tryz.underlying25 (some_of szT5)) rfl ?_
  refine l_call0 rfl rfl en30 (base64_any _ h.sig _ (Hd.rcSig hB1) (by have := h.hs; omega)) (fun _ _ h => ⟨_, h.1⟩) rfl (fun w3 v3 h3 => ?_)
  obtain ⟨h3, hk3⟩ := h3
  cases h3
  have hB1 := hB1.gr hk3
  have hown := hown.gr hk3
  have hgr := hgr.tr hk3
  refine l_y (y_cat' rfl rfl (by have := b64_length h.sig; have := h.hs; simp; omega)) rfl ?_
  refine l_app rfl rfl hown (Src.str _ (b64 h.sig ++ [10]) Tryz.underlying9) Tryz.underlying29 i51 i52 i53 i54 rfl (by simp only [maxLen]; have := Hd.body_length hg; have := b64_length h.sig; have := h.hs; simp; omega) (by have := Hd.body_length hg; have := b64_length h.sig; have := h.hs; simp; omega) (by decide) hgr.le rfl (fun w4 v4 hg4 ho4 hb4 => ?_)
  have hB1 := hB1.grown hg4 (hown.ne_blk hB1 (by decide))
  have hgr0 := hgr
  have hgr : Gr w w4 := hgr.grown hg4 hgr.le (fun k hk => (hown.lt k hk).1)
  have hown2 := ho4
  refine l_y (y_assign rfl) rfl ?_
  refine l_y (y_assign rfl) rfl ?_
  refine l_nil ?_
  refine g_ret Tryz.results8 rfl ?_
  exact ⟨_, rfl, by simpa [Hd.text] using hown2, hgr⟩

end Go.Proofs.YtehfgmagmnjffaaGreatDoor.Note
