/-
  Walks of functions: what each call comes to.
-/
import Derived.Test.YtehfgmagmnjffaaGreatDoorCoder
import Derived.Test.YtehfgmagmnjffaaGreatDoorDec
import Derived.Test.YtehfgmagmnjffaaGreatDoorNum
import Derived.Test.YtehfgmagmnjffaaGreatDoorEnv
namespace Go.Proofs.YtehfgmagmnjffaaGreatDoor.Decode
open Go Go.RowKit Go.Proofs.YtehfgmagmnjffaaGreatDoor.E Go.Proofs.YtehfgmagmnjffaaGreatDoor.Pl Go.Proofs.YtehfgmagmnjffaaGreatDoor.Coder Go.Proofs.YtehfgmagmnjffaaGreatDoor.Num
theorem hmix : Tryz.prog.follows .mixedOrders = true := by kernel_rfl
theorem en61 : Enters Tryz.prog 61 := enters_of Tryz.func61 (by kernel_rfl) rfl
theorem en63 : Enters Tryz.prog 63 := enters_of Tryz.func63 (by kernel_rfl) rfl
theorem en64 : Enters Tryz.prog 64 := enters_of Tryz.func64 (by kernel_rfl) rfl
theorem en70 : Enters Tryz.prog 70 := enters_of Tryz.func70 (by kernel_rfl) rfl
theorem en71 : Enters Tryz.prog 71 := enters_of Tryz.func71 (by kernel_rfl) rfl
theorem en72 : Enters Tryz.prog 72 := enters_of Tryz.func72 (by kernel_rfl) rfl
theorem en100 : Enters Tryz.prog 100 := enters_of Tryz.func100 (by kernel_rfl) rfl
theorem en101 : Enters Tryz.prog 101 := enters_of Tryz.func101 (by kernel_rfl) rfl
theorem en102 : Enters Tryz.prog 102 := enters_of Tryz.func102 (by kernel_rfl) rfl
theorem en142 : Enters Tryz.prog 142 := enters_of Tryz.func142 (by kernel_rfl) rfl
theorem szT5 : (Tryz.prog.info? 5).map (·.size) = some 1 := by kernel_rfl
theorem szT23 : (Tryz.prog.info? 23).map (·.size) = some 32 := by kernel_rfl
theorem szT25 : (Tryz.prog.info? 25).map (·.size) = some 64 := by kernel_rfl
theorem zT23 : ∀ w, (zeroValue 23).run Tryz.prog w = .ok (Value.agg ((List.replicate 32 (Value.int .u8 0))).toArray) w := fun _ => by kernel_rfl
theorem zT25 : ∀ w, (zeroValue 25).run Tryz.prog w = .ok (Value.agg ((List.replicate 64 (Value.int .u8 0))).toArray) w := fun _ => by kernel_rfl
theorem inf5 : ∃ ti, Tryz.prog.info? 5 = some ti ∧ ti.zero = some (Value.int .u8 0) ∧ ti.size = 1 ∧ ti.bytes = 1 := by
  have h : (Tryz.prog.info? 5).map (fun i => (i.zero, i.size, i.bytes)) = some (some (Value.int .u8 0), 1, 1) := by kernel_rfl
  exact info_parts h

theorem ib_any (l : Bs) (b : UInt8) (w : World) : Calls Tryz.prog 142 #[.string (S l), bc b] w fun e w' => e = .returned (.int .i64 (ixI l b)) ∧ Gr w w' :=
  (Tryz.strings_IndexByte (S l) b.toNat w).mono fun e w' h' => ⟨by
    rw [h'.1]
    have e1 : ((b.toNat : Int).toNat.toUInt8) = b := by simp
    have e2 : (S l).data.toList = l := by simp [S]
    rw [e1, e2, indexByte_ix], by rw [h'.2]; exact Gr.rf _⟩
theorem decode_any (sg : Bs) (B : Nat) (s : Bs) (w : World) (hs : s.length ≤ 1000000) (hB0 : 0 < B) (hB6 : B ≤ 6) (hsg : sg.length = 2 ^ B) : Calls Tryz.prog 101 #[.agg #[.string (S sg), .int .i64 (B : Nat)], .string (S s)] w fun e w' => (dec sg B 0 0 s = none ∧ e = .returned (.tuple #[.slice none 0 0, ev (some 1)]) ∧ Gr w w') ∨ (∃ q x, dec sg B 0 0 s = some q ∧ e = .returned (.tuple #[x, .nilIface]) ∧ Own w' w.heap.size 5 1 x q.length (q.map bc) ∧ Gr w w') := by
  obtain ⟨ti5, i51, i52, i53, i54⟩ := inf5
  refine enter (vs := [.agg #[.string (S sg), .int .i64 (B : Nat)], .string (S s)]) Tryz.func101 rfl Tryz.ntmps101 rfl ?_
  refine g_seq ?_
  refine g_reg ?_
  refine l_box rfl rfl (fun w1 g1 hk1 hg1 hB1 => ?_)
  have hl1 : w.heap.size ≤ g1 := hg1
  have hgr := hk1
  have hB1 : Blk w1 g1 103 #[.string (S sg), .int .i64 (B : Nat)] := hB1
  refine l_y (y_assign rfl) rfl ?_
  refine l_y (y_assign rfl) rfl ?_
  refine l_nil ?_
  refine g_seq ?_
  have hmul : s.length * B ≤ s.length * 6 := Nat.mul_le_mul_left _ hB6
  refine g_reg ?_
  refine l_y (y_move rfl) rfl ?_
  refine l_y (y_slen rfl Tryz.underlying9) rfl ?_
  refine l_y (y_fa (v := .pointer (some ⟨g1, 1, none⟩)) rfl (fun _ => by kernel_rfl)) rfl ?_
  refine l_y (y_ldb rfl hB1 (plain_gr _) Tryz.underlying3 rfl rfl) rfl ?_
  refine l_y (y_as (v' := .int .i64 ((s.length * B : Nat) : Int)) (y_mulN rfl rfl (by rw [← Int.natCast_mul]; omega)) (by rw [Int.natCast_mul])) rfl ?_
  refine l_y (y_as (v' := .int .i64 ((s.length * B / 8 : Nat) : Int)) (y_quoN rfl rfl (by omega) (by omega) (by simp only [IntKind.wrap_i64]; omega)) (by congr 1)) rfl ?_
  refine l_mk rfl rfl Tryz.underlying29 i51 i52 i53 (by rw [i54]; omega) (by simp only [maxLen]; omega) rfl (fun w2 v2 hm2 ho2 => ?_)
  have hk2 := Gr.of_none hm2
  have hown := ho2.lower hgr.le
  have hB1 := hB1.gr hk2
  have hgr := hgr.tr hk2
  refine l_y (y_assign rfl) rfl ?_
  refine l_nil ?_
  refine g_seq ?_
  refine g_reg ?_
  refine l_y (y_assign rfl) rfl ?_
  refine l_y (y_assign rfl) rfl ?_
  refine l_nil ?_
  refine g_seq ?_
  refine g_seq ?_
  refine g_reg ?_
  refine l_y (y_move rfl) rfl ?_
  refine l_y (y_slen rfl Tryz.underlying9) rfl ?_
  refine l_y (y_move rfl) rfl ?_
  refine l_nil ?_
  refine g_block ?_
  refine g_loop (σ := Nat × Nat × Nat × Value × Bs) (fun p => s.length - p.1) (fun p => [(1, .string (S s)), (2, .pointer (some ⟨g1, 0, none⟩)), (6, p.2.2.2.1), (7, .int .i64 p.2.1), (8, .int .i64 p.2.2.1), (19, .int .i64 s.length), (20, .int .i64 p.1)]) (fun p w' => p.1 ≤ s.length ∧ p.2.1 < 2 ^ p.2.2.1 ∧ p.2.2.1 < 8 ∧ p.2.2.2.2.length ≤ p.1 ∧ dec sg B 0 0 s = (dec sg B p.2.1 p.2.2.1 (s.drop p.1)).map (p.2.2.2.2 ++ ·) ∧ Own w' w.heap.size 5 1 p.2.2.2.1 p.2.2.2.2.length (p.2.2.2.2.map bc) ∧ Blk w' g1 103 #[.string (S sg), .int .i64 (B : Nat)] ∧ Gr w w') (0, 0, 0, v2, []) ⟨Nat.zero_le _, by show 0 < 2 ^ 0; decide, by show 0 < 8; omega, by simp, by simp, hown, hB1, hgr⟩ ⟨rfl, rfl, rfl, rfl, rfl, rfl, rfl, trivial⟩ ?_
  rintro ⟨k, vv, h, o, q⟩ w' ⟨hk, hvv, hh, hql, heq, hown, hB1, hgr⟩
  dsimp only at hk hvv hh hql heq hown hB1 hgr ⊢
  refine g_seq ?_
  refine g_reg ?_
  refine l_y (y_lss rfl rfl) rfl ?_
  refine l_nil ?_
  refine g_seq ?_
  refine g_cond rfl (fun hc1 => ?_) (fun hc1 => ?_)
  · skip
    replace hc1 := of_decide_eq_true hc1
    refine g_skip ?_
    refine g_seq ?_
    refine g_block ?_
    refine g_seq ?_
    refine g_reg ?_
    refine l_y (y_move rfl) rfl ?_
    refine l_y (y_assign rfl) rfl ?_
    refine l_nil ?_
    refine g_seq ?_
    obtain ⟨c, hc⟩ := get_some s (k := k) (by omega)
    have hdrop : s.drop k = c :: s.drop (k + 1) := List.drop_eq_getElem?_toList_append (l := s) (i := k) |>.trans (by rw [hc]; rfl)
    rw [hdrop] at heq
    refine g_draw Gr hmix (fun w3 hk3 he3 => ?_)
    have hB1 := hB1.gr hk3
    have hown := hown.gr hk3
    have hgr := hgr.tr hk3
    have hq := Gr.rf w3
    have hZ1 := hB1
    refine h_take 0 rfl (by kernel_rfl) (y_fa (v := .pointer (some ⟨g1, 0, none⟩)) rfl (fun _ => by kernel_rfl)) rfl hq ?_
    refine h_take 1 rfl (by kernel_rfl) (y_ldb rfl hZ1 (fun _ h => h) Tryz.underlying9 rfl rfl) rfl hq ?_
    refine h_take 2 rfl (by kernel_rfl) (y_move rfl) rfl hq ?_
    refine h_take 3 rfl (by kernel_rfl) (y_move rfl) rfl hq ?_
    refine h_take 4 rfl (by kernel_rfl) (y_sidx rfl rfl Tryz.underlying9 (by omega) (by simpa using hc)) rfl hq ?_
    refine h_call0 5 rfl (by kernel_rfl) rfl rfl en142 (ib_any sg c _) (fun _ _ h => ⟨_, h.1⟩) rfl hq (fun w4 v4 h4 => ?_)
    obtain ⟨h4, hk4⟩ := h4
    cases h4
    have hq := hq.tr hk4
    have hB1 := hB1.gr hk4
    have hown := hown.gr hk4
    have hgr := hgr.tr hk4
    refine h_take 6 rfl (by kernel_rfl) (y_assign rfl) rfl hq ?_
    refine h_done (by kernel_rfl) hq ?_
    refine g_seq ?_
    refine g_seq ?_
    refine g_reg ?_
    refine l_y (y_move rfl) rfl ?_
    refine l_y (y_lss rfl rfl) rfl ?_
    refine l_nil ?_
    refine g_cond rfl (fun hc2 => ?_) (fun hc2 => ?_)
    · have hix : ix sg c = none := by
          cases hi : ix sg c with
          | none => rfl
          | some k => simp [ixI, hi] at hc2; omega
      refine g_seq ?_
      refine g_reg ?_
      refine l_y (y_mki rfl Tryz.underlying36 rfl) rfl ?_
      refine l_y (y_assign rfl) rfl ?_
      refine l_y (y_assign rfl) rfl ?_
      refine l_nil ?_
      refine g_ret Tryz.results101 rfl ?_
      exact .inl ⟨by rw [heq, dec_bad hix]; rfl, rfl, hgr⟩
    · obtain ⟨kk, hix⟩ : ∃ kk, ix sg c = some kk := by
          cases hi : ix sg c with
          | none => simp [ixI, hi] at hc2
          | some k => exact ⟨k, rfl⟩
      have hkk := ix_lt hix
      have hkI : ixI sg c = (kk : Int) := by simp [ixI, hix]
      rw [hsg] at hkk
      have hnew := dec_lt hvv hkk
      have h14 := pow_le_64 14 (h := h + B) (by omega)
      have h8 := pow_le_64 8 (h := h) (by omega)
      have hmB := Nat.mul_lt_mul_of_pos_right hvv (Nat.two_pow_pos B)
      rw [← Nat.pow_add] at hmB
      refine g_skip ?_
      refine g_seq ?_
      refine g_draw Gr hmix (fun w5 hk5 he5 => ?_)
      have hB1 := hB1.gr hk5
      have hown := hown.gr hk5
      have hgr := hgr.tr hk5
      have hq := Gr.rf w5
      have hZ1 := hB1
      refine h_take 0 rfl (by kernel_rfl) (y_move rfl) rfl hq ?_
      refine h_take 1 rfl (by kernel_rfl) (y_fa (v := .pointer (some ⟨g1, 1, none⟩)) rfl (fun _ => by kernel_rfl)) rfl hq ?_
      refine h_take 2 rfl (by kernel_rfl) (y_ldb rfl hZ1 (fun _ h => h) Tryz.underlying3 rfl rfl) rfl hq ?_
      refine h_take 3 rfl (by kernel_rfl) (y_shlN (a := vv) (b := B) rfl rfl (by omega) (by omega)) rfl hq ?_
      refine h_take 4 rfl (by kernel_rfl) (y_as (v' := .int .i64 (kk : Nat)) (y_move rfl) (by rw [hkI])) rfl hq ?_
      refine h_take 5 rfl (by kernel_rfl) (y_as (v' := .int .i64 ((vv * 2 ^ B + kk : Nat) : Int)) (y_orN (a := vv * 2 ^ B) (b := kk) rfl rfl (by omega) (by omega)) (by rw [shift_or hkk])) rfl hq ?_
      refine h_take 6 rfl (by kernel_rfl) (y_move rfl) rfl hq ?_
      refine h_take 7 rfl (by kernel_rfl) (y_fa (v := .pointer (some ⟨g1, 1, none⟩)) rfl (fun _ => by kernel_rfl)) rfl hq ?_
      refine h_take 8 rfl (by kernel_rfl) (y_ldb rfl hZ1 (fun _ h => h) Tryz.underlying3 rfl rfl) rfl hq ?_
      refine h_take 9 rfl (by kernel_rfl) (y_addN rfl rfl (by omega)) rfl hq ?_
      refine h_take 10 rfl (by kernel_rfl) (y_assign rfl) rfl hq ?_
      refine h_take 11 rfl (by kernel_rfl) (y_assign rfl) rfl hq ?_
      refine h_done (by kernel_rfl) hq ?_
      refine g_seq ?_
      refine g_reg ?_
      refine l_y (y_move rfl) rfl ?_
      refine l_y (y_geq rfl rfl) rfl ?_
      refine l_nil ?_
      refine g_cond rfl (fun hc3 => ?_) (fun hc3 => ?_)
      · skip
        replace hc3 := of_decide_eq_true hc3
        refine g_seq ?_
        refine g_reg ?_
        refine l_y (y_move rfl) rfl ?_
        refine l_y (y_as (v' := .int .i64 ((h + B - 8 : Nat) : Int)) (y_subN rfl rfl (by omega)) (by rw [show ((h : Int) + (B : Int) - 8) = ((h + B - 8 : Nat) : Int) from by omega])) rfl ?_
        refine l_y (y_assign rfl) rfl ?_
        refine l_nil ?_
        refine g_seq ?_
        have hdiv : (vv * 2 ^ B + kk) / 2 ^ (h + B - 8) < 256 := by
          have := div_pow_lt hnew (B := 8) (by omega)
          simpa using this
        have h146 := pow_le_64 14 (h := h + B - 8) (by omega)
        have hpos := Nat.two_pow_pos (h + B - 8)
        refine g_reg ?_
        refine l_y (y_move rfl) rfl ?_
        refine l_y (y_move rfl) rfl ?_
        refine l_y (y_move rfl) rfl ?_
        refine l_y (y_shrN (a := vv * 2 ^ B + kk) (b := h + B - 8) rfl rfl (by omega)) rfl ?_
        refine l_y (y_as (v' := bc (UInt8.ofNat ((vv * 2 ^ B + kk) / 2 ^ (h + B - 8)))) (y_convN rfl Tryz.underlying3 Tryz.underlying5 (by generalize (vv * 2 ^ B + kk) / 2 ^ (h + B - 8) = dd at hdiv ⊢; simp only [IntKind.wrap_u8]; omega)) (by show Value.int .u8 _ = Value.int .u8 _; rw [u8_nat hdiv])) rfl ?_
        refine l_bsl (size := 1) (cs := #[bc (UInt8.ofNat ((vv * 2 ^ B + kk) / 2 ^ (h + B - 8)))]) rfl Tryz.underlying29 szT5 (by decide) rfl (fun _ => by kernel_rfl) rfl (fun w6 v6 hk6 ho6 => ?_)
        have hlit := ho6
        have hB1 := hB1.gr hk6
        have hown := hown.gr hk6
        have hgr := hgr.tr hk6
        refine l_app rfl rfl hown (Src.rc _ Tryz.underlying29 hlit.rc (by intro u hu; simp at hu; subst hu; rfl)) Tryz.underlying29 i51 i52 i53 i54 rfl (by simp only [maxLen]; omega) (by omega) (by decide) hgr.le rfl (fun w7 v7 hg7 ho7 hb7 => ?_)
        have hB1 := hB1.grown hg7 (hown.ne_blk hB1 (by decide))
        have hgr0 := hgr
        have hgr : Gr w w7 := hgr.grown hg7 hgr.le (fun k hk => (hown.lt k hk).1)
        have hown := ho7
        refine l_y (y_assign rfl) rfl ?_
        refine l_nil ?_
        refine g_reg ?_
        refine l_y (y_move rfl) rfl ?_
        refine l_y (y_move rfl) rfl ?_
        refine l_y (y_shlN (a := 1) (b := h + B - 8) rfl rfl (by omega) (by omega)) rfl ?_
        refine l_y (y_subM (a := 1 * 2 ^ (h + B - 8)) (b := 1) rfl rfl (by omega) (by omega)) rfl ?_
        refine l_y (y_as (v' := .int .i64 (((vv * 2 ^ B + kk) % 2 ^ (h + B - 8) : Nat) : Int)) (y_andN (a := vv * 2 ^ B + kk) (b := 1 * 2 ^ (h + B - 8) - 1) rfl rfl (by omega) (by omega)) (by rw [Nat.one_mul, Nat.and_two_pow_sub_one_eq_mod])) rfl ?_
        refine l_y (y_assign rfl) rfl ?_
        refine l_nil ?_
        refine g_blk ?_
        refine g_reg ?_
        refine l_y (y_addN rfl rfl (by omega)) rfl ?_
        refine l_y (y_move rfl) rfl ?_
        refine l_nil ?_
        exact g_lp fun a ha => ⟨(k + 1, (vv * 2 ^ B + kk) % 2 ^ (h + B - 8), h + B - 8, _, q ++ [UInt8.ofNat ((vv * 2 ^ B + kk) / 2 ^ (h + B - 8))]), by show s.length - (k + 1) < s.length - k; omega, ha.sub ⟨rfl, rfl, rfl, rfl, rfl, rfl, rfl, trivial⟩, by show k + 1 ≤ _; omega, by show (vv * 2 ^ B + kk) % 2 ^ (h + B - 8) < 2 ^ (h + B - 8); exact Nat.mod_lt _ hpos, by show h + B - 8 < 8; omega, by simp; omega, heq.trans (dec_push hix (by omega)), by simpa using hown, hB1, hgr⟩
      · skip
        replace hc3 := of_decide_eq_false hc3
        refine g_skip ?_
        refine g_blk ?_
        refine g_reg ?_
        refine l_y (y_addN rfl rfl (by omega)) rfl ?_
        refine l_y (y_move rfl) rfl ?_
        refine l_nil ?_
        exact g_lp fun a ha => ⟨(k + 1, vv * 2 ^ B + kk, h + B, o, q), by show s.length - (k + 1) < s.length - k; omega, ha.sub ⟨rfl, rfl, rfl, rfl, rfl, rfl, rfl, trivial⟩, by show k + 1 ≤ _; omega, hnew, by show h + B < 8; omega, by show q.length ≤ k + 1; omega, by rw [heq, dec_part hix (by omega)], hown, hB1, hgr⟩
  · skip
    replace hc1 := of_decide_eq_false hc1
    refine g_exit rfl ?_
    refine g_seq ?_
    refine g_seq ?_
    rw [List.drop_of_length_le (by omega)] at heq
    refine g_reg ?_
    refine l_y (y_move rfl) rfl ?_
    refine l_y (y_fa (v := .pointer (some ⟨g1, 1, none⟩)) rfl (fun _ => by kernel_rfl)) rfl ?_
    refine l_y (y_ldb rfl hB1 (plain_gr _) Tryz.underlying3 rfl rfl) rfl ?_
    refine l_y (y_geq rfl rfl) rfl ?_
    refine l_y (y_move rfl) rfl ?_
    refine l_g (gd_f rfl rfl) (fun hc => y_move rfl) rfl ?_
    refine l_g (gd_f rfl rfl) (fun hc => y_neq (og rfl hc) rfl) rfl ?_
    refine l_y (y_por rfl rfl (fun h => nt h)) rfl ?_
    refine l_nil ?_
    refine g_cond rfl (fun hc4 => ?_) (fun hc4 => ?_)
    · skip
      try simp only [Bool.and_eq_true, Bool.or_eq_true, Bool.not_eq_true', decide_eq_true_eq, ne_eq, Decidable.not_not] at hc4
      refine g_seq ?_
      refine g_reg ?_
      refine l_y (y_mki rfl Tryz.underlying36 rfl) rfl ?_
      refine l_y (y_assign rfl) rfl ?_
      refine l_y (y_assign rfl) rfl ?_
      refine l_nil ?_
      refine g_ret Tryz.results101 rfl ?_
      exact .inl ⟨by rw [heq]; simp only [dec]; rw [if_pos (by omega)]; rfl, rfl, hgr⟩
    · skip
      try simp only [Bool.and_eq_false_iff, Bool.or_eq_false_iff, decide_eq_false_iff_not, Bool.not_eq_false', ne_eq, Decidable.not_not] at hc4
      refine g_skip ?_
      refine g_seq ?_
      refine g_reg ?_
      refine l_y (y_move rfl) rfl ?_
      refine l_y (y_assign rfl) rfl ?_
      refine l_y (y_assign rfl) rfl ?_
      refine l_nil ?_
      refine g_ret Tryz.results101 rfl ?_
      exact .inr ⟨q, o, by rw [heq]; simp only [dec]; rw [if_neg (by omega)]; simp, rfl, hown, hgr⟩

theorem decode_n (sg : Bs) (B : Nat) (s : Bs) (hR : dec sg B 0 0 s = none) (w : World) (hs : s.length ≤ 1000000) (hB0 : 0 < B) (hB6 : B ≤ 6) (hsg : sg.length = 2 ^ B) : Calls Tryz.prog 101 #[.agg #[.string (S sg), .int .i64 (B : Nat)], .string (S s)] w fun e w' => e = .returned (.tuple #[.slice none 0 0, ev (some 1)]) ∧ Gr w w' :=
  (decode_any sg B s w hs hB0 hB6 hsg).mono fun e w' h => by
    rcases h with ⟨_, h1, h2⟩ | ⟨q, x, h1, _⟩
    · exact ⟨h1, h2⟩
    · rw [hR] at h1; cases h1
theorem decode_s (sg : Bs) (B : Nat) (s q : Bs) (hR : dec sg B 0 0 s = some q) (w : World) (hs : s.length ≤ 1000000) (hB0 : 0 < B) (hB6 : B ≤ 6) (hsg : sg.length = 2 ^ B) : Calls Tryz.prog 101 #[.agg #[.string (S sg), .int .i64 (B : Nat)], .string (S s)] w fun e w' => ∃ x, e = .returned (.tuple #[x, .nilIface]) ∧ Own w' w.heap.size 5 1 x q.length (q.map bc) ∧ Gr w w' :=
  (decode_any sg B s w hs hB0 hB6 hsg).mono fun e w' h => by
    rcases h with ⟨h1, _⟩ | ⟨q', x, h1, h2, h3, h4⟩
    · rw [hR] at h1; cases h1
    · rw [hR] at h1; injection h1 with h1; subst h1; exact ⟨x, h2, h3, h4⟩
theorem unhex_n (s : Bs) (hR : dec figs 4 0 0 s = none) (w : World) (hs : s.length ≤ 1000000) : Calls Tryz.prog 71 #[.string (S s)] w fun e w' => e = .returned (.tuple #[.slice none 0 0, ev (some 1)]) ∧ Gr w w' := by
  refine enter (vs := [.string (S s)]) Tryz.func71 rfl Tryz.ntmps71 rfl ?_
  refine g_seq ?_
  refine g_reg ?_
  refine l_y (y_assign rfl) rfl ?_
  refine l_y (y_assign rfl) rfl ?_
  refine l_nil ?_
  refine g_seq ?_
  refine g_reg ?_
  refine l_call0 rfl rfl en61 (hexes_any _) (fun _ _ h => ⟨_, h.1⟩) rfl (fun w1 v1 h1 => ?_)
  obtain ⟨h1, hk1⟩ := h1
  cases h1
  have hgr := hk1
  refine l_y (y_move rfl) rfl ?_
  refine l_call0 rfl rfl en101 (decode_n figs 4 s hR _ hs (by decide) (by decide) rfl) (fun _ _ h => ⟨_, h.1⟩) rfl (fun w2 v2 h2 => ?_)
  obtain ⟨h2, hk2⟩ := h2
  cases h2
  have hgr := hgr.tr hk2
  refine l_y (y_ext rfl rfl) rfl ?_
  refine l_y (y_ext rfl rfl) rfl ?_
  refine l_y (y_assign rfl) rfl ?_
  refine l_y (y_assign rfl) rfl ?_
  refine l_nil ?_
  refine g_ret Tryz.results71 rfl ?_
  exact ⟨rfl, hgr⟩

theorem unhex_s (s q : Bs) (hR : dec figs 4 0 0 s = some q) (w : World) (hs : s.length ≤ 1000000) : Calls Tryz.prog 71 #[.string (S s)] w fun e w' => ∃ x, e = .returned (.tuple #[x, .nilIface]) ∧ Own w' w.heap.size 5 1 x q.length (q.map bc) ∧ Gr w w' := by
  refine enter (vs := [.string (S s)]) Tryz.func71 rfl Tryz.ntmps71 rfl ?_
  refine g_seq ?_
  refine g_reg ?_
  refine l_y (y_assign rfl) rfl ?_
  refine l_y (y_assign rfl) rfl ?_
  refine l_nil ?_
  refine g_seq ?_
  refine g_reg ?_
  refine l_call0 rfl rfl en61 (hexes_any _) (fun _ _ h => ⟨_, h.1⟩) rfl (fun w1 v1 h1 => ?_)
  obtain ⟨h1, hk1⟩ := h1
  cases h1
  have hgr := hk1
  refine l_y (y_move rfl) rfl ?_
  refine l_call0 rfl rfl en101 (decode_s figs 4 s q hR _ hs (by decide) (by decide) rfl) (fun _ _ h => by obtain ⟨v, h, _⟩ := h; exact ⟨_, h⟩) rfl (fun w2 v2 h2 => ?_)
  obtain ⟨x, h2, hown, hk2⟩ := h2
  cases h2
  replace hown := hown.lower hgr.le
  have hgr := hgr.tr hk2
  refine l_y (y_ext rfl rfl) rfl ?_
  refine l_y (y_ext rfl rfl) rfl ?_
  refine l_y (y_assign rfl) rfl ?_
  refine l_y (y_assign rfl) rfl ?_
  refine l_nil ?_
  refine g_ret Tryz.results71 rfl ?_
  exact ⟨_, rfl, hown, hgr⟩

theorem trim_any (s : Bs) (hs : s.length ≤ 1000000) (w : World) : Calls Tryz.prog 102 #[.string (S s), .string ⟨#[61]⟩] w fun e w' => e = .returned (.string (S (Lib.trimRightB s 61))) ∧ Gr w w' :=
  (Tryz.strings_TrimRight_one (S s) 61 (by decide) w (by rw [S_size]; omega)).mono fun e w' h => ⟨h.1, by rw [h.2]; exact Gr.rf _⟩
theorem trim_length (s : Bs) (c : UInt8) : (Lib.trimRightB s c).length ≤ s.length := by
  unfold Lib.trimRightB
  rw [List.length_reverse]
  have := (List.dropWhile_sublist (l := s.reverse) (· == c)).length_le
  simpa using this
theorem unb_pad (s : Bs) (hR : ¬ Lib.trimRightB s 61 ++ List.replicate ((4 - (Lib.trimRightB s 61).length % 4) % 4) 61 = s) (w : World) (hs : s.length ≤ 1000000) : Calls Tryz.prog 72 #[.string (S s)] w fun e w' => e = .returned (.tuple #[.slice none 0 0, ev (some 1)]) ∧ Gr w w' := by
  refine enter (vs := [.string (S s)]) Tryz.func72 rfl Tryz.ntmps72 rfl ?_
  refine g_seq ?_
  refine g_reg ?_
  refine l_y (y_assign rfl) rfl ?_
  refine l_y (y_assign rfl) rfl ?_
  refine l_nil ?_
  refine g_seq ?_
  have htl := trim_length s 61
  refine g_reg ?_
  refine l_y (y_move rfl) rfl ?_
  refine l_call0 rfl rfl en102 (trim_any s hs _) (fun _ _ h => ⟨_, h.1⟩) rfl (fun w1 v1 h1 => ?_)
  obtain ⟨h1, hk1⟩ := h1
  cases h1
  have hgr := hk1
  refine l_y (y_assign rfl) rfl ?_
  refine l_nil ?_
  refine g_seq ?_
  refine g_seq ?_
  refine g_reg ?_
  refine l_y (y_move rfl) rfl ?_
  refine l_call0 rfl rfl en63 (filled_any _ (by omega) _) (fun _ _ h => ⟨_, h.1⟩) rfl (fun w2 v2 h2 => ?_)
  obtain ⟨h2, hk2⟩ := h2
  cases h2
  have hgr := hgr.tr hk2
  refine l_y (y_move rfl) rfl ?_
  refine l_y (y_sne' rfl rfl) rfl ?_
  refine l_nil ?_
  refine g_cond rfl (fun hc1 => ?_) (fun hc1 => ?_)
  · skip
    replace hc1 := of_decide_eq_true hc1
    refine g_seq ?_
    refine g_reg ?_
    refine l_y (y_mki rfl Tryz.underlying36 rfl) rfl ?_
    refine l_y (y_assign rfl) rfl ?_
    refine l_y (y_assign rfl) rfl ?_
    refine l_nil ?_
    refine g_ret Tryz.results72 rfl ?_
    exact ⟨rfl, hgr⟩
  · exact absurd (by simpa using hc1) hR

theorem unb_n0 (s : Bs) (hp : Lib.trimRightB s 61 ++ List.replicate ((4 - (Lib.trimRightB s 61).length % 4) % 4) 61 = s) (hR : dec signs6 6 0 0 (Lib.trimRightB s 61) = none) (w : World) (hs : s.length ≤ 1000000) : Calls Tryz.prog 72 #[.string (S s)] w fun e w' => e = .returned (.tuple #[.slice none 0 0, ev (some 1)]) ∧ Gr w w' := by
  refine enter (vs := [.string (S s)]) Tryz.func72 rfl Tryz.ntmps72 rfl ?_
  refine g_seq ?_
  refine g_reg ?_
  refine l_y (y_assign rfl) rfl ?_
  refine l_y (y_assign rfl) rfl ?_
  refine l_nil ?_
  refine g_seq ?_
  have htl := trim_length s 61
  refine g_reg ?_
  refine l_y (y_move rfl) rfl ?_
  refine l_call0 rfl rfl en102 (trim_any s hs _) (fun _ _ h => ⟨_, h.1⟩) rfl (fun w1 v1 h1 => ?_)
  obtain ⟨h1, hk1⟩ := h1
  cases h1
  have hgr := hk1
  refine l_y (y_assign rfl) rfl ?_
  refine l_nil ?_
  refine g_seq ?_
  refine g_seq ?_
  refine g_reg ?_
  refine l_y (y_move rfl) rfl ?_
  refine l_call0 rfl rfl en63 (filled_any _ (by omega) _) (fun _ _ h => ⟨_, h.1⟩) rfl (fun w2 v2 h2 => ?_)
  obtain ⟨h2, hk2⟩ := h2
  cases h2
  have hgr := hgr.tr hk2
  refine l_y (y_move rfl) rfl ?_
  refine l_y (y_sne' rfl rfl) rfl ?_
  refine l_nil ?_
  refine g_cond rfl (fun hc1 => ?_) (fun hc1 => ?_)
  · exact absurd hp (by simpa using hc1)
  · skip
    replace hc1 := Decidable.not_not.1 (of_decide_eq_false hc1)
    refine g_skip ?_
    refine g_seq ?_
    refine g_reg ?_
    refine l_call0 rfl rfl en64 (sixes_any _) (fun _ _ h => ⟨_, h.1⟩) rfl (fun w3 v3 h3 => ?_)
    obtain ⟨h3, hk3⟩ := h3
    cases h3
    have hgr := hgr.tr hk3
    refine l_y (y_move rfl) rfl ?_
    refine l_call0 rfl rfl en101 (decode_n signs6 6 _ hR _ (by omega) (by decide) (by decide) rfl) (fun _ _ h => ⟨_, h.1⟩) rfl (fun w4 v4 h4 => ?_)
    obtain ⟨h4, hk4⟩ := h4
    cases h4
    have hgr := hgr.tr hk4
    refine l_y (y_ext rfl rfl) rfl ?_
    refine l_y (y_ext rfl rfl) rfl ?_
    refine l_y (y_assign rfl) rfl ?_
    refine l_y (y_assign rfl) rfl ?_
    refine l_nil ?_
    refine g_ret Tryz.results72 rfl ?_
    exact ⟨rfl, hgr⟩

theorem unb_s0 (s q : Bs) (hp : Lib.trimRightB s 61 ++ List.replicate ((4 - (Lib.trimRightB s 61).length % 4) % 4) 61 = s) (hR : dec signs6 6 0 0 (Lib.trimRightB s 61) = some q) (w : World) (hs : s.length ≤ 1000000) : Calls Tryz.prog 72 #[.string (S s)] w fun e w' => ∃ x, e = .returned (.tuple #[x, .nilIface]) ∧ Own w' w.heap.size 5 1 x q.length (q.map bc) ∧ Gr w w' := by
  refine enter (vs := [.string (S s)]) Tryz.func72 rfl Tryz.ntmps72 rfl ?_
  refine g_seq ?_
  refine g_reg ?_
  refine l_y (y_assign rfl) rfl ?_
  refine l_y (y_assign rfl) rfl ?_
  refine l_nil ?_
  refine g_seq ?_
  have htl := trim_length s 61
  refine g_reg ?_
  refine l_y (y_move rfl) rfl ?_
  refine l_call0 rfl rfl en102 (trim_any s hs _) (fun _ _ h => ⟨_, h.1⟩) rfl (fun w1 v1 h1 => ?_)
  obtain ⟨h1, hk1⟩ := h1
  cases h1
  have hgr := hk1
  refine l_y (y_assign rfl) rfl ?_
  refine l_nil ?_
  refine g_seq ?_
  refine g_seq ?_
  refine g_reg ?_
  refine l_y (y_move rfl) rfl ?_
  refine l_call0 rfl rfl en63 (filled_any _ (by omega) _) (fun _ _ h => ⟨_, h.1⟩) rfl (fun w2 v2 h2 => ?_)
  obtain ⟨h2, hk2⟩ := h2
  cases h2
  have hgr := hgr.tr hk2
  refine l_y (y_move rfl) rfl ?_
  refine l_y (y_sne' rfl rfl) rfl ?_
  refine l_nil ?_
  refine g_cond rfl (fun hc1 => ?_) (fun hc1 => ?_)
  · exact absurd hp (by simpa using hc1)
  · skip
    replace hc1 := Decidable.not_not.1 (of_decide_eq_false hc1)
    refine g_skip ?_
    refine g_seq ?_
    refine g_reg ?_
    refine l_call0 rfl rfl en64 (sixes_any _) (fun _ _ h => ⟨_, h.1⟩) rfl (fun w3 v3 h3 => ?_)
    obtain ⟨h3, hk3⟩ := h3
    cases h3
    have hgr := hgr.tr hk3
    refine l_y (y_move rfl) rfl ?_
    refine l_call0 rfl rfl en101 (decode_s signs6 6 _ q hR _ (by omega) (by decide) (by decide) rfl) (fun _ _ h => by obtain ⟨v, h, _⟩ := h; exact ⟨_, h⟩) rfl (fun w4 v4 h4 => ?_)
    obtain ⟨x, h4, hown, hk4⟩ := h4
    cases h4
    replace hown := hown.lower hgr.le
    have hgr := hgr.tr hk4
    refine l_y (y_ext rfl rfl) rfl ?_
    refine l_y (y_ext rfl rfl) rfl ?_
    refine l_y (y_assign rfl) rfl ?_
    refine l_y (y_assign rfl) rfl ?_
    refine l_nil ?_
    refine g_ret Tryz.results72 rfl ?_
    exact ⟨_, rfl, hown, hgr⟩

theorem unb_n (s : Bs) (hR : unb s = none) (w : World) (hs : s.length ≤ 1000000) : Calls Tryz.prog 72 #[.string (S s)] w fun e w' => e = .returned (.tuple #[.slice none 0 0, ev (some 1)]) ∧ Gr w w' := by
  unfold unb at hR
  split at hR
  · exact unb_n0 s (by assumption) hR w hs
  · exact unb_pad s (by assumption) w hs
theorem unb_s (s q : Bs) (hR : unb s = some q) (w : World) (hs : s.length ≤ 1000000) : Calls Tryz.prog 72 #[.string (S s)] w fun e w' => ∃ x, e = .returned (.tuple #[x, .nilIface]) ∧ Own w' w.heap.size 5 1 x q.length (q.map bc) ∧ Gr w w' := by
  unfold unb at hR
  split at hR
  · exact unb_s0 s q (by assumption) hR w hs
  · cases hR
theorem clip_any (A : Option Addr) (m c : Nat) (hmc : m ≤ c) (w : World)  : Calls Tryz.prog 100 #[.slice A m c] w fun e w' => e = .returned (.slice A m m) ∧ Gr w w' := by
  refine enter (vs := [.slice A m c]) Tryz.func100 rfl Tryz.ntmps100 rfl ?_
  refine g_seq ?_
  refine g_reg ?_
  refine l_y (y_assign rfl) rfl ?_
  refine l_nil ?_
  refine g_seq ?_
  refine g_reg ?_
  refine l_y (y_move rfl) rfl ?_
  refine l_y (y_move rfl) rfl ?_
  refine l_y (y_llen rfl Tryz.underlying29) rfl ?_
  refine l_y (y_move rfl) rfl ?_
  refine l_y (y_llen rfl Tryz.underlying29) rfl ?_
  refine l_y (y_slhm (i := m) (j := m) rfl rfl rfl Tryz.underlying29 (some_of szT5) rfl (Nat.le_refl _) hmc) rfl ?_
  refine l_y (y_assign rfl) rfl ?_
  refine l_nil ?_
  refine g_ret Tryz.results100 rfl ?_
  exact ⟨rfl, Gr.rf _⟩

theorem exact_n (g : Nat) (hen : Enters Tryz.prog g) (s : Bs) (n : Nat) (hd : ∀ w, Calls Tryz.prog g #[.string (S s)] w fun e w' => e = .returned (.tuple #[.slice none 0 0, ev (some 1)]) ∧ Gr w w') (w : World)  : Calls Tryz.prog 70 #[.func (.func g) #[] #[], .string (S s), .int .i64 n] w fun e w' => e = .returned (.tuple #[.slice none 0 0, ev (some 1)]) ∧ Gr w w' := by
  refine enter (vs := [.func (.func g) #[] #[], .string (S s), .int .i64 n]) Tryz.func70 rfl Tryz.ntmps70 rfl ?_
  refine g_seq ?_
  refine g_reg ?_
  refine l_y (y_assign rfl) rfl ?_
  refine l_y (y_assign rfl) rfl ?_
  refine l_nil ?_
  refine g_seq ?_
  refine g_reg ?_
  refine l_y (y_move rfl) rfl ?_
  refine l_y (y_move rfl) rfl ?_
  refine l_call0 rfl rfl hen (hd _) (fun _ _ h => ⟨_, h.1⟩) rfl (fun w1 v1 h1 => ?_)
  obtain ⟨h1, hk1⟩ := h1
  cases h1
  have hgr := hk1
  refine l_y (y_move rfl) rfl ?_
  refine l_y (y_ext rfl rfl) rfl ?_
  refine l_y (y_ext rfl rfl) rfl ?_
  refine l_y (y_assign rfl) rfl ?_
  refine l_y (y_assign rfl) rfl ?_
  refine l_nil ?_
  refine g_seq ?_
  refine g_seq ?_
  refine g_reg ?_
  refine l_y (y_move rfl) rfl ?_
  refine l_y (y_neni rfl rfl Tryz.underlying31) rfl ?_
  refine l_y (y_move rfl) rfl ?_
  refine l_gf (gd_f0 rfl rfl) rfl ?_
  refine l_gf (gd_f0 rfl rfl) rfl ?_
  refine l_gf (gd_f0 rfl rfl) rfl ?_
  refine l_gf (gd_f0 rfl rfl) rfl ?_
  refine l_y (y_pick rfl rfl rfl) rfl ?_
  refine l_nil ?_
  refine g_true rfl ?_
  refine g_seq ?_
  refine g_reg ?_
  refine l_y (y_mki rfl Tryz.underlying36 rfl) rfl ?_
  refine l_y (y_assign rfl) rfl ?_
  refine l_y (y_assign rfl) rfl ?_
  refine l_nil ?_
  refine g_ret Tryz.results70 rfl ?_
  exact ⟨rfl, hgr⟩

theorem exact_l (g : Nat) (hen : Enters Tryz.prog g) (s : Bs) (n : Nat) (q : Bs) (hd : ∀ w, Calls Tryz.prog g #[.string (S s)] w fun e w' => ∃ x, e = .returned (.tuple #[x, .nilIface]) ∧ Own w' w.heap.size 5 1 x q.length (q.map bc) ∧ Gr w w') (hl : q.length ≠ n) (w : World)  : Calls Tryz.prog 70 #[.func (.func g) #[] #[], .string (S s), .int .i64 n] w fun e w' => e = .returned (.tuple #[.slice none 0 0, ev (some 1)]) ∧ Gr w w' := by
  refine enter (vs := [.func (.func g) #[] #[], .string (S s), .int .i64 n]) Tryz.func70 rfl Tryz.ntmps70 rfl ?_
  refine g_seq ?_
  refine g_reg ?_
  refine l_y (y_assign rfl) rfl ?_
  refine l_y (y_assign rfl) rfl ?_
  refine l_nil ?_
  refine g_seq ?_
  refine g_reg ?_
  refine l_y (y_move rfl) rfl ?_
  refine l_y (y_move rfl) rfl ?_
  refine l_call0 rfl rfl hen (hd _) (fun _ _ h => by obtain ⟨v, h, _⟩ := h; exact ⟨_, h⟩) rfl (fun w1 v1 h1 => ?_)
  obtain ⟨x, h1, hown, hk1⟩ := h1
  cases h1
  have hgr := hk1
  refine l_y (y_move rfl) rfl ?_
  refine l_y (y_ext rfl rfl) rfl ?_
  refine l_y (y_ext rfl rfl) rfl ?_
  refine l_y (y_assign rfl) rfl ?_
  refine l_y (y_assign rfl) rfl ?_
  refine l_nil ?_
  refine g_seq ?_
  refine g_seq ?_
  refine g_reg ?_
  refine l_y (y_move rfl) rfl ?_
  refine l_y (y_nenn rfl rfl Tryz.underlying31) rfl ?_
  refine l_y (y_move rfl) rfl ?_
  refine l_gt (gd_f1 rfl rfl) ?_
  refine l_y (y_move rfl) rfl ?_
  refine l_gt (gd_f1 rfl rfl) ?_
  refine l_y (y_lenv rfl hown.rc.form Tryz.underlying29) rfl ?_
  refine l_gt (gd_f1 rfl rfl) ?_
  refine l_y (y_move rfl) rfl ?_
  refine l_gt (gd_f1 rfl rfl) ?_
  refine l_y (y_neq rfl rfl) rfl ?_
  refine l_y (y_pick rfl rfl rfl) rfl ?_
  refine l_nil ?_
  refine g_cond rfl (fun hc1 => ?_) (fun hc1 => ?_)
  · skip
    try simp only [Bool.and_eq_true, Bool.or_eq_true, Bool.not_eq_true', decide_eq_true_eq, ne_eq, Decidable.not_not] at hc1
    refine g_seq ?_
    refine g_reg ?_
    refine l_y (y_mki rfl Tryz.underlying36 rfl) rfl ?_
    refine l_y (y_assign rfl) rfl ?_
    refine l_y (y_assign rfl) rfl ?_
    refine l_nil ?_
    refine g_ret Tryz.results70 rfl ?_
    exact ⟨rfl, hgr⟩
  · exact absurd hc1 (by simp; omega)

theorem exact_s (g : Nat) (hen : Enters Tryz.prog g) (s : Bs) (n : Nat) (q : Bs) (hd : ∀ w, Calls Tryz.prog g #[.string (S s)] w fun e w' => ∃ x, e = .returned (.tuple #[x, .nilIface]) ∧ Own w' w.heap.size 5 1 x q.length (q.map bc) ∧ Gr w w') (hl : q.length = n) (w : World) (hn : 0 < n) : Calls Tryz.prog 70 #[.func (.func g) #[] #[], .string (S s), .int .i64 n] w fun e w' => ∃ ad, e = .returned (.tuple #[.slice (some ad) n n, .nilIface]) ∧ Rc w' 1 (.slice (some ad) n n) n (q.map bc) ∧ Gr w w' := by
  refine enter (vs := [.func (.func g) #[] #[], .string (S s), .int .i64 n]) Tryz.func70 rfl Tryz.ntmps70 rfl ?_
  refine g_seq ?_
  refine g_reg ?_
  refine l_y (y_assign rfl) rfl ?_
  refine l_y (y_assign rfl) rfl ?_
  refine l_nil ?_
  refine g_seq ?_
  refine g_reg ?_
  refine l_y (y_move rfl) rfl ?_
  refine l_y (y_move rfl) rfl ?_
  refine l_call0 rfl rfl hen (hd _) (fun _ _ h => by obtain ⟨v, h, _⟩ := h; exact ⟨_, h⟩) rfl (fun w1 v1 h1 => ?_)
  obtain ⟨x, h1, hown, hk1⟩ := h1
  cases h1
  have hgr := hk1
  refine l_y (y_move rfl) rfl ?_
  refine l_y (y_ext rfl rfl) rfl ?_
  refine l_y (y_ext rfl rfl) rfl ?_
  refine l_y (y_assign rfl) rfl ?_
  refine l_y (y_assign rfl) rfl ?_
  refine l_nil ?_
  refine g_seq ?_
  refine g_seq ?_
  refine g_reg ?_
  refine l_y (y_move rfl) rfl ?_
  refine l_y (y_nenn rfl rfl Tryz.underlying31) rfl ?_
  refine l_y (y_move rfl) rfl ?_
  refine l_gt (gd_f1 rfl rfl) ?_
  refine l_y (y_move rfl) rfl ?_
  refine l_gt (gd_f1 rfl rfl) ?_
  refine l_y (y_lenv rfl hown.rc.form Tryz.underlying29) rfl ?_
  refine l_gt (gd_f1 rfl rfl) ?_
  refine l_y (y_move rfl) rfl ?_
  refine l_gt (gd_f1 rfl rfl) ?_
  refine l_y (y_neq rfl rfl) rfl ?_
  refine l_y (y_pick rfl rfl rfl) rfl ?_
  refine l_nil ?_
  refine g_cond rfl (fun hc1 => ?_) (fun hc1 => ?_)
  · exact absurd hc1 (by simp; omega)
  · skip
    try simp only [Bool.and_eq_false_iff, Bool.or_eq_false_iff, decide_eq_false_iff_not, Bool.not_eq_false', ne_eq, Decidable.not_not] at hc1
    refine g_skip ?_
    refine g_seq ?_
    have hrc := hown.rc
    obtain ⟨A, c, hx, hmc, _, hr⟩ := hown.rc
    obtain ⟨ad, rfl, _⟩ := hr (by omega)
    subst hx
    subst hl
    refine g_reg ?_
    refine l_y (y_move rfl) rfl ?_
    refine l_call0 rfl rfl en100 (clip_any _ _ _ hmc _) (fun _ _ h => ⟨_, h.1⟩) rfl (fun w2 v2 h2 => ?_)
    obtain ⟨h2, hk2⟩ := h2
    cases h2
    have hrc := hrc.gr hk2
    have hgr := hgr.tr hk2
    refine l_y (y_assign rfl) rfl ?_
    refine l_y (y_assign rfl) rfl ?_
    refine l_nil ?_
    refine g_ret Tryz.results70 rfl ?_
    exact ⟨ad, rfl, by
      have h1 := hrc.take (Nat.le_refl q.length) (Nat.le_refl q.length)
      have e1 : List.take (q.length * 1) (q.map bc) = q.map bc := List.take_of_length_le (by simp)
      rw [e1] at h1
      exact h1, hgr⟩

theorem bytes_one (l : Bs) : (l.map bc).all (·.oneCell') = true := by
  rw [List.all_map]; exact List.all_eq_true.2 fun _ _ => rfl
def zero64 : Bs := List.replicate 64 0
theorem sum_n (s : Bs) (hR : dec figs 4 0 0 s = none) (w : World) (hs : s.length ≤ 1000000) : Calls Tryz.prog 39 #[.string (S s)] w fun e w' => e = .returned (.tuple #[.agg (zero32.map bc).toArray, ev (some 1)]) ∧ Gr w w' := by
  refine enter (vs := [.string (S s)]) Tryz.func39 rfl Tryz.ntmps39 rfl ?_
  refine g_seq ?_
  refine g_reg ?_
  refine l_alloc zT23 rfl (fun w1 g1 hk1 hg1 hB1 => ?_)
  have hl1 : w.heap.size ≤ g1 := hg1
  have hgr := hk1
  refine l_y (y_assign rfl) rfl ?_
  refine l_nil ?_
  refine g_seq ?_
  refine g_reg ?_
  refine l_y (y_move rfl) rfl ?_
  refine l_call0 rfl rfl en70 (exact_n 71 en71 s 32 (fun w => unhex_n s hR w hs) _) (fun _ _ h => ⟨_, h.1⟩) rfl (fun w2 v2 h2 => ?_)
  obtain ⟨h2, hk2⟩ := h2
  cases h2
  have hB1 := hB1.gr hk2
  have hgr := hgr.tr hk2
  refine l_y (y_move rfl) rfl ?_
  refine l_y (y_ext rfl rfl) rfl ?_
  refine l_y (y_ext rfl rfl) rfl ?_
  refine l_y (y_assign rfl) rfl ?_
  refine l_y (y_assign rfl) rfl ?_
  refine l_nil ?_
  refine g_seq ?_
  refine g_seq ?_
  refine g_reg ?_
  refine l_y (y_move rfl) rfl ?_
  refine l_y (y_neni rfl rfl Tryz.underlying31) rfl ?_
  refine l_nil ?_
  refine g_true rfl ?_
  refine g_seq ?_
  refine g_reg ?_
  refine l_y (y_build (v := .agg (zero32.map bc).toArray) rfl (fun _ => by kernel_rfl)) rfl ?_
  refine l_y (y_move rfl) rfl ?_
  refine l_stm (vs := zero32.map bc) rfl rfl hB1 rfl (by decide) (by decide) (by exact szT23) (fun w3 hg3 hs3 hS3 => ?_)
  have hgr0 := hgr
  have hgr : Gr w w3 := hgr.grown hg3 hgr.le (fun k hk => by injection hk with hk; subst hk; exact hl1)
  have hB1 := Blk.whole hS3 (by rfl)
  refine l_y (y_assign rfl) rfl ?_
  refine l_nil ?_
  refine g_ret2 Tryz.results39 rfl (ld_blk hB1 Tryz.underlying23 rfl szT23) rfl ?_
  exact ⟨rfl, hgr⟩

theorem sum_l (s q : Bs) (hR : dec figs 4 0 0 s = some q) (hl : q.length ≠ 32) (w : World) (hs : s.length ≤ 1000000) : Calls Tryz.prog 39 #[.string (S s)] w fun e w' => e = .returned (.tuple #[.agg (zero32.map bc).toArray, ev (some 1)]) ∧ Gr w w' := by
  refine enter (vs := [.string (S s)]) Tryz.func39 rfl Tryz.ntmps39 rfl ?_
  refine g_seq ?_
  refine g_reg ?_
  refine l_alloc zT23 rfl (fun w1 g1 hk1 hg1 hB1 => ?_)
  have hl1 : w.heap.size ≤ g1 := hg1
  have hgr := hk1
  refine l_y (y_assign rfl) rfl ?_
  refine l_nil ?_
  refine g_seq ?_
  refine g_reg ?_
  refine l_y (y_move rfl) rfl ?_
  refine l_call0 rfl rfl en70 (exact_l 71 en71 s 32 q (fun w => unhex_s s q hR w hs) hl _) (fun _ _ h => ⟨_, h.1⟩) rfl (fun w2 v2 h2 => ?_)
  obtain ⟨h2, hk2⟩ := h2
  cases h2
  have hB1 := hB1.gr hk2
  have hgr := hgr.tr hk2
  refine l_y (y_move rfl) rfl ?_
  refine l_y (y_ext rfl rfl) rfl ?_
  refine l_y (y_ext rfl rfl) rfl ?_
  refine l_y (y_assign rfl) rfl ?_
  refine l_y (y_assign rfl) rfl ?_
  refine l_nil ?_
  refine g_seq ?_
  refine g_seq ?_
  refine g_reg ?_
  refine l_y (y_move rfl) rfl ?_
  refine l_y (y_neni rfl rfl Tryz.underlying31) rfl ?_
  refine l_nil ?_
  refine g_true rfl ?_
  refine g_seq ?_
  refine g_reg ?_
  refine l_y (y_build (v := .agg (zero32.map bc).toArray) rfl (fun _ => by kernel_rfl)) rfl ?_
  refine l_y (y_move rfl) rfl ?_
  refine l_stm (vs := zero32.map bc) rfl rfl hB1 rfl (by decide) (by decide) (by exact szT23) (fun w3 hg3 hs3 hS3 => ?_)
  have hgr0 := hgr
  have hgr : Gr w w3 := hgr.grown hg3 hgr.le (fun k hk => by injection hk with hk; subst hk; exact hl1)
  have hB1 := Blk.whole hS3 (by rfl)
  refine l_y (y_assign rfl) rfl ?_
  refine l_nil ?_
  refine g_ret2 Tryz.results39 rfl (ld_blk hB1 Tryz.underlying23 rfl szT23) rfl ?_
  exact ⟨rfl, hgr⟩

theorem sum_s (s q : Bs) (hR : dec figs 4 0 0 s = some q) (hl : q.length = 32) (w : World) (hs : s.length ≤ 1000000) : Calls Tryz.prog 39 #[.string (S s)] w fun e w' => e = .returned (.tuple #[.agg (q.map bc).toArray, .nilIface]) ∧ Gr w w' := by
  refine enter (vs := [.string (S s)]) Tryz.func39 rfl Tryz.ntmps39 rfl ?_
  refine g_seq ?_
  refine g_reg ?_
  refine l_alloc zT23 rfl (fun w1 g1 hk1 hg1 hB1 => ?_)
  have hl1 : w.heap.size ≤ g1 := hg1
  have hgr := hk1
  refine l_y (y_assign rfl) rfl ?_
  refine l_nil ?_
  refine g_seq ?_
  refine g_reg ?_
  refine l_y (y_move rfl) rfl ?_
  refine l_call0 rfl rfl en70 (exact_s 71 en71 s 32 q (fun w => unhex_s s q hR w hs) hl _ (by decide)) (fun _ _ h => by obtain ⟨v, h, _⟩ := h; exact ⟨_, h⟩) rfl (fun w2 v2 h2 => ?_)
  obtain ⟨ad, h2, hrc, hk2⟩ := h2
  cases h2
  have hB1 := hB1.gr hk2
  have hgr := hgr.tr hk2
  refine l_y (y_move rfl) rfl ?_
  refine l_y (y_ext rfl rfl) rfl ?_
  refine l_y (y_ext rfl rfl) rfl ?_
  refine l_y (y_assign rfl) rfl ?_
  refine l_y (y_assign rfl) rfl ?_
  refine l_nil ?_
  refine g_seq ?_
  refine g_seq ?_
  refine g_reg ?_
  refine l_y (y_move rfl) rfl ?_
  refine l_y (y_nenn rfl rfl Tryz.underlying31) rfl ?_
  refine l_nil ?_
  refine g_false rfl ?_
  refine g_skip ?_
  refine g_seq ?_
  refine g_reg ?_
  refine l_y (y_move rfl) rfl ?_
  refine l_y (y_s2a rfl Tryz.underlying23 (by decide)) rfl ?_
  refine l_y (y_lds (cs := q.map bc) rfl Tryz.underlying23 rfl (by rw [szT23]; simp [hl]) (fun w' h j u hu => (hrc.gr (plain_gr _ _ h)).at_ hu)) rfl ?_
  refine l_stm (vs := q.map bc) rfl rfl hB1 rfl (by simp [hl]; decide) (by exact bytes_one q) (by rw [szT23]; simp [hl]) (fun w3 hg3 hs3 hS3 => ?_)
  have hgr0 := hgr
  have hgr : Gr w w3 := hgr.grown hg3 hgr.le (fun k hk => by injection hk with hk; subst hk; exact hl1)
  have hB1 := Blk.whole hS3 (by simp [hl]; rfl)
  refine l_y (y_assign rfl) rfl ?_
  refine l_nil ?_
  refine g_ret2 Tryz.results39 rfl (ld_blk hB1 Tryz.underlying23 rfl (by rw [szT23]; simp [hl])) rfl ?_
  exact ⟨rfl, hgr⟩

theorem wide_n (s : Bs) (hR : unb s = none) (w : World) (hs : s.length ≤ 1000000) : Calls Tryz.prog 40 #[.string (S s)] w fun e w' => e = .returned (.tuple #[.agg (zero64.map bc).toArray, ev (some 1)]) ∧ Gr w w' := by
  refine enter (vs := [.string (S s)]) Tryz.func40 rfl Tryz.ntmps40 rfl ?_
  refine g_seq ?_
  refine g_reg ?_
  refine l_alloc zT25 rfl (fun w1 g1 hk1 hg1 hB1 => ?_)
  have hl1 : w.heap.size ≤ g1 := hg1
  have hgr := hk1
  refine l_y (y_assign rfl) rfl ?_
  refine l_nil ?_
  refine g_seq ?_
  refine g_reg ?_
  refine l_y (y_move rfl) rfl ?_
  refine l_call0 rfl rfl en70 (exact_n 72 en72 s 64 (fun w => unb_n s hR w hs) _) (fun _ _ h => ⟨_, h.1⟩) rfl (fun w2 v2 h2 => ?_)
  obtain ⟨h2, hk2⟩ := h2
  cases h2
  have hB1 := hB1.gr hk2
  have hgr := hgr.tr hk2
  refine l_y (y_move rfl) rfl ?_
  refine l_y (y_ext rfl rfl) rfl ?_
  refine l_y (y_ext rfl rfl) rfl ?_
  refine l_y (y_assign rfl) rfl ?_
  refine l_y (y_assign rfl) rfl ?_
  refine l_nil ?_
  refine g_seq ?_
  refine g_seq ?_
  refine g_reg ?_
  refine l_y (y_move rfl) rfl ?_
  refine l_y (y_neni rfl rfl Tryz.underlying31) rfl ?_
  refine l_nil ?_
  refine g_true rfl ?_
  refine g_seq ?_
  refine g_reg ?_
  refine l_y (y_build (v := .agg (zero64.map bc).toArray) rfl (fun _ => by kernel_rfl)) rfl ?_
  refine l_y (y_move rfl) rfl ?_
  refine l_stm (vs := zero64.map bc) rfl rfl hB1 rfl (by decide) (by decide) (by exact szT25) (fun w3 hg3 hs3 hS3 => ?_)
  have hgr0 := hgr
  have hgr : Gr w w3 := hgr.grown hg3 hgr.le (fun k hk => by injection hk with hk; subst hk; exact hl1)
  have hB1 := Blk.whole hS3 (by rfl)
  refine l_y (y_assign rfl) rfl ?_
  refine l_nil ?_
  refine g_ret2 Tryz.results40 rfl (ld_blk hB1 Tryz.underlying25 rfl szT25) rfl ?_
  exact ⟨rfl, hgr⟩

theorem wide_l (s q : Bs) (hR : unb s = some q) (hl : q.length ≠ 64) (w : World) (hs : s.length ≤ 1000000) : Calls Tryz.prog 40 #[.string (S s)] w fun e w' => e = .returned (.tuple #[.agg (zero64.map bc).toArray, ev (some 1)]) ∧ Gr w w' := by
  refine enter (vs := [.string (S s)]) Tryz.func40 rfl Tryz.ntmps40 rfl ?_
  refine g_seq ?_
  refine g_reg ?_
  refine l_alloc zT25 rfl (fun w1 g1 hk1 hg1 hB1 => ?_)
  have hl1 : w.heap.size ≤ g1 := hg1
  have hgr := hk1
  refine l_y (y_assign rfl) rfl ?_
  refine l_nil ?_
  refine g_seq ?_
  refine g_reg ?_
  refine l_y (y_move rfl) rfl ?_
  refine l_call0 rfl rfl en70 (exact_l 72 en72 s 64 q (fun w => unb_s s q hR w hs) hl _) (fun _ _ h => ⟨_, h.1⟩) rfl (fun w2 v2 h2 => ?_)
  obtain ⟨h2, hk2⟩ := h2
  cases h2
  have hB1 := hB1.gr hk2
  have hgr := hgr.tr hk2
  refine l_y (y_move rfl) rfl ?_
  refine l_y (y_ext rfl rfl) rfl ?_
  refine l_y (y_ext rfl rfl) rfl ?_
  refine l_y (y_assign rfl) rfl ?_
  refine l_y (y_assign rfl) rfl ?_
  refine l_nil ?_
  refine g_seq ?_
  refine g_seq ?_
  refine g_reg ?_
  refine l_y (y_move rfl) rfl ?_
  refine l_y (y_neni rfl rfl Tryz.underlying31) rfl ?_
  refine l_nil ?_
  refine g_true rfl ?_
  refine g_seq ?_
  refine g_reg ?_
  refine l_y (y_build (v := .agg (zero64.map bc).toArray) rfl (fun _ => by kernel_rfl)) rfl ?_
  refine l_y (y_move rfl) rfl ?_
  refine l_stm (vs := zero64.map bc) rfl rfl hB1 rfl (by decide) (by decide) (by exact szT25) (fun w3 hg3 hs3 hS3 => ?_)
  have hgr0 := hgr
  have hgr : Gr w w3 := hgr.grown hg3 hgr.le (fun k hk => by injection hk with hk; subst hk; exact hl1)
  have hB1 := Blk.whole hS3 (by rfl)
  refine l_y (y_assign rfl) rfl ?_
  refine l_nil ?_
  refine g_ret2 Tryz.results40 rfl (ld_blk hB1 Tryz.underlying25 rfl szT25) rfl ?_
  exact ⟨rfl, hgr⟩

theorem wide_s (s q : Bs) (hR : unb s = some q) (hl : q.length = 64) (w : World) (hs : s.length ≤ 1000000) : Calls Tryz.prog 40 #[.string (S s)] w fun e w' => e = .returned (.tuple #[.agg (q.map bc).toArray, .nilIface]) ∧ Gr w w' := by
  refine enter (vs := [.string (S s)]) Tryz.func40 rfl Tryz.ntmps40 rfl ?_
  refine g_seq ?_
  refine g_reg ?_
  refine l_alloc zT25 rfl (fun w1 g1 hk1 hg1 hB1 => ?_)
  have hl1 : w.heap.size ≤ g1 := hg1
  have hgr := hk1
  refine l_y (y_assign rfl) rfl ?_
  refine l_nil ?_
  refine g_seq ?_
  refine g_reg ?_
  refine l_y (y_move rfl) rfl ?_
  refine l_call0 rfl rfl en70 (exact_s 72 en72 s 64 q (fun w => unb_s s q hR w hs) hl _ (by decide)) (fun _ _ h => by obtain ⟨v, h, _⟩ := h; exact ⟨_, h⟩) rfl (fun w2 v2 h2 => ?_)
  obtain ⟨ad, h2, hrc, hk2⟩ := h2
  cases h2
  have hB1 := hB1.gr hk2
  have hgr := hgr.tr hk2
  refine l_y (y_move rfl) rfl ?_
  refine l_y (y_ext rfl rfl) rfl ?_
  refine l_y (y_ext rfl rfl) rfl ?_
  refine l_y (y_assign rfl) rfl ?_
  refine l_y (y_assign rfl) rfl ?_
  refine l_nil ?_
  refine g_seq ?_
  refine g_seq ?_
  refine g_reg ?_
  refine l_y (y_move rfl) rfl ?_
  refine l_y (y_nenn rfl rfl Tryz.underlying31) rfl ?_
  refine l_nil ?_
  refine g_false rfl ?_
  refine g_skip ?_
  refine g_seq ?_
  refine g_reg ?_
  refine l_y (y_move rfl) rfl ?_
  refine l_y (y_s2a rfl Tryz.underlying25 (by decide)) rfl ?_
  refine l_y (y_lds (cs := q.map bc) rfl Tryz.underlying25 rfl (by rw [szT25]; simp [hl]) (fun w' h j u hu => (hrc.gr (plain_gr _ _ h)).at_ hu)) rfl ?_
  refine l_stm (vs := q.map bc) rfl rfl hB1 rfl (by simp [hl]; decide) (by exact bytes_one q) (by rw [szT25]; simp [hl]) (fun w3 hg3 hs3 hS3 => ?_)
  have hgr0 := hgr
  have hgr : Gr w w3 := hgr.grown hg3 hgr.le (fun k hk => by injection hk with hk; subst hk; exact hl1)
  have hB1 := Blk.whole hS3 (by simp [hl]; rfl)
  refine l_y (y_assign rfl) rfl ?_
  refine l_nil ?_
  refine g_ret2 Tryz.results40 rfl (ld_blk hB1 Tryz.underlying25 rfl (by rw [szT25]; simp [hl])) rfl ?_
  exact ⟨rfl, hgr⟩

end Go.Proofs.YtehfgmagmnjffaaGreatDoor.Decode
