/-
  Walks of functions: what each call comes to.
-/
import Derived.Test.YtehfgmagmnjffaaGreatDoorBuild
import Derived.Test.YtehfgmagmnjffaaGreatDoorShelf
import Derived.Test.YtehfgmagmnjffaaGreatDoorAgg
namespace Go.Proofs.YtehfgmagmnjffaaGreatDoor.Coder
open Go Go.RowKit Go.Proofs.YtehfgmagmnjffaaGreatDoor.E Go.Proofs.YtehfgmagmnjffaaGreatDoor.Pl Go.Proofs.YtehfgmagmnjffaaGreatDoor.Build
theorem hmix : Tryz.prog.follows .mixedOrders = true := by kernel_rfl
theorem en60 : Enters Tryz.prog 60 := enters_of Tryz.func60 (by kernel_rfl) rfl
theorem en61 : Enters Tryz.prog 61 := enters_of Tryz.func61 (by kernel_rfl) rfl
theorem en62 : Enters Tryz.prog 62 := enters_of Tryz.func62 (by kernel_rfl) rfl
theorem en63 : Enters Tryz.prog 63 := enters_of Tryz.func63 (by kernel_rfl) rfl
theorem en64 : Enters Tryz.prog 64 := enters_of Tryz.func64 (by kernel_rfl) rfl
theorem en89 : Enters Tryz.prog 89 := enters_of Tryz.func89 (by kernel_rfl) rfl
theorem en90 : Enters Tryz.prog 90 := enters_of Tryz.func90 (by kernel_rfl) rfl
theorem szT5 : (Tryz.prog.info? 5).map (·.size) = some 1 := by kernel_rfl
theorem szT103 : (Tryz.prog.info? 103).map (·.size) = some 2 := by kernel_rfl
theorem zT99 : ∀ w, (zeroValue 99).run Tryz.prog w = .ok (Value.agg (([Value.pointer none] ++ [Value.slice none 0 0])).toArray) w := fun _ => by kernel_rfl
theorem zT103 : ∀ w, (zeroValue 103).run Tryz.prog w = .ok (Value.agg (([Value.string ⟨#[]⟩] ++ [Value.int .i64 0])).toArray) w := fun _ => by kernel_rfl

theorem repeatL61 (c : Nat) : Lib.repeatL [61] c = List.replicate c (61 : UInt8) := by
  induction c with
  | zero => rfl
  | succ c ih => show 61 :: Lib.repeatL [61] c = _; rw [ih, List.replicate_succ]
theorem repeat61 (c : Nat) (hc : c ≤ 3) (w : World) : Calls Tryz.prog 90 #[.string ⟨#[61]⟩, .int .i64 (c : Nat)] w fun e w' => e = .returned (.string (S (List.replicate c 61))) ∧ Gr w w' :=
  (Tryz.strings_Repeat ⟨#[61]⟩ c w (by omega) (by simp [ByteArray.size]; omega)).mono fun e w' h => ⟨h.1.trans (by show Ending.returned (.string ⟨(Lib.repeatL [61] c).toArray⟩) = _; rw [repeatL61]), h.2⟩
theorem code_any (sg : Bs) (B : Nat) (v : Value) (s : Bs) (w : World) (hv : Rc w 1 v s.length (s.map bc)) (hs : s.length ≤ 1000000) (hB0 : 0 < B) (hB6 : B ≤ 6) (hsg : sg.length = 2 ^ B) (he : (enc sg B 0 0 s).length ≤ 100000000) : Calls Tryz.prog 62 #[.agg #[.string (S sg), .int .i64 (B : Nat)], v] w fun e w' => e = .returned (.string (S (enc sg B 0 0 s))) ∧ Gr w w' := by
  refine enter (vs := [.agg #[.string (S sg), .int .i64 (B : Nat)], v]) Tryz.func62 rfl Tryz.ntmps62 rfl ?_
  refine g_seq ?_
  refine g_reg ?_
  refine l_box rfl rfl (fun w1 g1 hk1 hg1 hB1 => ?_)
  have hl1 : w.heap.size ≤ g1 := hg1
  have hgr := hk1
  have hA := hB1
  replace hv := hv.gr hk1
  have hg01 := hk1
  refine l_y (y_assign rfl) rfl ?_
  refine l_nil ?_
  refine g_seq ?_
  refine g_reg ?_
  refine l_alloc zT99 rfl (fun w2 g2 hk2 hg2 hB2 => ?_)
  have hl2 : w.heap.size ≤ g2 := Nat.le_trans hgr.le hg2
  have hn_g1_g2 : g1 ≠ g2 := by have := hB1.lt; omega
  have hB1 := hB1.gr hk2
  have hgr := hgr.tr hk2
  have hgr := hk2
  have hbl : Lib.IsBuilder 99 5 w1.heap.size g2 [] w2 := .inl ⟨hg2, .slice none 0 0, hB2, World.ownsRow_nil _ _ _ _, by simp [Value.ownBlock]⟩
  refine l_nil ?_
  refine g_seq ?_
  refine g_reg ?_
  refine l_y (y_assign rfl) rfl ?_
  refine l_y (y_assign rfl) rfl ?_
  refine l_nil ?_
  refine g_seq ?_
  refine g_seq ?_
  refine g_reg ?_
  refine l_y (y_move rfl) rfl ?_
  refine l_y (y_lenv rfl hv.form Tryz.underlying29) rfl ?_
  refine l_y (y_move rfl) rfl ?_
  refine l_nil ?_
  refine g_block ?_
  refine g_loop (σ := Nat × Nat × Nat × Bs) (fun p => s.length - p.1) (fun p => [(2, .pointer (some ⟨g1, 0, none⟩)), (5, .pointer (some ⟨g2, 0, none⟩)), (6, .int .i64 p.2.1), (7, .int .i64 p.2.2.1), (10, v), (11, .int .i64 s.length), (12, .int .i64 p.1)]) (fun p w' => p.1 ≤ s.length ∧ p.2.1 < 2 ^ p.2.2.1 ∧ p.2.2.1 < B ∧ p.2.2.2 ++ enc sg B p.2.1 p.2.2.1 (s.drop p.1) = enc sg B 0 0 s ∧ Lib.IsBuilder 99 5 w1.heap.size g2 (p.2.2.2.map bc) w' ∧ Gr w1 w') (0, 0, 0, []) ⟨Nat.zero_le _, by decide, by omega, by simp, hbl, hgr⟩ ⟨rfl, rfl, rfl, rfl, rfl, rfl, rfl, trivial⟩ ?_
  rintro ⟨k, vv, h, o⟩ w' ⟨hk, hvv, hh, heq, hbl, hgr⟩
  dsimp only at hk hvv hh heq hbl hgr ⊢
  refine g_seq ?_
  refine g_reg ?_
  refine l_y (y_lss rfl rfl) rfl ?_
  refine l_nil ?_
  refine g_seq ?_
  refine g_cond rfl (fun hc1 => ?_) (fun hc1 => ?_)
  · skip
    replace hc1 := of_decide_eq_true hc1
    refine g_skip ?_
    refine g_seq ?_
    refine g_block ?_
    refine g_seq ?_
    obtain ⟨c, hc⟩ := get_some s (k := k) (by omega)
    have hc8 := c.toNat_lt
    have hcl : (s.map bc)[(k : Int).toNat * 1]? = some (bc c) := by simp [hc]
    have hdrop : s.drop k = c :: s.drop (k + 1) := List.drop_eq_getElem?_toList_append (l := s) (i := k) |>.trans (by rw [hc]; rfl)
    have h64 := pow_le_64 5 (h := h) (by omega)
    refine g_reg ?_
    refine l_y (y_ia rfl rfl (hv.gr hgr) Tryz.underlying29 szT5 (by omega) (by omega)) rfl ?_
    refine l_y (y_ld rfl Tryz.underlying5 rfl (fun w' h => (hv.gr (hgr.tr (plain_gr _ _ h))).at_ hcl)) rfl ?_
    refine l_y (y_assign rfl) rfl ?_
    refine l_nil ?_
    refine g_seq ?_
    refine g_reg ?_
    refine l_y (y_move rfl) rfl ?_
    refine l_y (y_shlN (b := 8) rfl rfl (by decide) (by omega)) rfl ?_
    refine l_y (y_move rfl) rfl ?_
    refine l_y (y_convN rfl Tryz.underlying5 Tryz.underlying3 (by simp only [IntKind.wrap_i64]; omega)) rfl ?_
    refine l_y (y_orN (a := vv * 2 ^ 8) (b := c.toNat) rfl rfl (by omega) (by omega)) rfl ?_
    refine l_y (y_move rfl) rfl ?_
    refine l_y (y_addN rfl rfl (by omega)) rfl ?_
    refine l_y (y_assign rfl) rfl ?_
    refine l_y (y_assign rfl) rfl ?_
    refine l_nil ?_
    refine g_block ?_
    refine g_loop (σ := Nat × Nat × Bs) (fun p => p.2.1) (fun p => [(2, .pointer (some ⟨g1, 0, none⟩)), (5, .pointer (some ⟨g2, 0, none⟩)), (6, .int .i64 p.1), (7, .int .i64 p.2.1), (10, v), (11, .int .i64 s.length), (12, .int .i64 k)]) (fun p w' => p.1 < 2 ^ p.2.1 ∧ p.2.1 < B + 8 ∧ p.2.2 ++ ((drn sg B p.1 p.2.1).1 ++ enc sg B (drn sg B p.1 p.2.1).2.1 (drn sg B p.1 p.2.1).2.2 (s.drop (k + 1))) = enc sg B 0 0 s ∧ Lib.IsBuilder 99 5 w1.heap.size g2 (p.2.2.map bc) w' ∧ Gr w1 w') (vv * 2 ^ 8 ||| c.toNat, h + 8, o) ⟨by rw [or_byte hc8]; show _ < 2 ^ (h + 8); rw [Nat.pow_add]; omega, by show h + 8 < B + 8; omega, by rw [or_byte hc8, ← heq, hdrop]; rfl, hbl, hgr⟩ ⟨rfl, rfl, rfl, rfl, rfl, rfl, rfl, trivial⟩ ?_
    rintro ⟨vv2, h2, o2⟩ w'' ⟨hvv2, hh2, heq2, hbl2, hgr2⟩
    dsimp only at hvv2 hh2 heq2 hbl2 hgr2 ⊢
    have hgr := hgr2
    have h64 := pow_le_64 14 (h := h2) (by omega)
    refine g_seq ?_
    refine g_seq ?_
    refine g_reg ?_
    refine l_y (y_move rfl) rfl ?_
    refine l_y (y_fa (v := .pointer (some ⟨g1, 1, none⟩)) rfl (fun _ => by kernel_rfl)) rfl ?_
    refine l_y (y_ldb rfl (hA.gr hgr) (plain_gr _) Tryz.underlying3 rfl rfl) rfl ?_
    refine l_y (y_geq rfl rfl) rfl ?_
    refine l_nil ?_
    refine g_cond rfl (fun hc2 => ?_) (fun hc2 => ?_)
    · skip
      replace hc2 := of_decide_eq_true hc2
      refine g_skip ?_
      refine g_block ?_
      refine g_seq ?_
      refine g_reg ?_
      refine l_y (y_move rfl) rfl ?_
      refine l_y (y_fa (v := .pointer (some ⟨g1, 1, none⟩)) rfl (fun _ => by kernel_rfl)) rfl ?_
      refine l_y (y_ldb rfl (hA.gr hgr) (plain_gr _) Tryz.underlying3 rfl rfl) rfl ?_
      refine l_y (y_subM rfl rfl (by omega) (by omega)) rfl ?_
      refine l_y (y_assign rfl) rfl ?_
      refine l_nil ?_
      refine g_seq ?_
      have etn : ((vv2 : Int) / 2 ^ (h2 - B)).toNat = vv2 / 2 ^ (h2 - B) := by rw [show ((vv2 : Int) / 2 ^ (h2 - B)) = ((vv2 / 2 ^ (h2 - B) : Nat) : Int) from by simp, Int.toNat_natCast]
      have hidx := div_pow_lt hvv2 (B := B) (by omega)
      refine g_draw (fun _ b => Gr w1 b) hmix (fun w3 hk3 he3 => ?_)
      have hbl2 := hbl2.gr hk3
      have hgr := hgr.tr hk3
      have hq := hgr
      refine h_take 0 rfl (by kernel_rfl) (y_fa (v := .pointer (some ⟨g1, 0, none⟩)) rfl (fun _ => by kernel_rfl)) rfl hq ?_
      refine h_take 1 rfl (by kernel_rfl) (y_ldb rfl hA (fun _ h => h) Tryz.underlying9 rfl rfl) rfl hq ?_
      refine h_take 2 rfl (by kernel_rfl) (y_move rfl) rfl hq ?_
      refine h_take 3 rfl (by kernel_rfl) (y_move rfl) rfl hq ?_
      refine h_take 4 rfl (by kernel_rfl) (y_shrN rfl rfl (by omega)) rfl hq ?_
      refine h_take 5 rfl (by kernel_rfl) (y_sidx rfl rfl Tryz.underlying9 (Int.natCast_nonneg _) (get_getD sg (by rw [Int.toNat_natCast]; omega))) rfl hq ?_
      refine h_call0 6 rfl (by kernel_rfl) rfl rfl en89 (wb_any _ g2 _ _ _ hbl2 (by have := congrArg List.length heq2; simp at this ⊢; omega) hgr.le) (fun _ _ h => ⟨_, h.1⟩) rfl hq (fun w4 v4 h4 => ?_)
      obtain ⟨h4, hbl3, hbw⟩ := h4
      cases h4
      rw [Int.toNat_natCast] at hbl3
      replace hgr : Gr w1 w4 := Below.trans hgr hbw
      have hq := hgr
      refine h_done (by kernel_rfl) hq ?_
      refine g_reg ?_
      refine l_y (y_move rfl) rfl ?_
      refine l_y (y_move rfl) rfl ?_
      refine l_y (y_shlN (a := 1) (b := h2 - B) rfl rfl (by omega) (by have := pow_le_64 14 (h := h2 - B) (by omega); omega)) rfl ?_
      refine l_y (y_subM (a := 1 * 2 ^ (h2 - B)) (b := 1) rfl rfl (by have := Nat.two_pow_pos (h2 - B); omega) (by have := pow_le_64 14 (h := h2 - B) (by omega); omega)) rfl ?_
      refine l_y (y_andN (a := vv2) (b := 1 * 2 ^ (h2 - B) - 1) rfl rfl (by omega) (by have := pow_le_64 14 (h := h2 - B) (by omega); omega)) rfl ?_
      refine l_y (y_assign rfl) rfl ?_
      refine l_nil ?_
      refine g_blk ?_
      exact g_lp fun a ha => ⟨(vv2 &&& (1 * 2 ^ (h2 - B) - 1), h2 - B, o2 ++ [sg.getD (vv2 / 2 ^ (h2 - B)) 0]), by show h2 - B < h2; omega, ha.sub ⟨rfl, rfl, rfl, rfl, rfl, rfl, rfl, trivial⟩, by rw [Nat.one_mul, Nat.and_two_pow_sub_one_eq_mod]; exact Nat.mod_lt _ (Nat.two_pow_pos _), by show h2 - B < B + 8; omega, by rw [Nat.one_mul, Nat.and_two_pow_sub_one_eq_mod, ← heq2, drn_ge (v := vv2) hB0 (by omega)]; simp, by simpa using hbl3, hgr⟩
    · skip
      replace hc2 := of_decide_eq_false hc2
      refine g_exit rfl ?_
      refine g_blk ?_
      rw [drn_lt (by omega)] at heq2
      refine g_reg ?_
      refine l_y (y_addN rfl rfl (by omega)) rfl ?_
      refine l_y (y_move rfl) rfl ?_
      refine l_nil ?_
      exact g_lp fun a ha => ⟨(k + 1, vv2, h2, o2), by show s.length - (k + 1) < s.length - k; omega, ha.sub ⟨rfl, rfl, rfl, rfl, rfl, rfl, rfl, trivial⟩, by show k + 1 ≤ _; omega, hvv2, by show h2 < B; omega, by simpa using heq2, hbl2, hgr⟩
  · skip
    replace hc1 := of_decide_eq_false hc1
    refine g_exit rfl ?_
    refine g_seq ?_
    refine g_seq ?_
    rw [List.drop_of_length_le (by omega)] at heq
    refine g_reg ?_
    refine l_y (y_move rfl) rfl ?_
    refine l_y (y_gtr rfl rfl) rfl ?_
    refine l_nil ?_
    refine g_cond rfl (fun hc3 => ?_) (fun hc3 => ?_)
    · skip
      replace hc3 := of_decide_eq_true hc3
      have etn2 : ((vv : Int) * 2 ^ (B - h)).toNat = vv * 2 ^ (B - h) := by rw [show ((vv : Int) * 2 ^ (B - h)) = ((vv * 2 ^ (B - h) : Nat) : Int) from by simp, Int.toNat_natCast]
      have h64 := pow_le_64 6 (h := B) (by omega)
      have hidx : vv * 2 ^ (B - h) < 2 ^ B := by
        have := Nat.mul_lt_mul_of_pos_right hvv (Nat.two_pow_pos (B - h))
        rwa [← Nat.pow_add, show h + (B - h) = B from by omega] at this
      refine g_draw (fun _ b => Gr w1 b) hmix (fun w5 hk5 he5 => ?_)
      have hbl := hbl.gr hk5
      have hgr := hgr.tr hk5
      have hq := hgr
      refine h_take 0 rfl (by kernel_rfl) (y_fa (v := .pointer (some ⟨g1, 0, none⟩)) rfl (fun _ => by kernel_rfl)) rfl hq ?_
      refine h_take 1 rfl (by kernel_rfl) (y_ldb rfl hA (fun _ h => h) Tryz.underlying9 rfl rfl) rfl hq ?_
      refine h_take 2 rfl (by kernel_rfl) (y_move rfl) rfl hq ?_
      refine h_take 3 rfl (by kernel_rfl) (y_fa (v := .pointer (some ⟨g1, 1, none⟩)) rfl (fun _ => by kernel_rfl)) rfl hq ?_
      refine h_take 4 rfl (by kernel_rfl) (y_ldb rfl hA (fun _ h => h) Tryz.underlying3 rfl rfl) rfl hq ?_
      refine h_take 5 rfl (by kernel_rfl) (y_move rfl) rfl hq ?_
      refine h_take 6 rfl (by kernel_rfl) (y_subM rfl rfl (by omega) (by omega)) rfl hq ?_
      refine h_take 7 rfl (by kernel_rfl) (y_shlN (a := vv) (b := B - h) rfl rfl (by omega) (by omega)) rfl hq ?_
      refine h_take 8 rfl (by kernel_rfl) (y_sidx rfl rfl Tryz.underlying9 (Int.natCast_nonneg _) (get_getD sg (by rw [Int.toNat_natCast]; omega))) rfl hq ?_
      refine h_call0 9 rfl (by kernel_rfl) rfl rfl en89 (wb_any _ g2 _ _ _ hbl (by have := congrArg List.length heq; simp at this ⊢; omega) hgr.le) (fun _ _ h => ⟨_, h.1⟩) rfl hq (fun w6 v6 h6 => ?_)
      obtain ⟨h6, hbl4, hbw⟩ := h6
      cases h6
      replace hgr : Gr w1 w6 := Below.trans hgr hbw
      replace hbl : Lib.IsBuilder 99 5 w1.heap.size g2 ((enc sg B 0 0 s).map bc) w6 := by
        rw [← heq]
        simpa [enc, show 0 < h from by omega, etn2] using hbl4
      have hq := hgr
      refine h_done (by kernel_rfl) hq ?_
      refine g_seq ?_
      refine g_reg ?_
      refine l_call0 rfl rfl en60 (Tryz.Builder_String_any _ g2 _ _ hbl hgr.le) (fun _ _ h => ⟨_, h.1⟩) rfl (fun w7 v7 h7 => ?_)
      obtain ⟨h7, hbw⟩ := h7
      cases h7
      replace hgr : Gr w1 w7 := Below.trans hgr hbw
      refine l_y (y_assign rfl) rfl ?_
      refine l_nil ?_
      refine g_ret Tryz.results62 rfl ?_
      exact ⟨rfl, hg01.tr hgr⟩
    · replace hbl : Lib.IsBuilder 99 5 w1.heap.size g2 ((enc sg B 0 0 s).map bc) w' := by
          have h0 : h = 0 := by simp at hc3; omega
          rw [← heq]
          simpa [enc, h0] using hbl
      refine g_skip ?_
      refine g_seq ?_
      refine g_reg ?_
      refine l_call0 rfl rfl en60 (Tryz.Builder_String_any _ g2 _ _ hbl hgr.le) (fun _ _ h => ⟨_, h.1⟩) rfl (fun w8 v8 h8 => ?_)
      obtain ⟨h8, hbw⟩ := h8
      cases h8
      replace hgr : Gr w1 w8 := Below.trans hgr hbw
      refine l_y (y_assign rfl) rfl ?_
      refine l_nil ?_
      refine g_ret Tryz.results62 rfl ?_
      exact ⟨rfl, hg01.tr hgr⟩

theorem hexes_any  (w : World)  : Calls Tryz.prog 61 #[] w fun e w' => e = .returned (.agg #[.string (S figs), .int .i64 4]) ∧ Gr w w' := by
  refine enter (vs := []) Tryz.func61 rfl Tryz.ntmps61 rfl ?_
  refine g_seq ?_
  refine g_reg ?_
  refine l_alloc zT103 rfl (fun w1 g1 hk1 hg1 hB1 => ?_)
  have hl1 : w.heap.size ≤ g1 := hg1
  have hgr := hk1
  refine l_nil ?_
  refine g_seq ?_
  refine g_reg ?_
  refine l_y (y_build (v := .agg #[.string (S figs), .int .i64 4]) rfl (fun _ => by kernel_rfl)) rfl ?_
  refine l_stm (vs := [.string (S figs), .int .i64 4]) rfl rfl hB1 rfl (by decide) (by rfl) (by exact szT103) (fun w2 hg2 hs2 hS2 => ?_)
  have hgr0 := hgr
  have hgr : Gr w w2 := hgr.grown hg2 hgr.le (fun k hk => by injection hk with hk; subst hk; exact hl1)
  have hB1 := hS2
  refine l_nil ?_
  refine g_ret1 Tryz.results61 rfl (ld_blk hB1 Tryz.underlying103 rfl szT103) ?_
  exact ⟨rfl, hgr⟩

theorem sixes_any  (w : World)  : Calls Tryz.prog 64 #[] w fun e w' => e = .returned (.agg #[.string (S signs6), .int .i64 6]) ∧ Gr w w' := by
  refine enter (vs := []) Tryz.func64 rfl Tryz.ntmps64 rfl ?_
  refine g_seq ?_
  refine g_reg ?_
  refine l_alloc zT103 rfl (fun w1 g1 hk1 hg1 hB1 => ?_)
  have hl1 : w.heap.size ≤ g1 := hg1
  have hgr := hk1
  refine l_nil ?_
  refine g_seq ?_
  refine g_reg ?_
  refine l_y (y_build (v := .agg #[.string (S signs6), .int .i64 6]) rfl (fun _ => by kernel_rfl)) rfl ?_
  refine l_stm (vs := [.string (S signs6), .int .i64 6]) rfl rfl hB1 rfl (by decide) (by rfl) (by exact szT103) (fun w2 hg2 hs2 hS2 => ?_)
  have hgr0 := hgr
  have hgr : Gr w w2 := hgr.grown hg2 hgr.le (fun k hk => by injection hk with hk; subst hk; exact hl1)
  have hB1 := hS2
  refine l_nil ?_
  refine g_ret1 Tryz.results64 rfl (ld_blk hB1 Tryz.underlying103 rfl szT103) ?_
  exact ⟨rfl, hgr⟩

theorem filled_any (s : Bs) (hs : s.length ≤ 100000000) (w : World)  : Calls Tryz.prog 63 #[.string (S s)] w fun e w' => e = .returned (.string (S (s ++ List.replicate ((4 - s.length % 4) % 4) 61))) ∧ Gr w w' := by
  refine enter (vs := [.string (S s)]) Tryz.func63 rfl Tryz.ntmps63 rfl ?_
  refine g_seq ?_
  refine g_reg ?_
  refine l_y (y_assign rfl) rfl ?_
  refine l_nil ?_
  refine g_seq ?_
  refine g_reg ?_
  refine l_y (y_move rfl) rfl ?_
  refine l_y (y_move rfl) rfl ?_
  refine l_y (y_slen rfl Tryz.underlying9) rfl ?_
  refine l_y (y_remN rfl rfl (by omega) (by omega)) rfl ?_
  refine l_y (y_subN rfl rfl (by omega)) rfl ?_
  refine l_y (y_as (v' := .int .i64 (((4 - s.length % 4) % 4 : Nat) : Int)) (y_remN rfl rfl (by omega) (by omega)) (by congr 1; omega)) rfl ?_
  refine l_call0 rfl rfl en90 (repeat61 _ (by omega) _) (fun _ _ h => ⟨_, h.1⟩) rfl (fun w1 v1 h1 => ?_)
  obtain ⟨h1, hk1⟩ := h1
  cases h1
  have hgr := hk1
  refine l_y (y_cat' rfl rfl (by simp; omega)) rfl ?_
  refine l_y (y_assign rfl) rfl ?_
  refine l_nil ?_
  refine g_ret Tryz.results63 rfl ?_
  exact ⟨rfl, hgr⟩

theorem hex_any (v : Value) (s : Bs) (w : World) (hv : Rc w 1 v s.length (s.map bc)) (hs : s.length ≤ 1000000) : Calls Tryz.prog 29 #[v] w fun e w' => e = .returned (.string (S (hex s))) ∧ Gr w w' := by
  refine enter (vs := [v]) Tryz.func29 rfl Tryz.ntmps29 rfl ?_
  refine g_seq ?_
  refine g_reg ?_
  refine l_y (y_assign rfl) rfl ?_
  refine l_nil ?_
  refine g_seq ?_
  refine g_reg ?_
  refine l_call0 rfl rfl en61 (hexes_any _) (fun _ _ h => ⟨_, h.1⟩) rfl (fun w1 v1 h1 => ?_)
  obtain ⟨h1, hk1⟩ := h1
  cases h1
  have hgr := hk1
  refine l_y (y_move rfl) rfl ?_
  refine l_call0 rfl rfl en62 (code_any figs 4 v s _ (hv.gr hgr) hs (by decide) (by decide) rfl (by rw [enc_hex, hex_length]; omega)) (fun _ _ h => ⟨_, h.1⟩) rfl (fun w2 v2 h2 => ?_)
  obtain ⟨h2, hk2⟩ := h2
  cases h2
  have hgr := hgr.tr hk2
  refine l_y (y_assign rfl) rfl ?_
  refine l_nil ?_
  refine g_ret Tryz.results29 rfl ?_
  exact ⟨by rw [enc_hex], hgr⟩

theorem base64_any (v : Value) (s : Bs) (w : World) (hv : Rc w 1 v s.length (s.map bc)) (hs : s.length ≤ 1000000) : Calls Tryz.prog 30 #[v] w fun e w' => e = .returned (.string (S (b64 s))) ∧ Gr w w' := by
  refine enter (vs := [v]) Tryz.func30 rfl Tryz.ntmps30 rfl ?_
  refine g_seq ?_
  refine g_reg ?_
  refine l_y (y_assign rfl) rfl ?_
  refine l_nil ?_
  refine g_seq ?_
  refine g_reg ?_
  refine l_call0 rfl rfl en64 (sixes_any _) (fun _ _ h => ⟨_, h.1⟩) rfl (fun w1 v1 h1 => ?_)
  obtain ⟨h1, hk1⟩ := h1
  cases h1
  have hgr := hk1
  refine l_y (y_move rfl) rfl ?_
  refine l_call0 rfl rfl en62 (code_any signs6 6 v s _ (hv.gr hgr) hs (by decide) (by decide) rfl (by rw [enc_b64]; have := b64r_length s; omega)) (fun _ _ h => ⟨_, h.1⟩) rfl (fun w2 v2 h2 => ?_)
  obtain ⟨h2, hk2⟩ := h2
  cases h2
  have hgr := hgr.tr hk2
  refine l_call0 rfl rfl en63 (filled_any _ (by rw [enc_b64]; have := b64r_length s; omega) _) (fun _ _ h => ⟨_, h.1⟩) rfl (fun w3 v3 h3 => ?_)
  obtain ⟨h3, hk3⟩ := h3
  cases h3
  have hgr := hgr.tr hk3
  refine l_y (y_assign rfl) rfl ?_
  refine l_nil ?_
  refine g_ret Tryz.results30 rfl ?_
  exact ⟨by rw [b64_fill, enc_b64], hgr⟩

end Go.Proofs.YtehfgmagmnjffaaGreatDoor.Coder
