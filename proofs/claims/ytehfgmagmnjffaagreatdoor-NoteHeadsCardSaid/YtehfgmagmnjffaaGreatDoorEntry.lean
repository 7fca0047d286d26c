/-
  Walks of functions: what each call comes to.
-/
import Derived.Test.YtehfgmagmnjffaaGreatDoorName
import Derived.Test.YtehfgmagmnjffaaGreatDoorCoder
namespace Go.Proofs.YtehfgmagmnjffaaGreatDoor.Entry
open Go Go.RowKit Go.Proofs.YtehfgmagmnjffaaGreatDoor.E Go.Proofs.YtehfgmagmnjffaaGreatDoor.Pl Go.Proofs.YtehfgmagmnjffaaGreatDoor.Name Go.Proofs.YtehfgmagmnjffaaGreatDoor.Coder
theorem hmix : Tryz.prog.follows .mixedOrders = true := by kernel_rfl
theorem en29 : Enters Tryz.prog 29 := enters_of Tryz.func29 (by kernel_rfl) rfl
theorem en41 : Enters Tryz.prog 41 := enters_of Tryz.func41 (by kernel_rfl) rfl
theorem en172 : Enters Tryz.prog 172 := enters_of Tryz.func172 (by kernel_rfl) rfl
theorem en173 : Enters Tryz.prog 173 := enters_of Tryz.func173 (by kernel_rfl) rfl
theorem en174 : Enters Tryz.prog 174 := enters_of Tryz.func174 (by kernel_rfl) rfl
theorem szT3 : (Tryz.prog.info? 3).map (·.size) = some 1 := by kernel_rfl
theorem szT5 : (Tryz.prog.info? 5).map (·.size) = some 1 := by kernel_rfl
theorem szT9 : (Tryz.prog.info? 9).map (·.size) = some 1 := by kernel_rfl
theorem szT23 : (Tryz.prog.info? 23).map (·.size) = some 32 := by kernel_rfl
theorem szT131 : (Tryz.prog.info? 131).map (·.size) = some 32 := by kernel_rfl
theorem szT133 : (Tryz.prog.info? 133).map (·.size) = some 97 := by kernel_rfl
theorem szT136 : (Tryz.prog.info? 136).map (·.size) = some 70 := by kernel_rfl
theorem zT133 : ∀ w, (zeroValue 133).run Tryz.prog w = .ok (Value.agg (([Value.string ⟨#[]⟩] ++ (List.replicate 32 (Value.int .u8 0)) ++ (List.replicate 64 (Value.int .u8 0)))).toArray) w := fun _ => by kernel_rfl
theorem zT136 : ∀ w, (zeroValue 136).run Tryz.prog w = .ok (Value.agg (([Value.int .i64 0] ++ (List.replicate 32 (Value.int .u8 0)) ++ [Value.string ⟨#[]⟩] ++ [Value.slice none 0 0] ++ [Value.int .i64 0] ++ [Value.string ⟨#[]⟩] ++ (List.replicate 32 (Value.int .u8 0)) ++ [Value.slice none 0 0])).toArray) w := fun _ => by kernel_rfl

theorem eqSum : Tryz.prog.eqGuardType Tryz.prog.depth 23 = false ∧ flat Tryz.prog 6 23 = some (List.replicate 32 (Ck.i .u8)) ∧ Tryz.prog.cellsOf 23 = (List.replicate 32 (Ck.i .u8)).length := ⟨by kernel_rfl, by kernel_rfl, by kernel_rfl⟩
theorem eqKey : Tryz.prog.eqGuardType Tryz.prog.depth 131 = false ∧ flat Tryz.prog 6 131 = some (List.replicate 32 (Ck.i .u8)) ∧ Tryz.prog.cellsOf 131 = (List.replicate 32 (Ck.i .u8)).length := ⟨by kernel_rfl, by kernel_rfl, by kernel_rfl⟩
theorem eqSg : Tryz.prog.eqGuardType Tryz.prog.depth 133 = false ∧ flat Tryz.prog 6 133 = some (Sg.ks) ∧ Tryz.prog.cellsOf 133 = (Sg.ks).length := ⟨by kernel_rfl, by kernel_rfl, by kernel_rfl⟩
theorem signer_any (s : Sg) (w : World)  : Calls Tryz.prog 173 #[s.val] w fun e w' => e = .returned (.string (S s.by_)) ∧ Gr w w' := by
  refine enter (vs := [s.val]) Tryz.func173 rfl Tryz.ntmps173 rfl ?_
  refine g_seq ?_
  refine g_reg ?_
  refine l_box rfl rfl (fun w1 g1 hk1 hg1 hB1 => ?_)
  have hl1 : w.heap.size ≤ g1 := hg1
  have hgr := hk1
  refine l_y (y_assign rfl) rfl ?_
  refine l_nil ?_
  refine g_seq ?_
  refine g_seq ?_
  refine g_reg ?_
  refine l_y (y_fa (v := .pointer (some ⟨g1, 0, none⟩)) rfl (fun _ => by kernel_rfl)) rfl ?_
  refine l_y (y_ldb rfl hB1 (plain_gr _) Tryz.underlying9 rfl s.at0) rfl ?_
  refine l_y (y_sne' rfl rfl) rfl ?_
  refine l_nil ?_
  refine g_cond rfl (fun hc1 => ?_) (fun hc1 => ?_)
  · skip
    refine g_seq ?_
    refine g_reg ?_
    refine l_y (y_fa (v := .pointer (some ⟨g1, 0, none⟩)) rfl (fun _ => by kernel_rfl)) rfl ?_
    refine l_y (y_ldb rfl hB1 (plain_gr _) Tryz.underlying9 rfl s.at0) rfl ?_
    refine l_y (y_assign rfl) rfl ?_
    refine l_nil ?_
    refine g_ret Tryz.results173 rfl ?_
    exact ⟨by simp at hc1; simp [Sg.by_, hc1], hgr⟩
  · skip
    replace hc1 := Decidable.not_not.1 (of_decide_eq_false hc1)
    refine g_skip ?_
    refine g_seq ?_
    refine g_reg ?_
    refine l_y (y_fa (v := .pointer (some ⟨g1, 1, none⟩)) rfl (fun _ => by kernel_rfl)) rfl ?_
    refine l_y (y_arr rfl Tryz.underlying131 (some_of szT5)) rfl ?_
    refine l_call0 rfl rfl en29 (hex_any _ s.key _ (Sg.rcKey hB1) (by have := s.hk; omega)) (fun _ _ h => ⟨_, h.1⟩) rfl (fun w2 v2 h2 => ?_)
    obtain ⟨h2, hk2⟩ := h2
    cases h2
    have hB1 := hB1.gr hk2
    have hgr := hgr.tr hk2
    refine l_y (y_cat' rfl rfl (by have := hex_length s.key; have := s.hk; simp; omega)) rfl ?_
    refine l_y (y_assign rfl) rfl ?_
    refine l_nil ?_
    refine g_ret Tryz.results173 rfl ?_
    exact ⟨by simp [Sg.by_, hc1], hgr⟩

def sigsOk (l : List Sg) : Bool := signedF [] l && (decide (1 ≤ l.length) && decide (l.length ≤ 8))
theorem get_sg (l : List Sg) {k : Nat} (h : k < l.length) : ∃ s, l[k]? = some s ∧ l.drop k = s :: l.drop (k + 1) := by
  refine ⟨l[k], List.getElem?_eq_getElem h, ?_⟩
  exact List.drop_eq_getElem_cons h
theorem signed_any (v : Value) (l : List Sg) (w : World) (hv : Rc w 97 v l.length (l.flatMap Sg.cells)) (hs : l.length ≤ 1000000) : Calls Tryz.prog 121 #[v] w fun e w' => e = .returned (.bool (sigsOk l)) ∧ Gr w w' := by
  refine enter (vs := [v]) Tryz.func121 rfl Tryz.ntmps121 rfl ?_
  refine g_seq ?_
  refine g_reg ?_
  refine l_y (y_assign rfl) rfl ?_
  refine l_nil ?_
  refine g_seq ?_
  refine g_reg ?_
  refine l_y (y_assign rfl) rfl ?_
  refine l_nil ?_
  refine g_seq ?_
  refine g_seq ?_
  refine g_reg ?_
  refine l_y (y_move rfl) rfl ?_
  refine l_y (y_lenv rfl hv.form Tryz.underlying134) rfl ?_
  refine l_y (y_move rfl) rfl ?_
  refine l_nil ?_
  refine g_block ?_
  refine g_loop (σ := Nat × Bs) (fun p => l.length - p.1) (fun p => [(0, v), (3, .string (S p.2)), (7, v), (8, .int .i64 l.length), (9, .int .i64 p.1)]) (fun p w' => p.1 ≤ l.length ∧ signedF [] l = signedF p.2 (l.drop p.1) ∧ Gr w w') (0, []) ⟨Nat.zero_le _, rfl, Gr.rf _⟩ ⟨rfl, rfl, rfl, rfl, rfl, trivial⟩ ?_
  rintro ⟨k, last⟩ w' ⟨hk, heq, hgr⟩
  dsimp only at hk heq hgr ⊢
  refine g_seq ?_
  refine g_reg ?_
  refine l_y (y_lss rfl rfl) rfl ?_
  refine l_nil ?_
  refine g_seq ?_
  refine g_cond rfl (fun hc1 => ?_) (fun hc1 => ?_)
  · skip
    replace hc1 := of_decide_eq_true hc1
    refine g_skip ?_
    refine g_seq ?_
    refine g_block ?_
    refine g_seq ?_
    obtain ⟨s, hsk, hdrop⟩ := get_sg l (k := k) (by omega)
    rw [hdrop] at heq
    refine g_reg ?_
    refine l_y (y_ia rfl rfl (hv.gr hgr) Tryz.underlying134 szT133 (by omega) (by omega)) rfl ?_
    refine l_y (y_lds (cs := s.cells) rfl Tryz.underlying133 rfl (by rw [szT133, s.len]) (fun w' h => (hv.gr (hgr.tr (plain_gr _ _ h))).elem Sg.len hsk)) rfl ?_
    refine l_alloc zT133 rfl (fun w1 g1 hk1 hg1 hB1 => ?_)
    have hl1 : w.heap.size ≤ g1 := Nat.le_trans hgr.le hg1
    have hgr := hgr.tr hk1
    refine l_stm (vs := s.cells) rfl rfl hB1 rfl (by rw [s.len]; decide) (by exact s.one) (by rw [szT133, s.len]) (fun w2 hg2 hs2 hS2 => ?_)
    have hgr0 := hgr
    have hgr : Gr w w2 := hgr.grown hg2 hgr.le (fun k hk => by injection hk with hk; subst hk; exact hl1)
    have hB1 := Blk.whole hS2 (by rw [s.len]; rfl)
    refine l_nil ?_
    refine g_seq ?_
    refine g_reg ?_
    refine l_y (y_ldbs (o := 0) (vs := s.cells) rfl hB1 (plain_gr _) Tryz.underlying133 rfl (by rw [szT133, s.len]) (fun j v hj => by simpa using hj)) rfl ?_
    refine l_call0 rfl rfl en173 (signer_any s _) (fun _ _ h => ⟨_, h.1⟩) rfl (fun w3 v3 h3 => ?_)
    obtain ⟨h3, hk3⟩ := h3
    cases h3
    have hB1 := hB1.gr hk3
    have hgr := hgr.tr hk3
    refine l_y (y_assign rfl) rfl ?_
    refine l_nil ?_
    refine g_seq ?_
    refine g_seq ?_
    refine g_reg ?_
    refine l_y (y_move rfl) rfl ?_
    refine l_y (y_move rfl) rfl ?_
    refine l_y (y_as (v' := .bool (leB s.by_ last)) (y_sle rfl rfl) (by simp [leB, S_toList])) rfl ?_
    refine l_y (y_move rfl) rfl ?_
    refine l_g (gd_f rfl rfl) (fun hc => y_fa (v := .pointer (some ⟨g1, 0, none⟩)) rfl (fun _ => by kernel_rfl)) rfl ?_
    refine l_g (gd_f rfl rfl) (fun hc => y_ldb (og rfl hc) hB1 (plain_gr _) Tryz.underlying9 rfl s.at0) rfl ?_
    refine l_g (gd_f rfl rfl) (fun hc => y_sne' (og rfl hc) rfl) rfl ?_
    refine l_g (gd_f rfl rfl) (fun hc => y_move (og rfl hc)) rfl ?_
    refine l_g (gd_tg rfl rfl) (fun hc => y_fa (v := .pointer (some ⟨g1, 0, none⟩)) rfl (fun _ => by kernel_rfl)) rfl ?_
    refine l_g (gd_tg rfl rfl) (fun hc => y_ldb (og rfl hc) hB1 (plain_gr _) Tryz.underlying9 rfl s.at0) rfl ?_
    refine l_gcall (gd_tg rfl rfl) rfl (fun hc => opvs1 (og rfl hc)) en172 (fun hc => namedP_any s.id _) rfl (fun w4 hk4 => ?_)
    have hB1 := hB1.gr hk4
    have hgr := hgr.tr hk4
    refine l_g (gd_tg rfl rfl) (fun hc => y_not (og rfl hc)) rfl ?_
    refine l_g (gd_tg rfl rfl) (fun hc => y_move (og rfl hc)) rfl ?_
    refine l_g (gd_fg rfl rfl) (fun hc => y_fa (v := .pointer (some ⟨g1, 1, none⟩)) rfl (fun _ => by kernel_rfl)) rfl ?_
    refine l_g (gd_fg rfl rfl) (fun hc => y_ldbs (o := 1) (vs := s.key.map bc) (og rfl hc) hB1 (plain_gr _) Tryz.underlying131 rfl (by rw [szT131]; simp [s.hk]) s.atKey) rfl ?_
    refine l_g (gd_fg rfl rfl) (fun hc => y_build (v := .agg (zero32.map bc).toArray) rfl (fun _ => by kernel_rfl)) rfl ?_
    refine l_g (gd_fg rfl rfl) (fun hc => y_neA (xs := s.key.map bc) (ys := zero32.map bc) (og rfl hc) (og rfl hc) eqKey.1 eqKey.2.1 (by decide) eqKey.2.2 Tryz.underlying131 rfl (fits_bc _ s.hk) (fits_bc _ rfl) (b := decide (s.key = zero32)) (by rw [decide_eq_true_iff]; exact ⟨fun h => by rw [h], bc_inj⟩)) rfl ?_
    refine l_g (gd_tg rfl rfl) (fun hc => y_por (og rfl hc) rfl (fun h => i2 hc (nt h))) rfl ?_
    refine l_g (gd_f rfl rfl) (fun hc => y_pand (og rfl hc) rfl (fun h => i2 hc h)) rfl ?_
    refine l_y (y_por rfl rfl (fun h => nt h)) rfl ?_
    refine l_nil ?_
    refine g_cond rfl (fun hc2 => ?_) (fun hc2 => ?_)
    · have hbad : s.bad last = true := by rw [← hc2]; simp [Sg.bad]
      refine g_seq ?_
      refine g_reg ?_
      refine l_y (y_assign rfl) rfl ?_
      refine l_nil ?_
      refine g_ret Tryz.results121 rfl ?_
      exact ⟨by simp [sigsOk, heq, signedF, hbad], hgr⟩
    · have hbad : s.bad last = false := by rw [← hc2]; simp [Sg.bad]
      refine g_skip ?_
      refine g_reg ?_
      refine l_y (y_move rfl) rfl ?_
      refine l_y (y_assign rfl) rfl ?_
      refine l_nil ?_
      refine g_blk ?_
      refine g_reg ?_
      refine l_y (y_addN rfl rfl (by omega)) rfl ?_
      refine l_y (y_move rfl) rfl ?_
      refine l_nil ?_
      exact g_lp fun a ha => ⟨(k + 1, s.by_), by show l.length - (k + 1) < l.length - k; omega, ha.sub ⟨rfl, rfl, rfl, rfl, rfl, trivial⟩, by show k + 1 ≤ _; omega, by rw [heq]; simp [signedF, hbad], hgr⟩
  · skip
    replace hc1 := of_decide_eq_false hc1
    refine g_exit rfl ?_
    refine g_seq ?_
    refine g_reg ?_
    refine l_y (y_move rfl) rfl ?_
    refine l_y (y_lenv rfl hv.form Tryz.underlying134) rfl ?_
    refine l_y (y_geq rfl rfl) rfl ?_
    refine l_y (y_move rfl) rfl ?_
    refine l_g (gd_t rfl rfl) (fun hc => y_move rfl) rfl ?_
    refine l_g (gd_t rfl rfl) (fun hc => y_lenv (og rfl hc) hv.form Tryz.underlying134) rfl ?_
    refine l_g (gd_t rfl rfl) (fun hc => y_leq (og rfl hc) rfl) rfl ?_
    refine l_y (y_pand rfl rfl (fun h => h)) rfl ?_
    refine l_y (y_assign rfl) rfl ?_
    refine l_nil ?_
    refine g_ret Tryz.results121 rfl ?_
    exact ⟨by rw [List.drop_of_length_le (by omega)] at heq; simp only [sigsOk, heq, signedF, Bool.true_and]; congr 2; rw [Bool.eq_iff_iff]; simp; omega, hgr⟩

theorem eqb_any (v u : Value) (s s' : Bs) (w : World) (hv : Rc w 1 v s.length (s.map bc)) (hu : Rc w 1 u s'.length (s'.map bc)) (hs : s.length ≤ 1000000) : Calls Tryz.prog 41 #[v, u] w fun e w' => e = .returned (.bool (decide (s = s'))) ∧ Gr w w' := by
  refine enter (vs := [v, u]) Tryz.func41 rfl Tryz.ntmps41 rfl ?_
  refine g_seq ?_
  refine g_reg ?_
  refine l_y (y_assign rfl) rfl ?_
  refine l_nil ?_
  refine g_seq ?_
  refine g_seq ?_
  refine g_reg ?_
  refine l_y (y_move rfl) rfl ?_
  refine l_y (y_lenv rfl hv.form Tryz.underlying29) rfl ?_
  refine l_y (y_move rfl) rfl ?_
  refine l_y (y_lenv rfl hu.form Tryz.underlying29) rfl ?_
  refine l_y (y_neq rfl rfl) rfl ?_
  refine l_nil ?_
  refine g_cond rfl (fun hc1 => ?_) (fun hc1 => ?_)
  · skip
    replace hc1 := of_decide_eq_true hc1
    refine g_seq ?_
    refine g_reg ?_
    refine l_y (y_assign rfl) rfl ?_
    refine l_nil ?_
    refine g_ret Tryz.results41 rfl ?_
    exact ⟨by rw [decide_eq_false (fun h => by rw [h] at hc1; exact hc1 rfl)], Gr.rf _⟩
  · skip
    replace hc1 := Decidable.not_not.1 (of_decide_eq_false hc1)
    refine g_skip ?_
    refine g_seq ?_
    refine g_seq ?_
    refine g_reg ?_
    refine l_y (y_move rfl) rfl ?_
    refine l_y (y_lenv rfl hv.form Tryz.underlying29) rfl ?_
    refine l_y (y_move rfl) rfl ?_
    refine l_nil ?_
    refine g_block ?_
    refine g_loop (σ := Nat) (fun k => s.length - k) (fun k => [(0, v), (1, u), (12, .int .i64 s.length), (13, .int .i64 k)]) (fun k w' => k ≤ s.length ∧ s.take k = s'.take k ∧ Gr w w') 0 ⟨Nat.zero_le _, rfl, Gr.rf _⟩ ⟨rfl, rfl, rfl, rfl, trivial⟩ ?_
    rintro k w' ⟨hk, heq, hgr⟩
    refine g_seq ?_
    refine g_reg ?_
    refine l_y (y_lss rfl rfl) rfl ?_
    refine l_nil ?_
    refine g_seq ?_
    refine g_cond rfl (fun hc2 => ?_) (fun hc2 => ?_)
    · skip
      replace hc2 := of_decide_eq_true hc2
      refine g_skip ?_
      refine g_seq ?_
      refine g_block ?_
      refine g_seq ?_
      refine g_reg ?_
      refine l_y (y_move rfl) rfl ?_
      refine l_y (y_assign rfl) rfl ?_
      refine l_nil ?_
      refine g_seq ?_
      have hll : s.length = s'.length := by omega
      have hks : k < s.length := by omega
      have hks' : k < s'.length := by omega
      obtain ⟨x, hx⟩ := get_some s hks
      obtain ⟨y, hy⟩ := get_some s' hks'
      refine g_draw (fun _ b => Gr w b) hmix (fun w1 hk1 he1 => ?_)
      have hgr := hgr.tr hk1
      have hq := hgr
      refine h_take 0 rfl (by kernel_rfl) (y_move rfl) rfl hq ?_
      refine h_take 1 rfl (by kernel_rfl) (y_move rfl) rfl hq ?_
      refine h_take 2 rfl (by kernel_rfl) (y_ia rfl rfl (hv.gr hgr) Tryz.underlying29 szT5 (by omega) (by omega)) rfl hq ?_
      refine h_take 3 rfl (by kernel_rfl) (y_ld rfl Tryz.underlying5 rfl (fun w' h => (hv.gr h).at_ (by rw [show (k : Int).toNat * 1 = k from by simp, List.getElem?_map, hx]; rfl))) rfl hq ?_
      refine h_take 4 rfl (by kernel_rfl) (y_move rfl) rfl hq ?_
      refine h_take 5 rfl (by kernel_rfl) (y_move rfl) rfl hq ?_
      refine h_take 6 rfl (by kernel_rfl) (y_ia rfl rfl (hu.gr hgr) Tryz.underlying29 szT5 (by omega) (by omega)) rfl hq ?_
      refine h_take 7 rfl (by kernel_rfl) (y_ld rfl Tryz.underlying5 rfl (fun w' h => (hu.gr h).at_ (by rw [show (k : Int).toNat * 1 = k from by simp, List.getElem?_map, hy]; rfl))) rfl hq ?_
      refine h_take 8 rfl (by kernel_rfl) (y_as (v' := .bool (!decide (x = y))) (y_neq rfl rfl) (by congr 1; rw [Bool.eq_iff_iff]; simp [← UInt8.toNat_inj]; omega)) rfl hq ?_
      refine h_done (by kernel_rfl) hq ?_
      refine g_cond rfl (fun hc3 => ?_) (fun hc3 => ?_)
      · have hxy : ¬ x = y := by simpa using hc3
        refine g_seq ?_
        refine g_reg ?_
        refine l_y (y_assign rfl) rfl ?_
        refine l_nil ?_
        refine g_ret Tryz.results41 rfl ?_
        exact ⟨by rw [decide_eq_false (fun h => hxy (by rw [h] at hx; exact Option.some.inj (hx.symm.trans hy)))], hgr⟩
      · have hxy : x = y := by simpa using hc3
        refine g_skip ?_
        refine g_blk ?_
        refine g_reg ?_
        refine l_y (y_addN rfl rfl (by omega)) rfl ?_
        refine l_y (y_move rfl) rfl ?_
        refine l_nil ?_
        exact g_lp fun a ha => ⟨k + 1, by omega, ha.sub ⟨rfl, rfl, rfl, rfl, trivial⟩, by omega, by rw [List.take_add_one, List.take_add_one, heq, hx, hy, hxy], hgr⟩
    · skip
      replace hc2 := of_decide_eq_false hc2
      refine g_exit rfl ?_
      refine g_seq ?_
      refine g_reg ?_
      refine l_y (y_assign rfl) rfl ?_
      refine l_nil ?_
      refine g_ret Tryz.results41 rfl ?_
      exact ⟨by rw [decide_eq_true (by rw [List.take_of_length_le (by omega), List.take_of_length_le (by omega)] at heq; exact heq)], hgr⟩

theorem eqs_any (v u : Value) (s s' : List Sg) (w : World) (hv : Rc w 97 v s.length (s.flatMap Sg.cells)) (hu : Rc w 97 u s'.length (s'.flatMap Sg.cells)) (hs : s.length ≤ 1000000) : Calls Tryz.prog 174 #[v, u] w fun e w' => e = .returned (.bool (decide (s = s'))) ∧ Gr w w' := by
  refine enter (vs := [v, u]) Tryz.func174 rfl Tryz.ntmps174 rfl ?_
  refine g_seq ?_
  refine g_reg ?_
  refine l_y (y_assign rfl) rfl ?_
  refine l_nil ?_
  refine g_seq ?_
  refine g_seq ?_
  refine g_reg ?_
  refine l_y (y_move rfl) rfl ?_
  refine l_y (y_lenv rfl hv.form Tryz.underlying134) rfl ?_
  refine l_y (y_move rfl) rfl ?_
  refine l_y (y_lenv rfl hu.form Tryz.underlying134) rfl ?_
  refine l_y (y_neq rfl rfl) rfl ?_
  refine l_nil ?_
  refine g_cond rfl (fun hc1 => ?_) (fun hc1 => ?_)
  · skip
    replace hc1 := of_decide_eq_true hc1
    refine g_seq ?_
    refine g_reg ?_
    refine l_y (y_assign rfl) rfl ?_
    refine l_nil ?_
    refine g_ret Tryz.results174 rfl ?_
    exact ⟨by rw [decide_eq_false (fun h => by rw [h] at hc1; exact hc1 rfl)], Gr.rf _⟩
  · skip
    replace hc1 := Decidable.not_not.1 (of_decide_eq_false hc1)
    refine g_skip ?_
    refine g_seq ?_
    refine g_seq ?_
    refine g_reg ?_
    refine l_y (y_move rfl) rfl ?_
    refine l_y (y_lenv rfl hv.form Tryz.underlying134) rfl ?_
    refine l_y (y_move rfl) rfl ?_
    refine l_nil ?_
    refine g_block ?_
    refine g_loop (σ := Nat) (fun k => s.length - k) (fun k => [(0, v), (1, u), (12, .int .i64 s.length), (13, .int .i64 k)]) (fun k w' => k ≤ s.length ∧ s.take k = s'.take k ∧ Gr w w') 0 ⟨Nat.zero_le _, rfl, Gr.rf _⟩ ⟨rfl, rfl, rfl, rfl, trivial⟩ ?_
    rintro k w' ⟨hk, heq, hgr⟩
    refine g_seq ?_
    refine g_reg ?_
    refine l_y (y_lss rfl rfl) rfl ?_
    refine l_nil ?_
    refine g_seq ?_
    refine g_cond rfl (fun hc2 => ?_) (fun hc2 => ?_)
    · skip
      replace hc2 := of_decide_eq_true hc2
      refine g_skip ?_
      refine g_seq ?_
      refine g_block ?_
      refine g_seq ?_
      refine g_reg ?_
      refine l_y (y_move rfl) rfl ?_
      refine l_y (y_assign rfl) rfl ?_
      refine l_nil ?_
      refine g_seq ?_
      have hll : s.length = s'.length := by omega
      have hks : k < s.length := by omega
      have hks' : k < s'.length := by omega
      obtain ⟨x, hx, _⟩ := get_sg s hks
      obtain ⟨y, hy, _⟩ := get_sg s' hks'
      refine g_draw (fun _ b => Gr w b) hmix (fun w1 hk1 he1 => ?_)
      have hgr := hgr.tr hk1
      have hq := hgr
      refine h_take 0 rfl (by kernel_rfl) (y_move rfl) rfl hq ?_
      refine h_take 1 rfl (by kernel_rfl) (y_move rfl) rfl hq ?_
      refine h_take 2 rfl (by kernel_rfl) (y_ia rfl rfl (hv.gr hgr) Tryz.underlying134 szT133 (by omega) (by omega)) rfl hq ?_
      refine h_take 3 rfl (by kernel_rfl) (y_lds (cs := x.cells) rfl Tryz.underlying133 rfl (by rw [szT133, Sg.len]) (fun w' h => (hv.gr h).elem Sg.len hx)) rfl hq ?_
      refine h_take 4 rfl (by kernel_rfl) (y_move rfl) rfl hq ?_
      refine h_take 5 rfl (by kernel_rfl) (y_move rfl) rfl hq ?_
      refine h_take 6 rfl (by kernel_rfl) (y_ia rfl rfl (hu.gr hgr) Tryz.underlying134 szT133 (by omega) (by omega)) rfl hq ?_
      refine h_take 7 rfl (by kernel_rfl) (y_lds (cs := y.cells) rfl Tryz.underlying133 rfl (by rw [szT133, Sg.len]) (fun w' h => (hu.gr h).elem Sg.len hy)) rfl hq ?_
      refine h_take 8 rfl (by kernel_rfl) (y_neA (xs := x.cells) (ys := y.cells) rfl rfl eqSg.1 eqSg.2.1 (by decide) eqSg.2.2 Tryz.underlying133 rfl (x.fits) (y.fits) (b := decide (x = y)) (by rw [decide_eq_true_iff]; exact ⟨fun h => by rw [h], Sg.cells_inj⟩)) rfl hq ?_
      refine h_done (by kernel_rfl) hq ?_
      refine g_cond rfl (fun hc3 => ?_) (fun hc3 => ?_)
      · have hxy : ¬ x = y := by simpa using hc3
        refine g_seq ?_
        refine g_reg ?_
        refine l_y (y_assign rfl) rfl ?_
        refine l_nil ?_
        refine g_ret Tryz.results174 rfl ?_
        exact ⟨by rw [decide_eq_false (fun h => hxy (by rw [h] at hx; exact Option.some.inj (hx.symm.trans hy)))], hgr⟩
      · have hxy : x = y := by simpa using hc3
        refine g_skip ?_
        refine g_blk ?_
        refine g_reg ?_
        refine l_y (y_addN rfl rfl (by omega)) rfl ?_
        refine l_y (y_move rfl) rfl ?_
        refine l_nil ?_
        exact g_lp fun a ha => ⟨k + 1, by omega, ha.sub ⟨rfl, rfl, rfl, rfl, trivial⟩, by omega, by rw [List.take_add_one, List.take_add_one, heq, hx, hy, hxy], hgr⟩
    · skip
      replace hc2 := of_decide_eq_false hc2
      refine g_exit rfl ?_
      refine g_seq ?_
      refine g_reg ?_
      refine l_y (y_assign rfl) rfl ?_
      refine l_nil ?_
      refine g_ret Tryz.results174 rfl ?_
      exact ⟨by rw [decide_eq_true (by rw [List.take_of_length_le (by omega), List.take_of_length_le (by omega)] at heq; exact heq)], hgr⟩

def _root_.Go.Proofs.YtehfgmagmnjffaaGreatDoor.Pl.En.same (a b : En) (p q : Bs) (l m : List Sg) : Bool := decide (a.kind = b.kind) && decide (a.dig = b.dig) && decide (a.typ = b.typ) && decide (p = q) && decide (a.op = b.op) && decide (a.id = b.id) && decide (a.key = b.key) && decide (l = m)
theorem equal_any (a b : En) (p q : Bs) (l m : List Sg) (w : World) (hp : Rc w 1 a.pay p.length (p.map bc)) (hq : Rc w 1 b.pay q.length (q.map bc)) (hl : Rc w 97 a.sigs l.length (l.flatMap Sg.cells)) (hm : Rc w 97 b.sigs m.length (m.flatMap Sg.cells)) (hpl : p.length ≤ 1000000) (hll : l.length ≤ 1000000) : Calls Tryz.prog 122 #[a.val, b.val] w fun e w' => e = .returned (.bool (a.same b p q l m)) ∧ Gr w w' := by
  refine enter (vs := [a.val, b.val]) Tryz.func122 rfl Tryz.ntmps122 rfl ?_
  refine g_seq ?_
  refine g_reg ?_
  refine l_box rfl rfl (fun w1 g1 hk1 hg1 hB1 => ?_)
  have hl1 : w.heap.size ≤ g1 := hg1
  have hgr := hk1
  refine l_box rfl rfl (fun w2 g2 hk2 hg2 hB2 => ?_)
  have hl2 : w.heap.size ≤ g2 := Nat.le_trans hgr.le hg2
  have hn_g1_g2 : g1 ≠ g2 := by have := hB1.lt; omega
  have hB1 := hB1.gr hk2
  have hgr := hgr.tr hk2
  refine l_y (y_assign rfl) rfl ?_
  refine l_nil ?_
  refine g_seq ?_
  refine g_reg ?_
  refine l_y (y_fa (v := .pointer (some ⟨g1, 0, none⟩)) rfl (fun _ => by kernel_rfl)) rfl ?_
  refine l_y (y_ldb rfl hB1 (plain_gr _) Tryz.underlying3 rfl a.at0) rfl ?_
  refine l_y (y_fa (v := .pointer (some ⟨g2, 0, none⟩)) rfl (fun _ => by kernel_rfl)) rfl ?_
  refine l_y (y_ldb rfl hB2 (plain_gr _) Tryz.underlying3 rfl b.at0) rfl ?_
  refine l_y (y_eql rfl rfl) rfl ?_
  refine l_y (y_move rfl) rfl ?_
  refine l_g (gd_t rfl rfl) (fun hc => y_fa (v := .pointer (some ⟨g1, 1, none⟩)) rfl (fun _ => by kernel_rfl)) rfl ?_
  refine l_g (gd_t rfl rfl) (fun hc => y_ldbs (o := 1) (vs := a.dig.map bc) (og rfl hc) hB1 (plain_gr _) Tryz.underlying23 rfl (by rw [szT23]; simp [a.hd]) a.atDig) rfl ?_
  refine l_g (gd_t rfl rfl) (fun hc => y_fa (v := .pointer (some ⟨g2, 1, none⟩)) rfl (fun _ => by kernel_rfl)) rfl ?_
  refine l_g (gd_t rfl rfl) (fun hc => y_ldbs (o := 1) (vs := b.dig.map bc) (og rfl hc) hB2 (plain_gr _) Tryz.underlying23 rfl (by rw [szT23]; simp [b.hd]) b.atDig) rfl ?_
  refine l_g (gd_t rfl rfl) (fun hc => y_eqA (xs := a.dig.map bc) (ys := b.dig.map bc) (og rfl hc) (og rfl hc) eqSum.1 eqSum.2.1 (by decide) eqSum.2.2 Tryz.underlying23 rfl (fits_bc _ a.hd) (fits_bc _ b.hd) (b := decide (a.dig = b.dig)) (by rw [decide_eq_true_iff]; exact ⟨fun h => by rw [h], bc_inj⟩)) rfl ?_
  refine l_y (y_pand rfl rfl (fun h => h)) rfl ?_
  refine l_y (y_move rfl) rfl ?_
  refine l_g (gd_t rfl rfl) (fun hc => y_fa (v := .pointer (some ⟨g1, 33, none⟩)) rfl (fun _ => by kernel_rfl)) rfl ?_
  refine l_g (gd_t rfl rfl) (fun hc => y_ldb (og rfl hc) hB1 (plain_gr _) Tryz.underlying9 rfl a.at33) rfl ?_
  refine l_g (gd_t rfl rfl) (fun hc => y_fa (v := .pointer (some ⟨g2, 33, none⟩)) rfl (fun _ => by kernel_rfl)) rfl ?_
  refine l_g (gd_t rfl rfl) (fun hc => y_ldb (og rfl hc) hB2 (plain_gr _) Tryz.underlying9 rfl b.at33) rfl ?_
  refine l_g (gd_t rfl rfl) (fun hc => y_seq' (og rfl hc) (og rfl hc)) rfl ?_
  refine l_y (y_pand rfl rfl (fun h => h)) rfl ?_
  refine l_y (y_move rfl) rfl ?_
  refine l_g (gd_t rfl rfl) (fun hc => y_fa (v := .pointer (some ⟨g1, 34, none⟩)) rfl (fun _ => by kernel_rfl)) rfl ?_
  refine l_g (gd_t rfl rfl) (fun hc => y_ldb (og rfl hc) hB1 (plain_gr _) Tryz.underlying29 rfl a.at34) rfl ?_
  refine l_g (gd_t rfl rfl) (fun hc => y_fa (v := .pointer (some ⟨g2, 34, none⟩)) rfl (fun _ => by kernel_rfl)) rfl ?_
  refine l_g (gd_t rfl rfl) (fun hc => y_ldb (og rfl hc) hB2 (plain_gr _) Tryz.underlying29 rfl b.at34) rfl ?_
  refine l_gcall (gd_t rfl rfl) rfl (fun hc => opvs2 (og rfl hc) (og rfl hc)) en41 (fun hc => eqb_any _ _ p q _ (hp.gr hgr) (hq.gr hgr) hpl) rfl (fun w3 hk3 => ?_)
  have hB1 := hB1.gr hk3
  have hB2 := hB2.gr hk3
  have hgr := hgr.tr hk3
  refine l_y (y_pand rfl rfl (fun h => h)) rfl ?_
  refine l_y (y_move rfl) rfl ?_
  refine l_g (gd_t rfl rfl) (fun hc => y_fa (v := .pointer (some ⟨g1, 35, none⟩)) rfl (fun _ => by kernel_rfl)) rfl ?_
  refine l_g (gd_t rfl rfl) (fun hc => y_ldb (og rfl hc) hB1 (plain_gr _) Tryz.underlying3 rfl a.at35) rfl ?_
  refine l_g (gd_t rfl rfl) (fun hc => y_fa (v := .pointer (some ⟨g2, 35, none⟩)) rfl (fun _ => by kernel_rfl)) rfl ?_
  refine l_g (gd_t rfl rfl) (fun hc => y_ldb (og rfl hc) hB2 (plain_gr _) Tryz.underlying3 rfl b.at35) rfl ?_
  refine l_g (gd_t rfl rfl) (fun hc => y_eql (og rfl hc) (og rfl hc)) rfl ?_
  refine l_y (y_pand rfl rfl (fun h => h)) rfl ?_
  refine l_y (y_move rfl) rfl ?_
  refine l_g (gd_t rfl rfl) (fun hc => y_fa (v := .pointer (some ⟨g1, 36, none⟩)) rfl (fun _ => by kernel_rfl)) rfl ?_
  refine l_g (gd_t rfl rfl) (fun hc => y_ldb (og rfl hc) hB1 (plain_gr _) Tryz.underlying9 rfl a.at36) rfl ?_
  refine l_g (gd_t rfl rfl) (fun hc => y_fa (v := .pointer (some ⟨g2, 36, none⟩)) rfl (fun _ => by kernel_rfl)) rfl ?_
  refine l_g (gd_t rfl rfl) (fun hc => y_ldb (og rfl hc) hB2 (plain_gr _) Tryz.underlying9 rfl b.at36) rfl ?_
  refine l_g (gd_t rfl rfl) (fun hc => y_seq' (og rfl hc) (og rfl hc)) rfl ?_
  refine l_y (y_pand rfl rfl (fun h => h)) rfl ?_
  refine l_y (y_move rfl) rfl ?_
  refine l_g (gd_t rfl rfl) (fun hc => y_fa (v := .pointer (some ⟨g1, 37, none⟩)) rfl (fun _ => by kernel_rfl)) rfl ?_
  refine l_g (gd_t rfl rfl) (fun hc => y_ldbs (o := 37) (vs := a.key.map bc) (og rfl hc) hB1 (plain_gr _) Tryz.underlying131 rfl (by rw [szT131]; simp [a.hk]) a.atKey) rfl ?_
  refine l_g (gd_t rfl rfl) (fun hc => y_fa (v := .pointer (some ⟨g2, 37, none⟩)) rfl (fun _ => by kernel_rfl)) rfl ?_
  refine l_g (gd_t rfl rfl) (fun hc => y_ldbs (o := 37) (vs := b.key.map bc) (og rfl hc) hB2 (plain_gr _) Tryz.underlying131 rfl (by rw [szT131]; simp [b.hk]) b.atKey) rfl ?_
  refine l_g (gd_t rfl rfl) (fun hc => y_eqA (xs := a.key.map bc) (ys := b.key.map bc) (og rfl hc) (og rfl hc) eqKey.1 eqKey.2.1 (by decide) eqKey.2.2 Tryz.underlying131 rfl (fits_bc _ a.hk) (fits_bc _ b.hk) (b := decide (a.key = b.key)) (by rw [decide_eq_true_iff]; exact ⟨fun h => by rw [h], bc_inj⟩)) rfl ?_
  refine l_y (y_pand rfl rfl (fun h => h)) rfl ?_
  refine l_y (y_move rfl) rfl ?_
  refine l_g (gd_t rfl rfl) (fun hc => y_fa (v := .pointer (some ⟨g1, 69, none⟩)) rfl (fun _ => by kernel_rfl)) rfl ?_
  refine l_g (gd_t rfl rfl) (fun hc => y_ldb (og rfl hc) hB1 (plain_gr _) Tryz.underlying134 rfl a.at69) rfl ?_
  refine l_g (gd_t rfl rfl) (fun hc => y_fa (v := .pointer (some ⟨g2, 69, none⟩)) rfl (fun _ => by kernel_rfl)) rfl ?_
  refine l_g (gd_t rfl rfl) (fun hc => y_ldb (og rfl hc) hB2 (plain_gr _) Tryz.underlying134 rfl b.at69) rfl ?_
  refine l_gcall (gd_t rfl rfl) rfl (fun hc => opvs2 (og rfl hc) (og rfl hc)) en174 (fun hc => eqs_any _ _ l m _ (hl.gr hgr) (hm.gr hgr) hll) rfl (fun w4 hk4 => ?_)
  have hB1 := hB1.gr hk4
  have hB2 := hB2.gr hk4
  have hgr := hgr.tr hk4
  refine l_y (y_pand rfl rfl (fun h => h)) rfl ?_
  refine l_y (y_assign rfl) rfl ?_
  refine l_nil ?_
  refine g_ret Tryz.results122 rfl ?_
  exact ⟨rfl, hgr⟩

theorem bytes_one (l : Bs) : (l.map bc).all (·.oneCell') = true := by
  rw [List.all_map]; exact List.all_eq_true.2 fun _ _ => rfl
theorem En.one (e : En) (hp : e.pay.oneCell' = true) (hs : e.sigs.oneCell' = true) : e.cells.all (·.oneCell') = true := by
  simp only [En.cells, List.all_cons, List.all_append, bytes_one, hp, hs, List.all_nil, Bool.and_true, Bool.true_and]
  rfl
theorem bare4_pay (e : En) : e.bare4.pay = e.pay ∧ e.bare4.sigs = e.sigs := by
  unfold En.bare4
  split <;> exact ⟨rfl, rfl⟩
theorem blank4_any (e : En) (w : World) (hk : e.kind = 4) (hp : e.pay.oneCell' = true) (hs : e.sigs.oneCell' = true) : Calls Tryz.prog 123 #[e.val] w fun e' w' => e' = .returned e.bare4.val ∧ Gr w w' := by
  have hone := En.one e.bare4 (by rw [(bare4_pay e).1]; exact hp) (by rw [(bare4_pay e).2]; exact hs)
  refine enter (vs := [e.val]) Tryz.func123 rfl Tryz.ntmps123 rfl ?_
  refine g_seq ?_
  refine g_reg ?_
  refine l_box rfl rfl (fun w1 g1 hk1 hg1 hB1 => ?_)
  have hl1 : w.heap.size ≤ g1 := hg1
  have hgr := hk1
  have hB1 : Blk w1 g1 136 e.cells.toArray := hB1
  refine l_alloc zT136 rfl (fun w2 g2 hk2 hg2 hB2 => ?_)
  have hl2 : w.heap.size ≤ g2 := Nat.le_trans hgr.le hg2
  have hn_g1_g2 : g1 ≠ g2 := by have := hB1.lt; omega
  have hB1 := hB1.gr hk2
  have hgr := hgr.tr hk2
  refine l_nil ?_
  refine g_seq ?_
  refine g_seq ?_
  refine g_reg ?_
  refine l_y (y_fa (v := .pointer (some ⟨g1, 0, none⟩)) rfl (fun _ => by kernel_rfl)) rfl ?_
  refine l_y (y_ldb rfl hB1 (plain_gr _) Tryz.underlying3 rfl e.at0) rfl ?_
  refine l_nil ?_
  refine g_block ?_
  refine g_seq ?_
  refine g_reg ?_
  refine l_y (y_eql rfl rfl) rfl ?_
  refine l_y (y_assign rfl) rfl ?_
  refine l_nil ?_
  refine g_cond rfl (fun hc1 => ?_) (fun hc1 => ?_)
  · exact absurd hc1 (by simp [hk])
  · skip
    replace hc1 := of_decide_eq_false hc1
    refine g_seq ?_
    refine g_reg ?_
    refine l_y (y_eql rfl rfl) rfl ?_
    refine l_y (y_assign rfl) rfl ?_
    refine l_nil ?_
    refine g_cond rfl (fun hc2 => ?_) (fun hc2 => ?_)
    · exact absurd hc2 (by simp [hk])
    · skip
      replace hc2 := of_decide_eq_false hc2
      refine g_seq ?_
      refine g_reg ?_
      refine l_y (y_eql rfl rfl) rfl ?_
      refine l_y (y_assign rfl) rfl ?_
      refine l_nil ?_
      refine g_cond rfl (fun hc3 => ?_) (fun hc3 => ?_)
      · exact absurd hc3 (by simp [hk])
      · skip
        replace hc3 := of_decide_eq_false hc3
        refine g_seq ?_
        refine g_reg ?_
        refine l_y (y_eql rfl rfl) rfl ?_
        refine l_y (y_assign rfl) rfl ?_
        refine l_nil ?_
        refine g_cond rfl (fun hc4 => ?_) (fun hc4 => ?_)
        · skip
          replace hc4 := of_decide_eq_true hc4
          refine g_seq ?_
          refine g_seq ?_
          refine g_reg ?_
          refine l_y (y_fa (v := .pointer (some ⟨g1, 35, none⟩)) rfl (fun _ => by kernel_rfl)) rfl ?_
          refine l_y (y_ldb rfl hB1 (plain_gr _) Tryz.underlying3 rfl e.at35) rfl ?_
          refine l_y (y_neq rfl rfl) rfl ?_
          refine l_nil ?_
          refine g_cond rfl (fun hc5 => ?_) (fun hc5 => ?_)
          · skip
            replace hc5 := of_decide_eq_true hc5
            refine g_reg ?_
            refine l_y (y_build (v := .agg (zero32.map bc).toArray) rfl (fun _ => by kernel_rfl)) rfl ?_
            refine l_y (y_fa (v := .pointer (some ⟨g1, 37, none⟩)) rfl (fun _ => by kernel_rfl)) rfl ?_
            refine l_stm (vs := zero32.map bc) rfl rfl hB1 rfl (by rw [e.sz]; decide) (by decide) (by exact szT131) (fun w3 hg3 hs3 hS3 => ?_)
            have hB2 := hB2.grown hg3 (fun e => hn_g1_g2 (Option.some.inj e).symm)
            have hgr0 := hgr
            have hgr : Gr w w3 := hgr.grown hg3 hgr.le (fun k hk => by injection hk with hk; subst hk; exact hl1)
            have hB1 := (e.setKey zero32 zero32_len) ▸ hS3
            refine l_nil ?_
            obtain ⟨f, hf, hB1⟩ : ∃ f : En, ({ f with op := 0, id := [] } : En) = e.bare4 ∧ Blk w3 g1 136 f.cells.toArray := ⟨_, by rw [En.bare4, if_neg hc5], hB1⟩
            refine g_reg ?_
            refine l_y (y_fa (v := .pointer (some ⟨g1, 35, none⟩)) rfl (fun _ => by kernel_rfl)) rfl ?_
            refine l_st rfl rfl hB1 (by rw [En.sz]; decide) rfl rfl Tryz.underlying3 szT3 (fun w4 hg4 hs4 hS4 => ?_)
            have hB2 := hB2.grown hg4 (fun e => hn_g1_g2 (Option.some.inj e).symm)
            have hgr0 := hgr
            have hgr : Gr w w4 := hgr.grown hg4 hgr.le (fun k hk => by injection hk with hk; subst hk; exact hl1)
            have hB1 := (f.setOp 0) ▸ hS4
            refine l_y (y_fa (v := .pointer (some ⟨g1, 36, none⟩)) rfl (fun _ => by kernel_rfl)) rfl ?_
            refine l_st rfl rfl hB1 (by rw [En.sz]; decide) rfl rfl Tryz.underlying9 szT9 (fun w5 hg5 hs5 hS5 => ?_)
            have hB2 := hB2.grown hg5 (fun e => hn_g1_g2 (Option.some.inj e).symm)
            have hgr0 := hgr
            have hgr : Gr w w5 := hgr.grown hg5 hgr.le (fun k hk => by injection hk with hk; subst hk; exact hl1)
            have hB1 := hf ▸ (({ f with op := 0 } : En).setId []) ▸ hS5
            refine l_nil ?_
            refine g_blk ?_
            refine g_seq ?_
            refine g_reg ?_
            refine l_y (y_ldbs (o := 0) (vs := e.bare4.cells) rfl hB1 (plain_gr _) Tryz.underlying136 rfl (by rw [szT136, En.len]) (fun j v hj => by simpa using hj)) rfl ?_
            refine l_stm (vs := e.bare4.cells) rfl rfl hB2 rfl (by rw [En.len]; decide) (by exact hone) (by rw [szT136, En.len]) (fun w6 hg6 hs6 hS6 => ?_)
            have hB1 := hB1.grown hg6 (fun e => hn_g1_g2 (Option.some.inj e))
            have hgr0 := hgr
            have hgr : Gr w w6 := hgr.grown hg6 hgr.le (fun k hk => by injection hk with hk; subst hk; exact hl2)
            have hB2 := Blk.whole hS6 (by rw [En.len]; rfl)
            refine l_nil ?_
            refine g_ret1 Tryz.results123 rfl (ld_blk hB2 Tryz.underlying136 rfl (by rw [szT136, En.sz])) ?_
            exact ⟨rfl, hgr⟩
          · obtain ⟨f, hf, hB1⟩ : ∃ f : En, ({ f with op := 0, id := [] } : En) = e.bare4 ∧ Blk w2 g1 136 f.cells.toArray := ⟨e, by simp at hc5; rw [En.bare4, if_pos hc5], hB1⟩
            refine g_skip ?_
            refine g_reg ?_
            refine l_y (y_fa (v := .pointer (some ⟨g1, 35, none⟩)) rfl (fun _ => by kernel_rfl)) rfl ?_
            refine l_st rfl rfl hB1 (by rw [En.sz]; decide) rfl rfl Tryz.underlying3 szT3 (fun w7 hg7 hs7 hS7 => ?_)
            have hB2 := hB2.grown hg7 (fun e => hn_g1_g2 (Option.some.inj e).symm)
            have hgr0 := hgr
            have hgr : Gr w w7 := hgr.grown hg7 hgr.le (fun k hk => by injection hk with hk; subst hk; exact hl1)
            have hB1 := (f.setOp 0) ▸ hS7
            refine l_y (y_fa (v := .pointer (some ⟨g1, 36, none⟩)) rfl (fun _ => by kernel_rfl)) rfl ?_
            refine l_st rfl rfl hB1 (by rw [En.sz]; decide) rfl rfl Tryz.underlying9 szT9 (fun w8 hg8 hs8 hS8 => ?_)
            have hB2 := hB2.grown hg8 (fun e => hn_g1_g2 (Option.some.inj e).symm)
            have hgr0 := hgr
            have hgr : Gr w w8 := hgr.grown hg8 hgr.le (fun k hk => by injection hk with hk; subst hk; exact hl1)
            have hB1 := hf ▸ (({ f with op := 0 } : En).setId []) ▸ hS8
            refine l_nil ?_
            refine g_blk ?_
            refine g_seq ?_
            refine g_reg ?_
            refine l_y (y_ldbs (o := 0) (vs := e.bare4.cells) rfl hB1 (plain_gr _) Tryz.underlying136 rfl (by rw [szT136, En.len]) (fun j v hj => by simpa using hj)) rfl ?_
            refine l_stm (vs := e.bare4.cells) rfl rfl hB2 rfl (by rw [En.len]; decide) (by exact hone) (by rw [szT136, En.len]) (fun w9 hg9 hs9 hS9 => ?_)
            have hB1 := hB1.grown hg9 (fun e => hn_g1_g2 (Option.some.inj e))
            have hgr0 := hgr
            have hgr : Gr w w9 := hgr.grown hg9 hgr.le (fun k hk => by injection hk with hk; subst hk; exact hl2)
            have hB2 := Blk.whole hS9 (by rw [En.len]; rfl)
            refine l_nil ?_
            refine g_ret1 Tryz.results123 rfl (ld_blk hB2 Tryz.underlying136 rfl (by rw [szT136, En.sz])) ?_
            exact ⟨rfl, hgr⟩
        · exact absurd hc4 (by simp [hk])

theorem own4_any (e : En) (w : World) (hk : e.kind = 4) : Calls Tryz.prog 120 #[e.val] w fun e' w' => e' = .returned (.bool e.own4) ∧ Gr w w' := by
  refine enter (vs := [e.val]) Tryz.func120 rfl Tryz.ntmps120 rfl ?_
  refine g_seq ?_
  refine g_reg ?_
  refine l_box rfl rfl (fun w1 g1 hk1 hg1 hB1 => ?_)
  have hl1 : w.heap.size ≤ g1 := hg1
  have hgr := hk1
  refine l_y (y_assign rfl) rfl ?_
  refine l_nil ?_
  refine g_seq ?_
  refine g_seq ?_
  refine g_reg ?_
  refine l_y (y_fa (v := .pointer (some ⟨g1, 0, none⟩)) rfl (fun _ => by kernel_rfl)) rfl ?_
  refine l_y (y_ldb rfl hB1 (plain_gr _) Tryz.underlying3 rfl e.at0) rfl ?_
  refine l_nil ?_
  refine g_block ?_
  refine g_seq ?_
  refine g_reg ?_
  refine l_y (y_eql rfl rfl) rfl ?_
  refine l_y (y_assign rfl) rfl ?_
  refine l_nil ?_
  refine g_cond rfl (fun hc1 => ?_) (fun hc1 => ?_)
  · exact absurd hc1 (by simp [hk])
  · skip
    replace hc1 := of_decide_eq_false hc1
    refine g_seq ?_
    refine g_reg ?_
    refine l_y (y_eql rfl rfl) rfl ?_
    refine l_y (y_assign rfl) rfl ?_
    refine l_nil ?_
    refine g_cond rfl (fun hc2 => ?_) (fun hc2 => ?_)
    · exact absurd hc2 (by simp [hk])
    · skip
      replace hc2 := of_decide_eq_false hc2
      refine g_seq ?_
      refine g_reg ?_
      refine l_y (y_eql rfl rfl) rfl ?_
      refine l_y (y_assign rfl) rfl ?_
      refine l_nil ?_
      refine g_cond rfl (fun hc3 => ?_) (fun hc3 => ?_)
      · exact absurd hc3 (by simp [hk])
      · skip
        replace hc3 := of_decide_eq_false hc3
        refine g_seq ?_
        refine g_reg ?_
        refine l_y (y_eql rfl rfl) rfl ?_
        refine l_y (y_assign rfl) rfl ?_
        refine l_nil ?_
        refine g_cond rfl (fun hc4 => ?_) (fun hc4 => ?_)
        · skip
          replace hc4 := of_decide_eq_true hc4
          refine g_seq ?_
          refine g_reg ?_
          refine l_y (y_fa (v := .pointer (some ⟨g1, 35, none⟩)) rfl (fun _ => by kernel_rfl)) rfl ?_
          refine l_y (y_ldb rfl hB1 (plain_gr _) Tryz.underlying3 rfl e.at35) rfl ?_
          refine l_y (y_geq rfl rfl) rfl ?_
          refine l_y (y_move rfl) rfl ?_
          refine l_g (gd_t rfl rfl) (fun hc => y_fa (v := .pointer (some ⟨g1, 35, none⟩)) rfl (fun _ => by kernel_rfl)) rfl ?_
          refine l_g (gd_t rfl rfl) (fun hc => y_ldb (og rfl hc) hB1 (plain_gr _) Tryz.underlying3 rfl e.at35) rfl ?_
          refine l_g (gd_t rfl rfl) (fun hc => y_leq (og rfl hc) rfl) rfl ?_
          refine l_y (y_pand rfl rfl (fun h => h)) rfl ?_
          refine l_y (y_move rfl) rfl ?_
          refine l_g (gd_t rfl rfl) (fun hc => y_fa (v := .pointer (some ⟨g1, 36, none⟩)) rfl (fun _ => by kernel_rfl)) rfl ?_
          refine l_g (gd_t rfl rfl) (fun hc => y_ldb (og rfl hc) hB1 (plain_gr _) Tryz.underlying9 rfl e.at36) rfl ?_
          refine l_gcall (gd_t rfl rfl) rfl (fun hc => opvs1 (og rfl hc)) en172 (fun hc => namedP_any e.id _) rfl (fun w2 hk2 => ?_)
          have hB1 := hB1.gr hk2
          have hgr := hgr.tr hk2
          refine l_y (y_pand rfl rfl (fun h => h)) rfl ?_
          refine l_y (y_assign rfl) rfl ?_
          refine l_nil ?_
          refine g_ret Tryz.results120 rfl ?_
          exact ⟨rfl, hgr⟩
        · exact absurd hc4 (by simp [hk])

end Go.Proofs.YtehfgmagmnjffaaGreatDoor.Entry
