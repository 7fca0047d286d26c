/-
  Walks of functions: what each call comes to.
-/
import Derived.Test.YtehfgmagmnjffaaGreatDoorParse
import Derived.Test.YtehfgmagmnjffaaGreatDoorApart2
import Derived.Test.YtehfgmagmnjffaaGreatDoorRef21
namespace Go.Proofs.YtehfgmagmnjffaaGreatDoor.Heads
open Go Go.RowKit Go.Proofs.YtehfgmagmnjffaaGreatDoor.E Go.Proofs.YtehfgmagmnjffaaGreatDoor.Pl Go.Proofs.YtehfgmagmnjffaaGreatDoor.Name Go.Proofs.YtehfgmagmnjffaaGreatDoor.Entry Go.Proofs.YtehfgmagmnjffaaGreatDoor.Num Go.Proofs.YtehfgmagmnjffaaGreatDoor.Check Go.Proofs.YtehfgmagmnjffaaGreatDoor.Coder Go.Proofs.YtehfgmagmnjffaaGreatDoor.Env Go.Proofs.YtehfgmagmnjffaaGreatDoor.Note Go.Proofs.YtehfgmagmnjffaaGreatDoor.Decode Go.Proofs.YtehfgmagmnjffaaGreatDoor.Parse Go.Proofs.YtehfgmagmnjffaaGreatDoor.Apart2 Go.Proofs.YtehfgmagmnjffaaGreatDoor.Ref21
theorem hmix : Tryz.prog.follows .mixedOrders = true := by kernel_rfl
theorem en6 : Enters Tryz.prog 6 := enters_of Tryz.func6 (by kernel_rfl) rfl
theorem en7 : Enters Tryz.prog 7 := enters_of Tryz.func7 (by kernel_rfl) rfl
theorem en8 : Enters Tryz.prog 8 := enters_of Tryz.func8 (by kernel_rfl) rfl
theorem en9 : Enters Tryz.prog 9 := enters_of Tryz.func9 (by kernel_rfl) rfl
theorem en10 : Enters Tryz.prog 10 := enters_of Tryz.func10 (by kernel_rfl) rfl
theorem en11 : Enters Tryz.prog 11 := enters_of Tryz.func11 (by kernel_rfl) rfl
theorem en12 : Enters Tryz.prog 12 := enters_of Tryz.func12 (by kernel_rfl) rfl
theorem en13 : Enters Tryz.prog 13 := enters_of Tryz.func13 (by kernel_rfl) rfl
theorem en14 : Enters Tryz.prog 14 := enters_of Tryz.func14 (by kernel_rfl) rfl
theorem en15 : Enters Tryz.prog 15 := enters_of Tryz.func15 (by kernel_rfl) rfl
theorem szT5 : (Tryz.prog.info? 5).map (·.size) = some 1 := by kernel_rfl
theorem szT27 : (Tryz.prog.info? 27).map (·.size) = some 99 := by kernel_rfl
theorem szT29 : (Tryz.prog.info? 29).map (·.size) = some 1 := by kernel_rfl
theorem zT27 : ∀ w, (zeroValue 27).run Tryz.prog w = .ok (Value.agg (([Value.string ⟨#[]⟩] ++ [Value.int .i64 0] ++ [Value.int .i64 0] ++ (List.replicate 32 (Value.int .u8 0)) ++ (List.replicate 64 (Value.int .u8 0)))).toArray) w := fun _ => by kernel_rfl

def hdA : Hd := { hd0 [108, 111, 103] with time := 7 }
theorem hdA_good : hdA.good = true := by decide +kernel
theorem hdA_body : hdA.body = [99, 97, 99, 104, 101, 116, 32, 118, 49, 10, 108, 111, 103, 10, 48, 32, 55, 10] ++ (hex zero32 ++ [10, 10]) := by
  have h0 : number 0 = [48] := by rw [number_small (by decide)]; rfl
  have h7 : number 7 = [55] := by rw [number_small (by decide)]; rfl
  simp [Hd.body, hdA, hd0, h0, h7]
theorem hdA_take : hdA.body.take 18 = [99, 97, 99, 104, 101, 116, 32, 118, 49, 10, 108, 111, 103, 10, 48, 32, 55, 10] := by
  rw [hdA_body, List.take_append_of_le_length (by decide)]; rfl
theorem hdA_len : hdA.body.length = 84 := by
  rw [hdA_body]
  have h1 := hex_length zero32
  have h2 := zero32_len
  simp only [List.length_append, List.length_cons, List.length_nil]
  omega
theorem hdL_bad : (hd0 [76, 111, 103]).good = false := by decide +kernel
theorem is_is (e0 : Option Int) (n : Int) {b : Bool} (hb : decide (numE e0 = n) = b) (w : World) : Calls Tryz.prog 10 #[ev e0, .int .i64 n] w fun e w' => e = .returned (.bool b) ∧ Gr w w' :=
  (is_any e0 n w).mono fun _ _ h => ⟨by rw [h.1, hb], h.2⟩
theorem same_is (v u : Value) (s : Bs) (w : World) (hv : Rc w 1 v s.length (s.map bc)) (hu : Rc w 1 u s.length (s.map bc)) : Calls Tryz.prog 11 #[v, u] w fun e w' => e = .returned (.bool true) ∧ Gr w w' :=
  (same_any v u s s w hv hu).mono fun _ _ h => ⟨by rw [h.1]; simp, h.2⟩
theorem goodr_is (h : Hd) {b : Bool} (hb : h.good = b) (w : World) : Calls Tryz.prog 9 #[h.val] w fun e w' => e = .returned (.bool b) ∧ Gr w w' :=
  (goodr_any h w).mono fun _ _ h => ⟨by rw [h.1, hb], h.2⟩
theorem lit2 {w : World} {base base' : Nat} {e e' : TypeId} {size size' k k' : Nat} {v u : Value} {xs ys : List Value} (h : Own w base e size v k xs) (h' : Own w base' e' size' u k' ys) (w' : World) : (Instr.buildSlice 42 2 #[(0, v), (1, u)]).run Tryz.prog w' = .ok (.slice (some ⟨w'.heap.size, 0, none⟩) 2 2) (w'.alloc (.cells #[v, u] 29)) := by
  obtain ⟨A, c, rfl, _⟩ := own_form h
  obtain ⟨A', c', rfl, _⟩ := own_form h'
  kernel_rfl

theorem alive_any  (w : World) (he : Env w) : Calls Tryz.prog 6 #[] w fun e w' => e = .returned (.bool true) ∧ Gr w w' := by
  refine enter (vs := []) Tryz.func6 rfl Tryz.ntmps6 rfl ?_
  refine g_seq ?_
  refine g_reg ?_
  refine l_y (y_assign rfl) rfl ?_
  refine l_nil ?_
  refine g_seq ?_
  refine g_reg ?_
  refine l_y (y_build (v := hdA.val) rfl (fun _ => by kernel_rfl)) rfl ?_
  refine l_alloc zT27 rfl (fun w1 g1 hk1 hg1 hB1 => ?_)
  have hl1 : w.heap.size ≤ g1 := hg1
  have hgr := hk1
  refine l_stm (vs := hdA.cells) rfl rfl hB1 rfl (by rw [Hd.len]; decide) (by exact Hd.one _) (by rw [szT27, Hd.len]) (fun w2 hg2 hs2 hS2 => ?_)
  have hgr0 := hgr
  have hgr : Gr w w2 := hgr.grown hg2 hgr.le (fun k hk => by injection hk with hk; subst hk; exact hl1)
  have hB1 := Blk.whole hS2 (by rw [Hd.len]; rfl)
  refine l_nil ?_
  refine g_seq ?_
  refine g_reg ?_
  refine l_y (y_ldbs (o := 0) (vs := hdA.cells) rfl hB1 (plain_gr _) Tryz.underlying27 rfl (by rw [szT27, Hd.len]) (fun j v hj => by show hdA.cells.toArray[0 + j]? = _; simpa using hj)) rfl ?_
  refine l_call0 rfl rfl en7 (body_good hdA _ hdA_good (Hd.good_iff hdA_good) (he.gr hgr)) (fun _ _ h => by obtain ⟨v, h, _⟩ := h; exact ⟨_, h⟩) rfl (fun w3 v3 h3 => ?_)
  obtain ⟨va, h3, hown, hk3⟩ := h3
  cases h3
  obtain ⟨A0, c0, rfl, hc0, _⟩ := own_form hown
  have hB1 := hB1.gr hk3
  have hgr := hgr.tr hk3
  refine l_y (y_move rfl) rfl ?_
  refine l_y (y_ext rfl rfl) rfl ?_
  refine l_y (y_ext rfl rfl) rfl ?_
  refine l_y (y_assign rfl) rfl ?_
  refine l_y (y_assign rfl) rfl ?_
  refine l_nil ?_
  refine g_seq ?_
  refine g_seq ?_
  refine g_reg ?_
  refine l_y (y_move rfl) rfl ?_
  refine l_y (y_nenn rfl rfl Tryz.underlying31) rfl ?_
  refine l_y (y_move rfl) rfl ?_
  refine l_gt (gd_f1 rfl rfl) ?_
  refine l_y (y_move rfl) rfl ?_
  refine l_gt (gd_f1 rfl rfl) ?_
  refine l_y (y_llen rfl Tryz.underlying29) rfl ?_
  refine l_gt (gd_f1 rfl rfl) ?_
  refine l_y (y_as (v' := .bool false) (y_lss rfl rfl) (by rw [hdA_len]; rfl)) rfl ?_
  refine l_y (y_pick rfl rfl rfl) rfl ?_
  refine l_y (y_move rfl) rfl ?_
  refine l_gt (gd_f1 rfl rfl) ?_
  refine l_y (y_move rfl) rfl ?_
  refine l_gt (gd_f1 rfl rfl) ?_
  refine l_y (y_slh (v := .slice A0 18 c0) rfl (i := 18) rfl Tryz.underlying29 (some_of szT5) rfl (by have := hdA_len; omega)) rfl ?_
  refine l_gt (gd_f1 rfl rfl) ?_
  refine l_y (y_b2s (s := hdA.body.take 18) rfl (by
    have h1 := hown.rc.take (i := 18) (by have := hdA_len; omega) (c' := c0) (by have := hdA_len; omega)
    rw [Nat.mul_one, ← List.map_take] at h1
    rw [show (hdA.body.take 18).length = 18 from by rw [hdA_take]; rfl]
    exact h1) (plain_gr _) Tryz.underlying29 Tryz.underlying5 Tryz.underlying9) rfl ?_
  refine l_gt (gd_f1 rfl rfl) ?_
  refine l_y (y_as (v' := .bool false) (y_sne' rfl rfl) (by rw [hdA_take]; simp)) rfl ?_
  refine l_y (y_pick rfl rfl rfl) rfl ?_
  refine l_nil ?_
  refine g_false rfl ?_
  refine g_skip ?_
  refine g_seq ?_
  refine g_reg ?_
  refine l_y (y_build (v := (hd0 [76, 111, 103]).val) rfl (fun _ => by kernel_rfl)) rfl ?_
  refine l_call0 rfl rfl en7 (body_bad (hd0 [76, 111, 103]) _ hdL_bad (by decide)) (fun _ _ h => ⟨_, h.1⟩) rfl (fun w4 v4 h4 => ?_)
  obtain ⟨h4, hk4⟩ := h4
  cases h4
  have hB1 := hB1.gr hk4
  have hown := hown.gr hk4
  have hgr := hgr.tr hk4
  refine l_y (y_move rfl) rfl ?_
  refine l_y (y_ext rfl rfl) rfl ?_
  refine l_y (y_ext rfl rfl) rfl ?_
  refine l_y (y_assign rfl) rfl ?_
  refine l_y (y_assign rfl) rfl ?_
  refine l_nil ?_
  refine g_seq ?_
  refine g_reg ?_
  refine l_y (y_move rfl) rfl ?_
  refine l_call0 rfl rfl en10 (is_is (b := true) (some 1) 1 (by decide) _) (fun _ _ h => ⟨_, h.1⟩) rfl (fun w5 v5 h5 => ?_)
  obtain ⟨h5, hk5⟩ := h5
  cases h5
  have hB1 := hB1.gr hk5
  have hown := hown.gr hk5
  have hgr := hgr.tr hk5
  refine l_y (y_assign rfl) rfl ?_
  refine l_nil ?_
  refine g_ret Tryz.results6 rfl ?_
  exact ⟨rfl, hgr⟩

theorem heads_long (h : Hd) (hl : 500 < h.o.length) (w : World) (he : Env w) : Calls Tryz.prog 3 #[h.val] w fun e w' => e = .returned (.bool true) ∧ Gr w w' := by
  refine enter (vs := [h.val]) Tryz.func3 rfl Tryz.ntmps3 rfl ?_
  refine g_seq ?_
  refine g_reg ?_
  refine l_box rfl rfl (fun w1 g1 hk1 hg1 hB1 => ?_)
  have hl1 : w.heap.size ≤ g1 := hg1
  have hgr := hk1
  refine l_y (y_assign rfl) rfl ?_
  refine l_nil ?_
  refine g_seq ?_
  refine g_seq ?_
  refine g_reg ?_
  refine l_call0 rfl rfl en6 (alive_any _ (he.gr hgr)) (fun _ _ h => ⟨_, h.1⟩) rfl (fun w2 v2 h2 => ?_)
  obtain ⟨h2, hk2⟩ := h2
  cases h2
  have hB1 := hB1.gr hk2
  have hgr := hgr.tr hk2
  refine l_y (y_not rfl) rfl ?_
  refine l_nil ?_
  refine g_false rfl ?_
  refine g_skip ?_
  refine g_seq ?_
  refine g_seq ?_
  refine g_reg ?_
  refine l_y (y_fa (v := .pointer (some ⟨g1, 0, none⟩)) rfl (fun _ => by kernel_rfl)) rfl ?_
  refine l_y (y_ldb rfl hB1 (plain_gr _) Tryz.underlying9 rfl h.at0) rfl ?_
  refine l_y (y_slen rfl Tryz.underlying9) rfl ?_
  refine l_y (y_gtr rfl rfl) rfl ?_
  refine l_nil ?_
  refine g_cond rfl (fun hc2 => ?_) (fun hc2 => ?_)
  · skip
    replace hc2 := of_decide_eq_true hc2
    refine g_seq ?_
    refine g_reg ?_
    refine l_y (y_assign rfl) rfl ?_
    refine l_nil ?_
    refine g_ret Tryz.results3 rfl ?_
    exact ⟨rfl, hgr⟩
  · exact absurd hc2 (by simp; omega)

theorem heads_bad (h : Hd) (hl : h.o.length ≤ 500) (hb : h.good = false) (w : World) (he : Env w) : Calls Tryz.prog 3 #[h.val] w fun e w' => e = .returned (.bool true) ∧ Gr w w' := by
  refine enter (vs := [h.val]) Tryz.func3 rfl Tryz.ntmps3 rfl ?_
  refine g_seq ?_
  refine g_reg ?_
  refine l_box rfl rfl (fun w1 g1 hk1 hg1 hB1 => ?_)
  have hl1 : w.heap.size ≤ g1 := hg1
  have hgr := hk1
  refine l_y (y_assign rfl) rfl ?_
  refine l_nil ?_
  refine g_seq ?_
  refine g_seq ?_
  refine g_reg ?_
  refine l_call0 rfl rfl en6 (alive_any _ (he.gr hgr)) (fun _ _ h => ⟨_, h.1⟩) rfl (fun w2 v2 h2 => ?_)
  obtain ⟨h2, hk2⟩ := h2
  cases h2
  have hB1 := hB1.gr hk2
  have hgr := hgr.tr hk2
  refine l_y (y_not rfl) rfl ?_
  refine l_nil ?_
  refine g_false rfl ?_
  refine g_skip ?_
  refine g_seq ?_
  refine g_seq ?_
  refine g_reg ?_
  refine l_y (y_fa (v := .pointer (some ⟨g1, 0, none⟩)) rfl (fun _ => by kernel_rfl)) rfl ?_
  refine l_y (y_ldb rfl hB1 (plain_gr _) Tryz.underlying9 rfl h.at0) rfl ?_
  refine l_y (y_slen rfl Tryz.underlying9) rfl ?_
  refine l_y (y_gtr rfl rfl) rfl ?_
  refine l_nil ?_
  refine g_cond rfl (fun hc2 => ?_) (fun hc2 => ?_)
  · exact absurd hc2 (by simp; omega)
  · skip
    replace hc2 := of_decide_eq_false hc2
    refine g_skip ?_
    refine g_seq ?_
    refine g_reg ?_
    refine l_y (y_ldbs (o := 0) (vs := h.cells) rfl hB1 (plain_gr _) Tryz.underlying27 rfl (by rw [szT27, Hd.len]) (fun j v hj => by show h.cells.toArray[0 + j]? = _; simpa using hj)) rfl ?_
    refine l_call0 rfl rfl en7 (body_bad h _ hb (by omega)) (fun _ _ h => ⟨_, h.1⟩) rfl (fun w3 v3 h3 => ?_)
    obtain ⟨h3, hk3⟩ := h3
    cases h3
    have hB1 := hB1.gr hk3
    have hgr := hgr.tr hk3
    refine l_y (y_move rfl) rfl ?_
    refine l_y (y_ext rfl rfl) rfl ?_
    refine l_y (y_ext rfl rfl) rfl ?_
    refine l_y (y_assign rfl) rfl ?_
    refine l_y (y_assign rfl) rfl ?_
    refine l_nil ?_
    refine g_seq ?_
    refine g_reg ?_
    refine l_y (y_ldbs (o := 0) (vs := h.cells) rfl hB1 (plain_gr _) Tryz.underlying27 rfl (by rw [szT27, Hd.len]) (fun j v hj => by show h.cells.toArray[0 + j]? = _; simpa using hj)) rfl ?_
    refine l_call0 rfl rfl en8 (put_bad h _ hb (by omega)) (fun _ _ h => ⟨_, h.1⟩) rfl (fun w4 v4 h4 => ?_)
    obtain ⟨h4, hk4⟩ := h4
    cases h4
    have hB1 := hB1.gr hk4
    have hgr := hgr.tr hk4
    refine l_y (y_move rfl) rfl ?_
    refine l_y (y_ext rfl rfl) rfl ?_
    refine l_y (y_ext rfl rfl) rfl ?_
    refine l_y (y_assign rfl) rfl ?_
    refine l_y (y_assign rfl) rfl ?_
    refine l_nil ?_
    refine g_seq ?_
    refine g_seq ?_
    refine g_reg ?_
    refine l_y (y_ldbs (o := 0) (vs := h.cells) rfl hB1 (plain_gr _) Tryz.underlying27 rfl (by rw [szT27, Hd.len]) (fun j v hj => by show h.cells.toArray[0 + j]? = _; simpa using hj)) rfl ?_
    refine l_call0 rfl rfl en9 (goodr_is h hb _) (fun _ _ h => ⟨_, h.1⟩) rfl (fun w5 v5 h5 => ?_)
    obtain ⟨h5, hk5⟩ := h5
    cases h5
    have hB1 := hB1.gr hk5
    have hgr := hgr.tr hk5
    refine l_y (y_not rfl) rfl ?_
    refine l_nil ?_
    refine g_true rfl ?_
    refine g_seq ?_
    refine g_reg ?_
    refine l_y (y_move rfl) rfl ?_
    refine l_call0 rfl rfl en10 (is_is (b := true) (some 1) 1 (by decide) _) (fun _ _ h => ⟨_, h.1⟩) rfl (fun w6 v6 h6 => ?_)
    obtain ⟨h6, hk6⟩ := h6
    cases h6
    have hB1 := hB1.gr hk6
    have hgr := hgr.tr hk6
    refine l_y (y_move rfl) rfl ?_
    refine l_gt (gd_t1 rfl rfl) ?_
    refine l_y (y_move rfl) rfl ?_
    refine l_gt (gd_t1 rfl rfl) ?_
    refine l_call0 rfl rfl en10 (is_is (b := true) (some 1) 1 (by decide) _) (fun _ _ h => ⟨_, h.1⟩) rfl (fun w7 v7 h7 => ?_)
    obtain ⟨h7, hk7⟩ := h7
    cases h7
    have hB1 := hB1.gr hk7
    have hgr := hgr.tr hk7
    refine l_y (y_pick rfl rfl rfl) rfl ?_
    refine l_y (y_move rfl) rfl ?_
    refine l_gt (gd_t1 rfl rfl) ?_
    refine l_y (y_move rfl) rfl ?_
    refine l_gt (gd_t1 rfl rfl) ?_
    refine l_y (y_llen rfl Tryz.underlying29) rfl ?_
    refine l_gt (gd_t1 rfl rfl) ?_
    refine l_y (y_eql rfl rfl) rfl ?_
    refine l_y (y_pick rfl rfl rfl) rfl ?_
    refine l_y (y_move rfl) rfl ?_
    refine l_gt (gd_t1 rfl rfl) ?_
    refine l_y (y_move rfl) rfl ?_
    refine l_gt (gd_t1 rfl rfl) ?_
    refine l_y (y_llen rfl Tryz.underlying29) rfl ?_
    refine l_gt (gd_t1 rfl rfl) ?_
    refine l_y (y_eql rfl rfl) rfl ?_
    refine l_y (y_pick rfl rfl rfl) rfl ?_
    refine l_y (y_assign rfl) rfl ?_
    refine l_nil ?_
    refine g_ret Tryz.results3 rfl ?_
    exact ⟨rfl, hgr⟩

theorem eqHd : Tryz.prog.eqGuardType Tryz.prog.depth 27 = false ∧ flat Tryz.prog 6 27 = some Hd.ks ∧ Tryz.prog.cellsOf 27 = Hd.ks.length := ⟨by kernel_rfl, by kernel_rfl, by kernel_rfl⟩
theorem rows2 {w : World} {B : Nat} {va vb : Value} {a b : Bs} (ha : Own w B 5 1 va a.length (a.map bc)) (hb : Own w B 5 1 vb b.length (b.map bc)) (hs : Sepb va vb) : RowsA w 5 B 2 (el [va, vb]) (fun j => if j = 0 then a else b) :=
  ⟨fun j hj => by
    have : j = 0 ∨ j = 1 := by omega
    rcases this with rfl | rfl
    · exact ha
    · exact hb, fun i j hi hj hij => by
    have : (i = 0 ∧ j = 1) ∨ (i = 1 ∧ j = 0) := by omega
    rcases this with ⟨rfl, rfl⟩ | ⟨rfl, rfl⟩
    · exact hs
    · exact hs.symm⟩
theorem heads_good (h : Hd) (hl : h.o.length ≤ 500) (hb : h.good = true) (hg : h.Good) (w : World) (he : Env w) : Calls Tryz.prog 3 #[h.val] w fun e w' => e = .returned (.bool true) ∧ Gr w w' := by
  refine enter (vs := [h.val]) Tryz.func3 rfl Tryz.ntmps3 rfl ?_
  refine g_seq ?_
  refine g_reg ?_
  refine l_box rfl rfl (fun w1 g1 hk1 hg1 hB1 => ?_)
  have hl1 : w.heap.size ≤ g1 := hg1
  have hgr := hk1
  refine l_y (y_assign rfl) rfl ?_
  refine l_nil ?_
  refine g_seq ?_
  refine g_seq ?_
  refine g_reg ?_
  refine l_call0 rfl rfl en6 (alive_any _ (he.gr hgr)) (fun _ _ h => ⟨_, h.1⟩) rfl (fun w2 v2 h2 => ?_)
  obtain ⟨h2, hk2⟩ := h2
  cases h2
  have hB1 := hB1.gr hk2
  have hgr := hgr.tr hk2
  refine l_y (y_not rfl) rfl ?_
  refine l_nil ?_
  refine g_false rfl ?_
  refine g_skip ?_
  refine g_seq ?_
  refine g_seq ?_
  refine g_reg ?_
  refine l_y (y_fa (v := .pointer (some ⟨g1, 0, none⟩)) rfl (fun _ => by kernel_rfl)) rfl ?_
  refine l_y (y_ldb rfl hB1 (plain_gr _) Tryz.underlying9 rfl h.at0) rfl ?_
  refine l_y (y_slen rfl Tryz.underlying9) rfl ?_
  refine l_y (y_gtr rfl rfl) rfl ?_
  refine l_nil ?_
  refine g_cond rfl (fun hc2 => ?_) (fun hc2 => ?_)
  · exact absurd hc2 (by simp; omega)
  · skip
    replace hc2 := of_decide_eq_false hc2
    refine g_skip ?_
    refine g_seq ?_
    refine g_reg ?_
    refine l_y (y_ldbs (o := 0) (vs := h.cells) rfl hB1 (plain_gr _) Tryz.underlying27 rfl (by rw [szT27, Hd.len]) (fun j v hj => by show h.cells.toArray[0 + j]? = _; simpa using hj)) rfl ?_
    refine l_call0 rfl rfl en7 (body_good h _ hb hg (he.gr hgr)) (fun _ _ h => by obtain ⟨v, h, _⟩ := h; exact ⟨_, h⟩) rfl (fun w3 v3 h3 => ?_)
    obtain ⟨va, h3, ha, hk3⟩ := h3
    cases h3
    replace ha := ha.lower hgr.le
    have hB1 := hB1.gr hk3
    have hgr := hgr.tr hk3
    refine l_y (y_move rfl) rfl ?_
    refine l_y (y_ext rfl rfl) rfl ?_
    refine l_y (y_ext rfl rfl) rfl ?_
    refine l_y (y_assign rfl) rfl ?_
    refine l_y (y_assign rfl) rfl ?_
    refine l_nil ?_
    refine g_seq ?_
    refine g_reg ?_
    refine l_y (y_ldbs (o := 0) (vs := h.cells) rfl hB1 (plain_gr _) Tryz.underlying27 rfl (by rw [szT27, Hd.len]) (fun j v hj => by show h.cells.toArray[0 + j]? = _; simpa using hj)) rfl ?_
    refine l_call0 rfl rfl en8 (put_good h _ hb hg (he.gr hgr)) (fun _ _ h => by obtain ⟨v, h, _⟩ := h; exact ⟨_, h⟩) rfl (fun w4 v4 h4 => ?_)
    have hal := fun k hk => (ha.lt k hk).2
    obtain ⟨vb, h4, hbo, hk4⟩ := h4
    cases h4
    have hsep : Sepb va vb := ha.sep hbo hal
    replace hbo := hbo.lower hgr.le
    have hB1 := hB1.gr hk4
    have ha := ha.gr hk4
    have hgr := hgr.tr hk4
    refine l_y (y_move rfl) rfl ?_
    refine l_y (y_ext rfl rfl) rfl ?_
    refine l_y (y_ext rfl rfl) rfl ?_
    refine l_y (y_assign rfl) rfl ?_
    refine l_y (y_assign rfl) rfl ?_
    refine l_nil ?_
    refine g_seq ?_
    refine g_seq ?_
    refine g_reg ?_
    refine l_y (y_ldbs (o := 0) (vs := h.cells) rfl hB1 (plain_gr _) Tryz.underlying27 rfl (by rw [szT27, Hd.len]) (fun j v hj => by show h.cells.toArray[0 + j]? = _; simpa using hj)) rfl ?_
    refine l_call0 rfl rfl en9 (goodr_is h hb _) (fun _ _ h => ⟨_, h.1⟩) rfl (fun w5 v5 h5 => ?_)
    obtain ⟨h5, hk5⟩ := h5
    cases h5
    have hB1 := hB1.gr hk5
    have ha := ha.gr hk5
    have hbo := hbo.gr hk5
    have hgr := hgr.tr hk5
    refine l_y (y_not rfl) rfl ?_
    refine l_nil ?_
    refine g_false rfl ?_
    refine g_skip ?_
    refine g_seq ?_
    refine g_seq ?_
    refine g_reg ?_
    refine l_y (y_move rfl) rfl ?_
    refine l_y (y_nenn rfl rfl Tryz.underlying31) rfl ?_
    refine l_y (y_move rfl) rfl ?_
    refine l_gt (gd_f1 rfl rfl) ?_
    refine l_y (y_move rfl) rfl ?_
    refine l_gt (gd_f1 rfl rfl) ?_
    refine l_y (y_nenn rfl rfl Tryz.underlying31) rfl ?_
    refine l_y (y_pick rfl rfl rfl) rfl ?_
    refine l_y (y_move rfl) rfl ?_
    refine l_gt (gd_f1 rfl rfl) ?_
    refine l_y (y_move rfl) rfl ?_
    refine l_gt (gd_f1 rfl rfl) ?_
    refine l_y (y_ldbs (o := 0) (vs := h.cells) rfl hB1 (plain_gr _) Tryz.underlying27 rfl (by rw [szT27, Hd.len]) (fun j v hj => by show h.cells.toArray[0 + j]? = _; simpa using hj)) rfl ?_
    refine l_gt (gd_f1 rfl rfl) ?_
    refine l_call0 rfl rfl en12 (bodyr_any h _ hg) (fun _ _ h => by obtain ⟨v, h, _⟩ := h; exact ⟨_, h⟩) rfl (fun w6 v6 h6 => ?_)
    obtain ⟨vx, h6, hx, hk6⟩ := h6
    cases h6
    have hB1 := hB1.gr hk6
    have ha := ha.gr hk6
    have hbo := hbo.gr hk6
    have hgr := hgr.tr hk6
    refine l_gt (gd_f1 rfl rfl) ?_
    refine l_call0 rfl rfl en11 (same_is _ _ h.body _ ha.rc hx.rc) (fun _ _ h => ⟨_, h.1⟩) rfl (fun w7 v7 h7 => ?_)
    obtain ⟨h7, hk7⟩ := h7
    cases h7
    have hB1 := hB1.gr hk7
    have ha := ha.gr hk7
    have hbo := hbo.gr hk7
    have hx := hx.gr hk7
    have hgr := hgr.tr hk7
    refine l_gt (gd_f1 rfl rfl) ?_
    refine l_y (y_not rfl) rfl ?_
    refine l_y (y_pick rfl rfl rfl) rfl ?_
    refine l_y (y_move rfl) rfl ?_
    refine l_gt (gd_f1 rfl rfl) ?_
    refine l_y (y_move rfl) rfl ?_
    refine l_gt (gd_f1 rfl rfl) ?_
    refine l_y (y_ldbs (o := 0) (vs := h.cells) rfl hB1 (plain_gr _) Tryz.underlying27 rfl (by rw [szT27, Hd.len]) (fun j v hj => by show h.cells.toArray[0 + j]? = _; simpa using hj)) rfl ?_
    refine l_gt (gd_f1 rfl rfl) ?_
    refine l_call0 rfl rfl en13 (textr_any h _ hg) (fun _ _ h => by obtain ⟨v, h, _⟩ := h; exact ⟨_, h⟩) rfl (fun w8 v8 h8 => ?_)
    obtain ⟨vy, h8, hy, hk8⟩ := h8
    cases h8
    have hB1 := hB1.gr hk8
    have ha := ha.gr hk8
    have hbo := hbo.gr hk8
    have hx := hx.gr hk8
    have hgr := hgr.tr hk8
    refine l_gt (gd_f1 rfl rfl) ?_
    refine l_call0 rfl rfl en11 (same_is _ _ h.text _ hbo.rc hy.rc) (fun _ _ h => ⟨_, h.1⟩) rfl (fun w9 v9 h9 => ?_)
    obtain ⟨h9, hk9⟩ := h9
    cases h9
    have hB1 := hB1.gr hk9
    have ha := ha.gr hk9
    have hbo := hbo.gr hk9
    have hy := hy.gr hk9
    have hgr := hgr.tr hk9
    refine l_gt (gd_f1 rfl rfl) ?_
    refine l_y (y_not rfl) rfl ?_
    refine l_y (y_pick rfl rfl rfl) rfl ?_
    refine l_nil ?_
    refine g_false rfl ?_
    refine g_skip ?_
    refine g_seq ?_
    refine g_reg ?_
    refine l_y (y_move rfl) rfl ?_
    refine l_call0 rfl rfl en14 (parse_good h _ _ hb hg (he.gr hgr) hbo.rc) (fun _ _ h => ⟨_, h.1⟩) rfl (fun w10 v10 h10 => ?_)
    obtain ⟨h10, hk10⟩ := h10
    cases h10
    have hB1 := hB1.gr hk10
    have ha := ha.gr hk10
    have hbo := hbo.gr hk10
    have hy := hy.gr hk10
    have hgr := hgr.tr hk10
    refine l_y (y_move rfl) rfl ?_
    refine l_y (y_ext rfl rfl) rfl ?_
    refine l_y (y_ext rfl rfl) rfl ?_
    refine l_alloc zT27 rfl (fun w11 g11 hk11 hg11 hB11 => ?_)
    have hl11 : w.heap.size ≤ g11 := Nat.le_trans hgr.le hg11
    have hn_g1_g11 : g1 ≠ g11 := by have := hB1.lt; omega
    have hB1 := hB1.gr hk11
    have ha := ha.gr hk11
    have hbo := hbo.gr hk11
    have hy := hy.gr hk11
    have hgr := hgr.tr hk11
    refine l_stm (vs := h.cells) rfl rfl hB11 rfl (by rw [Hd.len]; decide) (by exact Hd.one _) (by rw [szT27, Hd.len]) (fun w12 hg12 hs12 hS12 => ?_)
    have hB1 := hB1.grown hg12 (fun e => hn_g1_g11 (Option.some.inj e))
    have ha := ha.grown hg12 (.inr (fun e => ha.ne_blk hB11 (by decide) e.symm))
    have hbo := hbo.grown hg12 (.inr (fun e => hbo.ne_blk hB11 (by decide) e.symm))
    have hy := hy.grown hg12 (.inr (fun e => hy.ne_blk hB11 (by decide) e.symm))
    have hgr0 := hgr
    have hgr : Gr w w12 := hgr.grown hg12 hgr.le (fun k hk => by injection hk with hk; subst hk; exact hl11)
    have hB11 := Blk.whole hS12 (by rw [Hd.len]; rfl)
    refine l_y (y_assign rfl) rfl ?_
    refine l_nil ?_
    refine g_seq ?_
    refine g_reg ?_
    refine l_y (y_move rfl) rfl ?_
    refine l_y (y_eqnn rfl rfl Tryz.underlying31) rfl ?_
    refine l_y (y_move rfl) rfl ?_
    refine l_gt (gd_t1 rfl rfl) ?_
    refine l_y (y_ldbs (o := 0) (vs := h.cells) rfl hB11 (plain_gr _) Tryz.underlying27 rfl (by rw [szT27, Hd.len]) (fun j v hj => by show h.cells.toArray[0 + j]? = _; simpa using hj)) rfl ?_
    refine l_gt (gd_t1 rfl rfl) ?_
    refine l_y (y_ldbs (o := 0) (vs := h.cells) rfl hB1 (plain_gr _) Tryz.underlying27 rfl (by rw [szT27, Hd.len]) (fun j v hj => by show h.cells.toArray[0 + j]? = _; simpa using hj)) rfl ?_
    refine l_gt (gd_t1 rfl rfl) ?_
    refine l_y (y_eqA (b := true) (xs := h.cells) (ys := h.cells) rfl rfl eqHd.1 eqHd.2.1 (by decide) eqHd.2.2 Tryz.underlying27 rfl h.fits h.fits (by simp)) rfl ?_
    refine l_y (y_pick rfl rfl rfl) rfl ?_
    refine l_y (y_move rfl) rfl ?_
    refine l_gt (gd_t1 rfl rfl) ?_
    refine l_y (y_move rfl) rfl ?_
    refine l_gt (gd_t1 rfl rfl) ?_
    refine l_y (y_move rfl) rfl ?_
    refine l_gt (gd_t1 rfl rfl) ?_
    refine l_bsl (size := 1) (cs := #[va, vb]) (e := 29) rfl Tryz.underlying42 szT29 (by decide) rfl (fun _ => lit2 ha hbo _) rfl (fun wq vq hkq hq => ?_)
    replace ha := ha.gr hkq
    replace hbo := hbo.gr hkq
    replace hgr := hgr.tr hkq
    refine l_gt (gd_t1 rfl rfl) ?_
    refine l_call0 rfl rfl en15 (apart_any _ [va, vb] 2 w.heap.size _ (fun j => if j = 0 then h.body else h.text) _ rfl (rows2 ha hbo hsep) hq (fun j hj => by have h1 := Hd.body_length hg; have h2 := Hd.text_length hg; show (if j = 0 then h.body else h.text).length ≤ 1000000; split <;> omega) (by decide) hgr.le) (fun _ _ h => ⟨_, h.1⟩) rfl (fun w13 v13 h13 => ?_)
    obtain ⟨h13, hbw⟩ := h13
    cases h13
    replace hgr : Gr w w13 := hgr.trans hbw
    refine l_y (y_pick rfl rfl rfl) rfl ?_
    refine l_y (y_assign rfl) rfl ?_
    refine l_nil ?_
    refine g_ret Tryz.results3 rfl ?_
    exact ⟨rfl, hgr⟩

/-- NoteHeads: whatever the head: true. -/
theorem heads_any (h : Hd) (w : World) (he : Env w) : Calls Tryz.prog 3 #[h.val] w fun e w' => e = .returned (.bool true) ∧ Gr w w' := by
  by_cases hl : 500 < h.o.length
  · exact heads_long h hl w he
  · cases hb : h.good with
    | true => exact heads_good h (by omega) hb (Hd.good_iff hb) w he
    | false => exact heads_bad h (by omega) hb w he
end Go.Proofs.YtehfgmagmnjffaaGreatDoor.Heads
