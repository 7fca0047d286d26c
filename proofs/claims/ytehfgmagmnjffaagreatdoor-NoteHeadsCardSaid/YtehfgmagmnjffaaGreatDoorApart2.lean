/-
  Walks of functions: what each call comes to.
-/
import Derived.Test.YtehfgmagmnjffaaGreatDoorApart
import Derived.Test.YtehfgmagmnjffaaGreatDoorEnv
import Derived.Test.YtehfgmagmnjffaaGreatDoorEntry
namespace Go.Proofs.YtehfgmagmnjffaaGreatDoor.Apart2
open Go Go.RowKit Go.Proofs.YtehfgmagmnjffaaGreatDoor.E Go.Proofs.YtehfgmagmnjffaaGreatDoor.Pl
theorem hmix : Tryz.prog.follows .mixedOrders = true := by kernel_rfl
theorem szT5 : (Tryz.prog.info? 5).map (·.size) = some 1 := by kernel_rfl
theorem szT29 : (Tryz.prog.info? 29).map (·.size) = some 1 := by kernel_rfl
theorem inf5 : ∃ ti, Tryz.prog.info? 5 = some ti ∧ ti.zero = some (Value.int .u8 0) ∧ ti.size = 1 ∧ ti.bytes = 1 := by
  have h : (Tryz.prog.info? 5).map (fun i => (i.zero, i.size, i.bytes)) = some (some (Value.int .u8 0), 1, 1) := by kernel_rfl
  exact info_parts h
theorem inf29 : ∃ ti, Tryz.prog.info? 29 = some ti ∧ ti.zero = some (Value.slice none 0 0) ∧ ti.size = 1 ∧ ti.bytes = 24 := by
  have h : (Tryz.prog.info? 29).map (fun i => (i.zero, i.size, i.bytes)) = some (some (Value.slice none 0 0), 1, 24) := by kernel_rfl
  exact info_parts h

theorem own_sl {w : World} {base : Nat} {e : TypeId} {size k : Nat} {v : Value} {xs : List Value} (h : Own w base e size v k xs) : v.oneCell' = true := by
  obtain ⟨A, c, rfl, _⟩ := own_form h; rfl
theorem lit_bb {w : World} {base : Nat} {e : TypeId} {size k : Nat} {v : Value} {xs : List Value} (h : Own w base e size v k xs) (w' : World) : (Instr.buildSlice 42 1 #[(0, v)]).run Tryz.prog w' = .ok (.slice (some ⟨w'.heap.size, 0, none⟩) 1 1) (w'.alloc (.cells #[v] 29)) := by
  obtain ⟨A, c, rfl, _⟩ := own_form h; kernel_rfl
theorem apart_any (v : Value) (vs : List Value) (N B B0 : Nat) (O : Nat → Bs) (w : World) (hN : vs.length = N) (hR : RowsA w 5 B N (el vs) O) (hO : Own w B0 29 1 v N vs) (hOl : ∀ j, j < N → (O j).length ≤ 1000000) (hN1 : N ≤ 1000) (hB : B ≤ w.heap.size) : Calls Tryz.prog 15 #[v] w fun e w' => e = .returned (.bool true) ∧ Below B w w' := by
  obtain ⟨ti29, i291, i292, i293, i294⟩ := inf29
  obtain ⟨ti5, i51, i52, i53, i54⟩ := inf5
  refine enter (vs := [v]) Tryz.func15 rfl Tryz.ntmps15 rfl ?_
  refine g_seq ?_
  refine g_reg ?_
  refine l_y (y_assign rfl) rfl ?_
  refine l_nil ?_
  refine g_seq ?_
  refine g_seq ?_
  refine g_reg ?_
  refine l_y (y_move rfl) rfl ?_
  refine l_y (y_lenv rfl hO.rc.form Tryz.underlying42) rfl ?_
  refine l_y (y_move rfl) rfl ?_
  refine l_nil ?_
  refine g_block ?_
  refine g_loop (σ := Nat) (fun k => N - k) (fun k => [(0, v), (13, v), (14, .int .i64 N), (15, .int .i64 k)]) (fun k w' => k ≤ N ∧ RowsA w' 5 B N (el vs) (c1 O k) ∧ Own w' B0 29 1 v N vs ∧ Below B w w') 0 ⟨Nat.zero_le _, hR.eqv (fun j _ => c1_zero O j), hO, Below.refl _ _⟩ ⟨rfl, rfl, rfl, rfl, trivial⟩ ?_
  rintro k w' ⟨hk, hR, hO, hbw⟩
  refine g_seq ?_
  refine g_reg ?_
  refine l_y (y_lss rfl rfl) rfl ?_
  refine l_nil ?_
  refine g_seq ?_
  refine g_cond rfl (fun hc1 => ?_) (fun hc1 => ?_)
  · skip
    replace hc1 := of_decide_eq_true hc1
    refine g_skip ?_
    refine g_seq ?_
    refine g_block ?_
    refine g_seq ?_
    have hkN : k < N := by omega
    have hrow := hR.own k hkN
    have hlen := hOl k hkN
    have hkl : vs[k]? = some (el vs k) := el_get (by omega)
    have hc1 : c1 O k k = O k := by simp [c1]
    rw [hc1] at hrow
    refine g_reg ?_
    refine l_y (y_move rfl) rfl ?_
    refine l_y (y_ia rfl rfl hO.rc Tryz.underlying42 szT29 (by omega) (by omega)) rfl ?_
    refine l_y (y_ld rfl Tryz.underlying29 rfl (fun w' h => (hO.gr (plain_gr _ _ h)).rc.at_ (by rw [show (k : Int).toNat * 1 = k from by simp]; exact hkl))) rfl ?_
    refine l_y (y_assign rfl) rfl ?_
    refine l_y (y_assign rfl) rfl ?_
    refine l_nil ?_
    refine g_seq ?_
    refine g_reg ?_
    refine l_y (y_move rfl) rfl ?_
    refine l_y (y_lenv rfl hrow.rc.form Tryz.underlying29) rfl ?_
    refine l_y (y_move rfl) rfl ?_
    refine l_nil ?_
    refine g_block ?_
    refine g_loop (σ := Nat) (fun q => (O k).length - q) (fun q => [(0, v), (3, .int .i64 k), (4, el vs k), (13, v), (14, .int .i64 N), (15, .int .i64 k), (21, .int .i64 (O k).length), (22, .int .i64 q)]) (fun q w' => q ≤ (O k).length ∧ RowsA w' 5 B N (el vs) (c2 O k q) ∧ Own w' B0 29 1 v N vs ∧ Below B w w') 0 ⟨Nat.zero_le _, hR.eqv (fun j _ => c2_zero O k j), hO, hbw⟩ ⟨rfl, rfl, rfl, rfl, rfl, rfl, rfl, rfl, trivial⟩ ?_
    rintro q w'' ⟨hq, hR, hO, hbw⟩
    refine g_seq ?_
    refine g_reg ?_
    refine l_y (y_lss rfl rfl) rfl ?_
    refine l_nil ?_
    refine g_seq ?_
    refine g_cond rfl (fun hc2 => ?_) (fun hc2 => ?_)
    · skip
      replace hc2 := of_decide_eq_true hc2
      refine g_skip ?_
      refine g_seq ?_
      refine g_block ?_
      refine g_seq ?_
      refine g_reg ?_
      refine l_y (y_move rfl) rfl ?_
      refine l_y (y_assign rfl) rfl ?_
      refine l_nil ?_
      have hrow2 := hR.own k hkN
      rw [c2_at, mix_length k (O k) hq] at hrow2
      refine g_reg ?_
      refine l_y (y_move rfl) rfl ?_
      refine l_y (y_move rfl) rfl ?_
      refine l_y (y_move rfl) rfl ?_
      refine l_y (y_mulN rfl rfl (by omega)) rfl ?_
      refine l_y (y_move rfl) rfl ?_
      refine l_y (y_mulN rfl rfl (by omega)) rfl ?_
      refine l_y (y_addN rfl rfl (by omega)) rfl ?_
      refine l_y (y_addN rfl rfl (by omega)) rfl ?_
      refine l_y (y_as (v' := bc (UInt8.ofNat (31 * k + 3 * q + 1))) (y_as (v' := .int .u8 (IntKind.u8.wrap ((31 * k + 3 * q + 1 : Nat) : Int))) (y_conv rfl Tryz.underlying3 Tryz.underlying5) (by congr 2)) (wrap_bc _)) rfl ?_
      refine l_y (y_ia rfl rfl hrow2.rc Tryz.underlying29 szT5 (by omega) (by omega)) rfl ?_
      refine l_sto rfl rfl hrow2 (by omega) rfl rfl szT5 (fun w3 hg3 hs3 hf3 => ?_)
      replace hR : RowsA w3 5 B N (el vs) (c2 O k (q + 1)) := hR.set hkN hg3 (by
        rw [c2_at, ← mix_set k (O k) (by omega), List.length_set, List.map_set, mix_length k (O k) hq]
        rw [show ((q : Int).toNat * 1) = q from by simp] at hf3
        exact hf3) (fun j _ hj => c2_other O k q (q + 1) hj)
      replace hO := hO.grown hg3 (own_ne hO hrow2 (by decide))
      replace hbw := hbw.grown hg3 (Nat.le_trans hB hbw.size) (fun a ha => (hrow2.lt a ha).1)
      refine l_nil ?_
      refine g_blk ?_
      refine g_reg ?_
      refine l_y (y_addN rfl rfl (by omega)) rfl ?_
      refine l_y (y_move rfl) rfl ?_
      refine l_nil ?_
      exact g_lp fun a ha => ⟨q + 1, by omega, ha.sub ⟨rfl, rfl, rfl, rfl, rfl, rfl, rfl, rfl, trivial⟩, by omega, hR, hO, hbw⟩
    · skip
      replace hc2 := of_decide_eq_false hc2
      refine g_exit rfl ?_
      refine g_blk ?_
      refine g_reg ?_
      refine l_y (y_addN rfl rfl (by omega)) rfl ?_
      refine l_y (y_move rfl) rfl ?_
      refine l_nil ?_
      exact g_lp fun a ha => ⟨k + 1, by omega, ha.sub ⟨rfl, rfl, rfl, rfl, trivial⟩, by omega, hR.eqv (fun j _ => by rw [c2_full, show q = (O k).length from by omega]), hO, hbw⟩
  · skip
    replace hc1 := of_decide_eq_false hc1
    refine g_exit rfl ?_
    refine g_seq ?_
    refine g_reg ?_
    refine l_bsl (size := 1) (cs := #[]) (e := 29) rfl Tryz.underlying42 szT29 (by decide) rfl (fun _ => by kernel_rfl) rfl (fun w4 g0 hk4 hg0 => ?_)
    obtain ⟨K, hK⟩ : ∃ K, K = w'.heap.size := ⟨_, rfl⟩
    rw [← hK] at hg0
    have hG0 := hR.start (n := fun j => (O j).length) (fun j hj => by rw [show k = N from by omega]; exact c1_all O N j hj)
    rw [← hK] at hG0
    have hG : Grow w4 5 B K N (el vs) (fun j => (O j).length) (el vs) (mN O 0) := (hG0.gr hk4).eqv (fun j _ => mN_zero O j)
    have hO0 := hO
    replace hO := hO.gr hk4
    have hvK : ∀ a, v.ownBlock = some a → a < K := fun a ha => by rw [hK]; exact (hO0.lt a ha).2
    have hKB : B ≤ K := by rw [hK]; exact Nat.le_trans hB hbw.size
    replace hbw : Below B w w4 := hbw.trans (hk4.mono (by omega))
    replace hg0 : Own w4 K 29 1 g0 0 ((List.range 0).map (el vs)) := hg0
    refine l_y (y_assign rfl) rfl ?_
    refine l_nil ?_
    refine g_seq ?_
    refine g_seq ?_
    refine g_reg ?_
    refine l_y (y_move rfl) rfl ?_
    refine l_y (y_lenv rfl hO.rc.form Tryz.underlying42) rfl ?_
    refine l_y (y_move rfl) rfl ?_
    refine l_nil ?_
    refine g_block ?_
    refine g_loop (σ := Nat × (Nat → Value) × Value) (fun p => N - p.1) (fun p => [(0, v), (6, p.2.2), (38, v), (39, .int .i64 N), (40, .int .i64 p.1)]) (fun p w' => p.1 ≤ N ∧ Grow w' 5 B K N (el vs) (fun j => (O j).length) p.2.1 (mN O p.1) ∧ (∀ j, p.1 ≤ j → p.2.1 j = el vs j) ∧ Own w' K 29 1 p.2.2 p.1 ((List.range p.1).map p.2.1) ∧ Own w' B0 29 1 v N vs ∧ Below B w w') (0, el vs, g0) ⟨Nat.zero_le _, hG, fun _ _ => rfl, hg0, hO, hbw⟩ ⟨rfl, rfl, rfl, rfl, rfl, trivial⟩ ?_
    rintro ⟨i, cur, gv⟩ w' ⟨hi, hG, hcur, hgv, hO, hbw⟩
    dsimp only at hi hG hcur hgv hO hbw ⊢
    refine g_seq ?_
    refine g_reg ?_
    refine l_y (y_lss rfl rfl) rfl ?_
    refine l_nil ?_
    refine g_seq ?_
    refine g_cond rfl (fun hc3 => ?_) (fun hc3 => ?_)
    · skip
      replace hc3 := of_decide_eq_true hc3
      refine g_skip ?_
      refine g_seq ?_
      refine g_block ?_
      refine g_seq ?_
      have hiN : i < N := by omega
      have hlen := hOl i hiN
      have hkl : vs[i]? = some (el vs i) := el_get (by omega)
      have hrow := hG.own i hiN
      have hm : mN O i i = (O i).length := by simp [mN]
      rw [hm, hcur i (Nat.le_refl _)] at hrow
      refine g_reg ?_
      refine l_y (y_move rfl) rfl ?_
      refine l_y (y_ia rfl rfl hO.rc Tryz.underlying42 szT29 (by omega) (by omega)) rfl ?_
      refine l_y (y_ld rfl Tryz.underlying29 rfl (fun w' h => (hO.gr (plain_gr _ _ h)).rc.at_ (by rw [show (i : Int).toNat * 1 = i from by simp]; exact hkl))) rfl ?_
      refine l_y (y_assign rfl) rfl ?_
      refine l_y (y_assign rfl) rfl ?_
      refine l_nil ?_
      refine g_seq ?_
      refine g_reg ?_
      refine l_y (y_move rfl) rfl ?_
      refine l_y (y_lenv rfl hrow.rc.form Tryz.underlying29) rfl ?_
      refine l_y (y_assign rfl) rfl ?_
      refine l_nil ?_
      refine g_seq ?_
      refine g_block ?_
      refine g_loop (σ := Nat × (Nat → Value)) (fun p => (O i).length + 10 - p.1) (fun p => [(0, v), (6, gv), (7, .int .i64 i), (8, p.2 i), (9, .int .i64 (O i).length), (38, v), (39, .int .i64 N), (40, .int .i64 i)]) (fun p w' => (O i).length ≤ p.1 ∧ p.1 ≤ (O i).length + 10 ∧ Grow w' 5 B K N (el vs) (fun j => (O j).length) p.2 (mQ O i p.1) ∧ (∀ j, i < j → p.2 j = el vs j) ∧ Own w' K 29 1 gv i ((List.range i).map p.2) ∧ Own w' B0 29 1 v N vs ∧ Below B w w') ((O i).length, cur) ⟨Nat.le_refl _, by show (O i).length ≤ (O i).length + 10; omega, hG.eqv (fun j _ => mQ_zero O i j), fun j hj => hcur j (by omega), hgv, hO, hbw⟩ ⟨rfl, rfl, rfl, (by show some (el vs i) = some (cur i); rw [hcur i (Nat.le_refl _)]), rfl, rfl, rfl, rfl, trivial⟩ ?_
      rintro ⟨q, cu⟩ w'' ⟨hq1, hq2, hG, hcur2, hgv, hO, hbw⟩
      dsimp only at hq1 hq2 hG hcur2 hgv hO hbw ⊢
      refine g_seq ?_
      refine g_seq ?_
      have hrow2 := hG.own i hiN
      rw [mQ_at] at hrow2
      refine g_reg ?_
      refine l_y (y_move rfl) rfl ?_
      refine l_y (y_lenv rfl hrow2.rc.form Tryz.underlying29) rfl ?_
      refine l_y (y_move rfl) rfl ?_
      refine l_y (y_addN rfl rfl (by omega)) rfl ?_
      refine l_y (y_lss rfl rfl) rfl ?_
      refine l_nil ?_
      refine g_cond rfl (fun hc4 => ?_) (fun hc4 => ?_)
      · skip
        replace hc4 := of_decide_eq_true hc4
        refine g_skip ?_
        refine g_block ?_
        refine g_reg ?_
        refine l_y (y_move rfl) rfl ?_
        refine l_y (y_move rfl) rfl ?_
        refine l_y (y_mulN rfl rfl (by omega)) rfl ?_
        refine l_y (y_move rfl) rfl ?_
        refine l_y (y_lenv rfl hrow2.rc.form Tryz.underlying29) rfl ?_
        refine l_y (y_mulN rfl rfl (by omega)) rfl ?_
        refine l_y (y_addN rfl rfl (by omega)) rfl ?_
        refine l_y (y_addN rfl rfl (by omega)) rfl ?_
        refine l_y (y_as (v' := bc (UInt8.ofNat (31 * i + 3 * q + 1))) (y_as (v' := .int .u8 (IntKind.u8.wrap ((31 * i + 3 * q + 1 : Nat) : Int))) (y_conv rfl Tryz.underlying3 Tryz.underlying5) (by congr 2)) (wrap_bc _)) rfl ?_
        refine l_bsl (size := 1) (cs := #[bc (UInt8.ofNat (31 * i + 3 * q + 1))]) (e := 5) rfl Tryz.underlying29 szT5 (by decide) rfl (fun _ => by kernel_rfl) rfl (fun w5 v5 hk5 ho5 => ?_)
        replace hrow2 := hrow2.gr hk5
        replace hG := hG.gr hk5
        replace hgv := hgv.gr hk5
        replace hO := hO.gr hk5
        replace hbw : Below B w w5 := hbw.trans (hk5.mono (Nat.le_trans hB hbw.size))
        refine l_app rfl rfl hrow2 (Src.rc _ Tryz.underlying29 ho5.rc (by intro u hu; simp at hu; subst hu; rfl)) Tryz.underlying29 i51 i52 i53 i54 rfl (by simp only [maxLen]; omega) (by omega) (by decide) (Nat.le_trans hB hbw.size) rfl (fun w6 v6 hg6 ho6 hb6 => ?_)
        have hpu := hG.push hiN hg6 (by rw [mQ_at, pat_succ]; simpa using ho6) hb6
        replace hG := hpu.eqv (fun j _ => mQ_push O i q j)
        replace hgv := hgv.grown hg6 (own_ne hgv hrow2 (by decide))
        replace hO := hO.grown hg6 (own_ne hO hrow2 (by decide))
        replace hbw := hbw.grown hg6 (Nat.le_trans hB hbw.size) (fun a ha => (hrow2.lt a ha).1)
        refine l_y (y_assign rfl) rfl ?_
        refine l_nil ?_
        refine g_blk ?_
        exact g_lp fun a ha => ⟨(q + 1, updV cu i v6), by show (O i).length + 10 - (q + 1) < (O i).length + 10 - q; omega, ha.sub ⟨rfl, rfl, rfl, (by show some v6 = some (updV cu i v6 i); simp [updV]), rfl, rfl, rfl, rfl, trivial⟩, by show (O i).length ≤ q + 1; omega, by show q + 1 ≤ (O i).length + 10; omega, hG, fun j hj => by show updV cu i v6 j = _; rw [updV, if_neg (by omega)]; exact hcur2 j hj, by show Own _ K 29 1 gv i ((List.range i).map (updV cu i v6)); rw [range_upd]; exact hgv, hO, hbw⟩
      · skip
        replace hc4 := of_decide_eq_false hc4
        refine g_exit rfl ?_
        have hrow2 := hG.own i hiN
        obtain rfl : q = (O i).length + 10 := by omega
        rw [mQ_at] at hrow2
        replace hG : Grow w'' 5 B K N (el vs) (fun j => (O j).length) cu (mN O (i + 1)) := hG.eqv (fun j _ => mQ_full O i j)
        refine g_reg ?_
        refine l_y (y_move rfl) rfl ?_
        refine l_y (y_move rfl) rfl ?_
        refine l_bsl (size := 1) (cs := #[cu i]) (e := 29) rfl Tryz.underlying42 szT29 (by decide) rfl (fun _ => lit_bb hrow2 _) rfl (fun w7 v7 hk7 ho7 => ?_)
        replace hrow2 := hrow2.gr hk7
        replace hG := hG.gr hk7
        replace hgv := hgv.gr hk7
        replace hO := hO.gr hk7
        replace hbw : Below B w w7 := hbw.trans (hk7.mono (Nat.le_trans hB hbw.size))
        have hog : Sepb v gv := by
          cases hq : v.ownBlock with
          | none => exact .inl hq
          | some a => exact .inr (fun e => by have h1 := hvK a hq; have h2 := (hgv.lt a (by rw [← e]; exact hq)).1; omega)
        refine l_app rfl rfl hgv (Src.rc _ Tryz.underlying42 ho7.rc (by intro u hu; simp at hu; subst hu; exact own_sl hrow2)) Tryz.underlying42 i291 i292 i293 i294 rfl (by simp only [maxLen]; omega) (by omega) (by decide) (Nat.le_trans hG.sz (Nat.le_refl _)) rfl (fun w8 v8 hg8 ho8 hb8 => ?_)
        have hcg : ∀ j, j < N → Sepb (cu j) gv := fun j hj => own_ne (hG.own j hj) hgv (by decide)
        have hxg : ∀ j, j < N → Sepb (el vs j) gv := fun j hj => by
          cases hq : (el vs j).ownBlock with
          | none => exact .inl hq
          | some a => exact .inr (fun e => by have h1 := hG.lt j hj a hq; have h2 := (hgv.lt a (by rw [← e]; exact hq)).1; omega)
        replace hG := hG.other hg8 hcg hxg
        replace hO := hO.grown hg8 hog
        replace hbw := hbw.grown hg8 (Nat.le_trans hB hbw.size) (fun a ha => Nat.le_trans hKB (hgv.lt a ha).1)
        replace hgv : Own w8 K 29 1 v8 (i + 1) ((List.range (i + 1)).map cu) := by rw [List.range_succ, List.map_append]; exact ho8
        refine l_y (y_assign rfl) rfl ?_
        refine l_nil ?_
        refine g_blk ?_
        refine g_reg ?_
        refine l_y (y_addN rfl rfl (by omega)) rfl ?_
        refine l_y (y_move rfl) rfl ?_
        refine l_nil ?_
        exact g_lp fun a ha => ⟨(i + 1, cu, v8), by show N - (i + 1) < N - i; omega, ha.sub ⟨rfl, rfl, rfl, rfl, rfl, trivial⟩, by show i + 1 ≤ N; omega, hG, fun j hj => hcur2 j (by have : i + 1 ≤ j := hj; omega), hgv, hO, hbw⟩
    · skip
      replace hc3 := of_decide_eq_false hc3
      refine g_exit rfl ?_
      refine g_seq ?_
      refine g_seq ?_
      have hiN0 : i = N := by omega
      rw [hiN0] at hG hgv
      refine g_reg ?_
      refine l_y (y_move rfl) rfl ?_
      refine l_y (y_lenv rfl hgv.rc.form Tryz.underlying42) rfl ?_
      refine l_y (y_move rfl) rfl ?_
      refine l_nil ?_
      refine g_block ?_
      refine g_loop (σ := Nat) (fun i => N - i) (fun i => [(0, v), (68, gv), (69, .int .i64 N), (70, .int .i64 i)]) (fun i w' => i ≤ N ∧ Grow w' 5 B K N (el vs) (fun j => (O j).length) cur (mN O N) ∧ Own w' K 29 1 gv N ((List.range N).map cur) ∧ Own w' B0 29 1 v N vs ∧ Below B w w') 0 ⟨Nat.zero_le _, hG, hgv, hO, hbw⟩ ⟨rfl, rfl, rfl, rfl, trivial⟩ ?_
      rintro i w' ⟨hi, hG, hgv, hO, hbw⟩
      refine g_seq ?_
      refine g_reg ?_
      refine l_y (y_lss rfl rfl) rfl ?_
      refine l_nil ?_
      refine g_seq ?_
      refine g_cond rfl (fun hc5 => ?_) (fun hc5 => ?_)
      · skip
        replace hc5 := of_decide_eq_true hc5
        refine g_skip ?_
        refine g_seq ?_
        refine g_block ?_
        refine g_seq ?_
        have hiN : i < N := by omega
        have hlen := hOl i hiN
        have hrow := hG.own i hiN
        rw [mN_all O N i hiN] at hrow
        have hgl : ((List.range N).map cur)[i]? = some (cur i) := by simp [hiN]
        refine g_reg ?_
        refine l_y (y_move rfl) rfl ?_
        refine l_y (y_ia rfl rfl hgv.rc Tryz.underlying42 szT29 (by omega) (by omega)) rfl ?_
        refine l_y (y_ld rfl Tryz.underlying29 rfl (fun w' h => (hgv.gr (plain_gr _ _ h)).rc.at_ (by rw [show (i : Int).toNat * 1 = i from by simp]; exact hgl))) rfl ?_
        refine l_y (y_assign rfl) rfl ?_
        refine l_y (y_assign rfl) rfl ?_
        refine l_nil ?_
        refine g_seq ?_
        refine g_reg ?_
        refine l_y (y_move rfl) rfl ?_
        refine l_y (y_lenv rfl hrow.rc.form Tryz.underlying29) rfl ?_
        refine l_y (y_move rfl) rfl ?_
        refine l_nil ?_
        refine g_block ?_
        refine g_loop (σ := Nat) (fun q => (O i).length + 10 - q) (fun q => [(0, v), (10, .int .i64 i), (11, cur i), (68, gv), (69, .int .i64 N), (70, .int .i64 i), (76, .int .i64 ((O i).length + 10 : Nat)), (77, .int .i64 q)]) (fun q w' => q ≤ (O i).length + 10 ∧ Grow w' 5 B K N (el vs) (fun j => (O j).length) cur (mN O N) ∧ Own w' K 29 1 gv N ((List.range N).map cur) ∧ Own w' B0 29 1 v N vs ∧ Below B w w') 0 ⟨Nat.zero_le _, hG, hgv, hO, hbw⟩ ⟨rfl, rfl, rfl, rfl, rfl, rfl, rfl, rfl, trivial⟩ ?_
        rintro q w'' ⟨hq, hG, hgv, hO, hbw⟩
        refine g_seq ?_
        refine g_reg ?_
        refine l_y (y_lss rfl rfl) rfl ?_
        refine l_nil ?_
        refine g_seq ?_
        refine g_cond rfl (fun hc6 => ?_) (fun hc6 => ?_)
        · skip
          replace hc6 := of_decide_eq_true hc6
          refine g_skip ?_
          refine g_seq ?_
          refine g_block ?_
          refine g_seq ?_
          refine g_reg ?_
          refine l_y (y_move rfl) rfl ?_
          refine l_y (y_assign rfl) rfl ?_
          refine l_nil ?_
          refine g_seq ?_
          have hdd := pat_get i (n := (O i).length + 10) (k := q) (by omega)
          have hil : vs[i]? = some (el vs i) := el_get (by omega)
          refine g_draw Gr hmix (fun w1 hk1 he1 => ?_)
          have hG := hG.gr hk1
          have hgv := hgv.gr hk1
          have hO := hO.gr hk1
          have hgr := hk1
          have hq := Gr.rf w1
          have hrow := hG.own i hiN
          rw [mN_all O N i hiN] at hrow
          have hrc := hG.rc hiN
          refine h_take 0 rfl (by kernel_rfl) (y_move rfl) rfl hq ?_
          refine h_take 1 rfl (by kernel_rfl) (y_move rfl) rfl hq ?_
          refine h_take 2 rfl (by kernel_rfl) (y_ia rfl rfl hrow.rc Tryz.underlying29 szT5 (by omega) (by omega)) rfl hq ?_
          refine h_take 3 rfl (by kernel_rfl) (y_ld rfl Tryz.underlying5 rfl (fun w' h => (hrow.gr h).rc.at_ (by rw [show (q : Int).toNat * 1 = q from by simp, List.getElem?_map, hdd]; rfl))) rfl hq ?_
          refine h_take 4 rfl (by kernel_rfl) (y_move rfl) rfl hq ?_
          refine h_take 5 rfl (by kernel_rfl) (y_mulN rfl rfl (by omega)) rfl hq ?_
          refine h_take 6 rfl (by kernel_rfl) (y_move rfl) rfl hq ?_
          refine h_take 7 rfl (by kernel_rfl) (y_mulN rfl rfl (by omega)) rfl hq ?_
          refine h_take 8 rfl (by kernel_rfl) (y_addN rfl rfl (by omega)) rfl hq ?_
          refine h_take 9 rfl (by kernel_rfl) (y_addN rfl rfl (by omega)) rfl hq ?_
          refine h_take 10 rfl (by kernel_rfl) (y_as (v' := bc (UInt8.ofNat (31 * i + 3 * q + 1))) (y_as (v' := .int .u8 (IntKind.u8.wrap ((31 * i + 3 * q + 1 : Nat) : Int))) (y_conv rfl Tryz.underlying3 Tryz.underlying5) (by congr 2)) (wrap_bc _)) rfl hq ?_
          refine h_take 11 rfl (by kernel_rfl) (y_as (v' := .bool false) (y_neq rfl rfl) (by simp)) rfl hq ?_
          refine h_take 12 rfl (by kernel_rfl) (y_move rfl) rfl hq ?_
          refine h_takeT 13 rfl (by kernel_rfl) (gd_f1 rfl rfl) (y_move rfl) rfl hq ?_
          refine h_takeT 14 rfl (by kernel_rfl) (gd_f1 rfl rfl) (y_move rfl) rfl hq ?_
          refine h_takeT 15 rfl (by kernel_rfl) (gd_f1 rfl rfl) (y_move rfl) rfl hq ?_
          refine h_takeT 16 rfl (by kernel_rfl) (gd_f1 rfl rfl) (y_ia rfl rfl hO.rc Tryz.underlying42 szT29 (by omega) (by omega)) rfl hq ?_
          refine h_takeT 17 rfl (by kernel_rfl) (gd_f1 rfl rfl) (y_ld rfl Tryz.underlying29 rfl (fun w' h => (hO.gr h).rc.at_ (by rw [show (i : Int).toNat * 1 = i from by simp]; exact hil))) rfl hq ?_
          refine h_takeT 18 rfl (by kernel_rfl) (gd_f1 rfl rfl) (y_lenv rfl hrc.form Tryz.underlying29) rfl hq ?_
          refine h_takeT 19 rfl (by kernel_rfl) (gd_f1 rfl rfl) (y_lss rfl rfl) rfl hq ?_
          refine h_takeT 20 rfl (by kernel_rfl) (gd_f1 rfl rfl) (y_move rfl) rfl hq ?_
          refine h_takeg 21 rfl (by kernel_rfl) (gd_t rfl rfl) (fun hc => y_move rfl) rfl hq ?_
          refine h_takeg 22 rfl (by kernel_rfl) (gd_t rfl rfl) (fun hc => y_move rfl) rfl hq ?_
          refine h_takeg 23 rfl (by kernel_rfl) (gd_t rfl rfl) (fun hc => y_ia (og rfl hc) (og rfl hc) hO.rc Tryz.underlying42 szT29 (by omega) (by omega)) rfl hq ?_
          refine h_takeg 24 rfl (by kernel_rfl) (gd_t rfl rfl) (fun hc => y_ld (og rfl hc) Tryz.underlying29 rfl (fun w' h => (hO.gr h).rc.at_ (by rw [show (i : Int).toNat * 1 = i from by simp]; exact hil))) rfl hq ?_
          refine h_takeg 25 rfl (by kernel_rfl) (gd_t rfl rfl) (fun hc => y_move rfl) rfl hq ?_
          refine h_takeg 26 rfl (by kernel_rfl) (gd_t rfl rfl) (fun hc => y_ia (og rfl hc) (og rfl hc) hrc Tryz.underlying29 szT5 (by omega) (by simpa using hc)) rfl hq ?_
          refine h_takeg 27 rfl (by kernel_rfl) (gd_t rfl rfl) (fun hc => y_ld (og rfl hc) Tryz.underlying5 rfl (fun w' h => (hrc.gr h).at_ (by rw [show (q : Int).toNat * 1 = q from by simp, List.getElem?_map, pat_get i (by simpa using hc)]; rfl))) rfl hq ?_
          refine h_takeg 28 rfl (by kernel_rfl) (gd_t rfl rfl) (fun hc => y_move rfl) rfl hq ?_
          refine h_takeg 29 rfl (by kernel_rfl) (gd_t rfl rfl) (fun hc => y_move rfl) rfl hq ?_
          refine h_takeg 30 rfl (by kernel_rfl) (gd_t rfl rfl) (fun hc => y_ia (og rfl hc) (og rfl hc) hrow.rc Tryz.underlying29 szT5 (by omega) (by omega)) rfl hq ?_
          refine h_takeg 31 rfl (by kernel_rfl) (gd_t rfl rfl) (fun hc => y_ld (og rfl hc) Tryz.underlying5 rfl (fun w' h => (hrow.gr h).rc.at_ (by rw [show (q : Int).toNat * 1 = q from by simp, List.getElem?_map, hdd]; rfl))) rfl hq ?_
          refine h_takeg 32 rfl (by kernel_rfl) (gd_t rfl rfl) (fun hc => y_as (v' := .bool false) (y_neq (og rfl hc) (og rfl hc)) (by simp)) rfl hq ?_
          refine h_takeT 33 rfl (by kernel_rfl) (gd_f1 rfl rfl) (y_pand rfl rfl (fun h => h)) rfl hq ?_
          refine h_take 34 rfl (by kernel_rfl) (y_pick rfl rfl rfl) rfl hq ?_
          refine h_done (by kernel_rfl) hq ?_
          replace hbw := hbw.trans (hgr.mono (Nat.le_trans hB hbw.size))
          refine g_cond rfl (fun hc7 => ?_) (fun hc7 => ?_)
          · exact absurd hc7 (by simp)
          · skip
            try simp only [Bool.and_eq_false_iff, Bool.or_eq_false_iff, decide_eq_false_iff_not, Bool.not_eq_false', ne_eq, Decidable.not_not] at hc7
            refine g_skip ?_
            refine g_blk ?_
            refine g_reg ?_
            refine l_y (y_addN rfl rfl (by omega)) rfl ?_
            refine l_y (y_move rfl) rfl ?_
            refine l_nil ?_
            exact g_lp fun a ha => ⟨q + 1, by omega, ha.sub ⟨rfl, rfl, rfl, rfl, rfl, rfl, rfl, rfl, trivial⟩, by omega, hG, hgv, hO, hbw⟩
        · skip
          replace hc6 := of_decide_eq_false hc6
          refine g_exit rfl ?_
          refine g_blk ?_
          refine g_reg ?_
          refine l_y (y_addN rfl rfl (by omega)) rfl ?_
          refine l_y (y_move rfl) rfl ?_
          refine l_nil ?_
          exact g_lp fun a ha => ⟨i + 1, by omega, ha.sub ⟨rfl, rfl, rfl, rfl, trivial⟩, by omega, hG, hgv, hO, hbw⟩
      · skip
        replace hc5 := of_decide_eq_false hc5
        refine g_exit rfl ?_
        refine g_seq ?_
        refine g_reg ?_
        refine l_y (y_assign rfl) rfl ?_
        refine l_nil ?_
        refine g_ret Tryz.results15 rfl ?_
        exact ⟨rfl, hbw⟩

end Go.Proofs.YtehfgmagmnjffaaGreatDoor.Apart2
