/-
  Walks of functions: what each call comes to.
-/
import Derived.Test.YtehfgmagmnjffaaGreatDoorAgg
import Derived.Test.YtehfgmagmnjffaaGreatDoorPlain
import Derived.Test.YtehfgmagmnjffaaGreatDoorProg
namespace Go.Proofs.YtehfgmagmnjffaaGreatDoor.Ref14
open Go Go.RowKit Go.Proofs.YtehfgmagmnjffaaGreatDoor.E Go.Proofs.YtehfgmagmnjffaaGreatDoor.Pl
theorem hmix : Tryz.prog.follows .mixedOrders = true := by kernel_rfl
theorem en65 : Enters Tryz.prog 65 := enters_of Tryz.func65 (by kernel_rfl) rfl
theorem szT3 : (Tryz.prog.info? 3).map (·.size) = some 1 := by kernel_rfl
theorem szT5 : (Tryz.prog.info? 5).map (·.size) = some 1 := by kernel_rfl
theorem zT106 : ∀ w, (zeroValue 106).run Tryz.prog w = .ok (Value.agg ((List.replicate 3 (Value.int .i64 0))).toArray) w := fun _ => by kernel_rfl
theorem inf5 : ∃ ti, Tryz.prog.info? 5 = some ti ∧ ti.zero = some (Value.int .u8 0) ∧ ti.size = 1 ∧ ti.bytes = 1 := by
  have h : (Tryz.prog.info? 5).map (fun i => (i.zero, i.size, i.bytes)) = some (some (Value.int .u8 0), 1, 1) := by kernel_rfl
  exact info_parts h

theorem six_v {n : Nat} (h : n < 64) {i : Int} (e : i = ((if n < 26 then 65 + n else if n < 52 then 71 + n else if n < 62 then n - 4 else if n = 62 then 43 else 47 : Nat) : Int)) : Ending.returned (.int .u8 i) = .returned (bc (six n)) := by
  rw [e, ← six_nat h]
theorem six_any (n : Nat) (h : n < 64) (w : World)  : Calls Tryz.prog 65 #[.int .i64 n] w fun e w' => e = .returned (bc (six n)) ∧ Gr w w' := by
  refine enter (vs := [.int .i64 n]) Tryz.func65 rfl Tryz.ntmps65 rfl ?_
  refine g_seq ?_
  refine g_reg ?_
  refine l_y (y_assign rfl) rfl ?_
  refine l_nil ?_
  refine g_seq ?_
  refine g_seq ?_
  refine g_reg ?_
  refine l_y (y_move rfl) rfl ?_
  refine l_y (y_lss rfl rfl) rfl ?_
  refine l_nil ?_
  refine g_cond rfl (fun hc1 => ?_) (fun hc1 => ?_)
  · skip
    replace hc1 := of_decide_eq_true hc1
    refine g_seq ?_
    refine g_reg ?_
    refine l_y (y_move rfl) rfl ?_
    refine l_y (y_addN rfl rfl (by omega)) rfl ?_
    refine l_y (y_convN rfl Tryz.underlying3 Tryz.underlying5 (by simp only [IntKind.wrap_u8]; omega)) rfl ?_
    refine l_y (y_assign rfl) rfl ?_
    refine l_nil ?_
    refine g_ret Tryz.results65 rfl ?_
    exact ⟨six_v h (by (repeat' split) <;> omega), Gr.rf _⟩
  · skip
    replace hc1 := of_decide_eq_false hc1
    refine g_skip ?_
    refine g_seq ?_
    refine g_seq ?_
    refine g_reg ?_
    refine l_y (y_move rfl) rfl ?_
    refine l_y (y_lss rfl rfl) rfl ?_
    refine l_nil ?_
    refine g_cond rfl (fun hc2 => ?_) (fun hc2 => ?_)
    · skip
      replace hc2 := of_decide_eq_true hc2
      refine g_seq ?_
      refine g_reg ?_
      refine l_y (y_move rfl) rfl ?_
      refine l_y (y_addN rfl rfl (by omega)) rfl ?_
      refine l_y (y_subN rfl rfl (by omega)) rfl ?_
      refine l_y (y_convN rfl Tryz.underlying3 Tryz.underlying5 (by simp only [IntKind.wrap_u8]; omega)) rfl ?_
      refine l_y (y_assign rfl) rfl ?_
      refine l_nil ?_
      refine g_ret Tryz.results65 rfl ?_
      exact ⟨six_v h (by (repeat' split) <;> omega), Gr.rf _⟩
    · skip
      replace hc2 := of_decide_eq_false hc2
      refine g_skip ?_
      refine g_seq ?_
      refine g_seq ?_
      refine g_reg ?_
      refine l_y (y_move rfl) rfl ?_
      refine l_y (y_lss rfl rfl) rfl ?_
      refine l_nil ?_
      refine g_cond rfl (fun hc3 => ?_) (fun hc3 => ?_)
      · skip
        replace hc3 := of_decide_eq_true hc3
        refine g_seq ?_
        refine g_reg ?_
        refine l_y (y_move rfl) rfl ?_
        refine l_y (y_addN rfl rfl (by omega)) rfl ?_
        refine l_y (y_subN rfl rfl (by omega)) rfl ?_
        refine l_y (y_convN rfl Tryz.underlying3 Tryz.underlying5 (by simp only [IntKind.wrap_u8]; omega)) rfl ?_
        refine l_y (y_assign rfl) rfl ?_
        refine l_nil ?_
        refine g_ret Tryz.results65 rfl ?_
        exact ⟨six_v h (by (repeat' split) <;> omega), Gr.rf _⟩
      · skip
        replace hc3 := of_decide_eq_false hc3
        refine g_skip ?_
        refine g_seq ?_
        refine g_seq ?_
        refine g_reg ?_
        refine l_y (y_move rfl) rfl ?_
        refine l_y (y_eql rfl rfl) rfl ?_
        refine l_nil ?_
        refine g_cond rfl (fun hc4 => ?_) (fun hc4 => ?_)
        · skip
          replace hc4 := of_decide_eq_true hc4
          refine g_seq ?_
          refine g_reg ?_
          refine l_y (y_assign rfl) rfl ?_
          refine l_nil ?_
          refine g_ret Tryz.results65 rfl ?_
          exact ⟨six_v h (by (repeat' split) <;> omega), Gr.rf _⟩
        · skip
          replace hc4 := of_decide_eq_false hc4
          refine g_skip ?_
          refine g_seq ?_
          refine g_reg ?_
          refine l_y (y_assign rfl) rfl ?_
          refine l_nil ?_
          refine g_ret Tryz.results65 rfl ?_
          exact ⟨six_v h (by (repeat' split) <;> omega), Gr.rf _⟩

theorem hexr_any (v : Value) (s : Bs) (w : World) (hv : Rc w 1 v s.length (s.map bc)) (hs : s.length ≤ 1000000) : Calls Tryz.prog 34 #[v] w fun e w' => e = .returned (.string (S (hex s))) ∧ Gr w w' := by
  obtain ⟨ti5, i51, i52, i53, i54⟩ := inf5
  refine enter (vs := [v]) Tryz.func34 rfl Tryz.ntmps34 rfl ?_
  refine g_seq ?_
  refine g_reg ?_
  refine l_y (y_assign rfl) rfl ?_
  refine l_nil ?_
  refine g_seq ?_
  refine g_reg ?_
  refine l_y (y_assign rfl) rfl ?_
  refine l_nil ?_
  refine g_seq ?_
  refine g_reg ?_
  refine l_y (y_assign rfl) rfl ?_
  refine l_nil ?_
  refine g_seq ?_
  refine g_seq ?_
  refine g_reg ?_
  refine l_y (y_assign rfl) rfl ?_
  refine l_nil ?_
  refine g_block ?_
  refine g_loop (σ := Nat × Value) (fun p => s.length - p.1) (fun p => [(0, v), (3, .string (S figs)), (4, p.2), (5, .int .i64 p.1)]) (fun p w' => p.1 ≤ s.length ∧ Own w' w.heap.size 5 1 p.2 (hex (s.take p.1)).length ((hex (s.take p.1)).map bc) ∧ Gr w w') (0, .slice none 0 0) ⟨Nat.zero_le _, Own.nil _ _ _ _, Gr.rf _⟩ ⟨rfl, rfl, rfl, rfl, trivial⟩ ?_
  rintro ⟨k, o⟩ w' ⟨hk, hown, hgr⟩
  dsimp only at hk hown ⊢
  refine g_seq ?_
  refine g_seq ?_
  refine g_reg ?_
  refine l_y (y_move rfl) rfl ?_
  refine l_y (y_move rfl) rfl ?_
  refine l_y (y_lenv rfl hv.form Tryz.underlying29) rfl ?_
  refine l_y (y_lss rfl rfl) rfl ?_
  refine l_nil ?_
  refine g_cond rfl (fun hc1 => ?_) (fun hc1 => ?_)
  · skip
    replace hc1 := of_decide_eq_true hc1
    refine g_skip ?_
    refine g_seq ?_
    refine g_block ?_
    obtain ⟨b, hb⟩ := get_some s (k := k) (by omega)
    have hb8 := b.toNat_lt
    have hbl : (s.map bc)[(k : Int).toNat * 1]? = some (bc b) := by simp [hb]
    have hl := hex_length (s.take k)
    have hlt : (s.take k).length = k := by simp; omega
    refine g_draw (fun _ b => Gr w b) hmix (fun w1 hk1 he1 => ?_)
    have hown := hown.gr hk1
    have hgr := hgr.tr hk1
    have hq := hgr
    refine h_take 0 rfl (by kernel_rfl) (y_move rfl) rfl hq ?_
    refine h_take 1 rfl (by kernel_rfl) (y_move rfl) rfl hq ?_
    refine h_take 2 rfl (by kernel_rfl) (y_move rfl) rfl hq ?_
    refine h_take 3 rfl (by kernel_rfl) (y_move rfl) rfl hq ?_
    refine h_take 4 rfl (by kernel_rfl) (y_ia rfl rfl (hv.gr hgr) Tryz.underlying29 szT5 (by omega) (by omega)) rfl hq ?_
    refine h_take 5 rfl (by kernel_rfl) (y_ld rfl Tryz.underlying5 rfl (fun w' h => (hv.gr h).at_ hbl)) rfl hq ?_
    refine h_take 6 rfl (by kernel_rfl) (y_quoN rfl rfl (by omega) (by omega) (by simp only [IntKind.wrap_u8]; omega)) rfl hq ?_
    refine h_take 7 rfl (by kernel_rfl) (y_sidx rfl rfl Tryz.underlying9 (by omega) (figs_at (n := b.toNat / 16) (by omega))) rfl hq ?_
    refine h_take 8 rfl (by kernel_rfl) (y_move rfl) rfl hq ?_
    refine h_take 9 rfl (by kernel_rfl) (y_move rfl) rfl hq ?_
    refine h_take 10 rfl (by kernel_rfl) (y_move rfl) rfl hq ?_
    refine h_take 11 rfl (by kernel_rfl) (y_ia rfl rfl (hv.gr hgr) Tryz.underlying29 szT5 (by omega) (by omega)) rfl hq ?_
    refine h_take 12 rfl (by kernel_rfl) (y_ld rfl Tryz.underlying5 rfl (fun w' h => (hv.gr h).at_ hbl)) rfl hq ?_
    refine h_take 13 rfl (by kernel_rfl) (y_remN rfl rfl (by omega) (by omega)) rfl hq ?_
    refine h_take 14 rfl (by kernel_rfl) (y_sidx rfl rfl Tryz.underlying9 (by omega) (figs_at (n := b.toNat % 16) (by omega))) rfl hq ?_
    refine h_bsl 15 rfl (by kernel_rfl) (size := 1) (cs := #[bc (fig (b.toNat / 16)), bc (fig (b.toNat % 16))]) (e := 5) rfl (by decide) rfl (fun _ => by kernel_rfl) rfl hq (fun w2 v2 hk2 ho2 => ?_)
    have hlit := ho2
    have hown := hown.gr hk2
    have hgr := hgr.tr hk2
    have hq := hgr
    refine h_app 16 rfl (by kernel_rfl) rfl rfl hown (Src.rc _ Tryz.underlying29 hlit.rc (by intro u hu; simp at hu; rcases hu with rfl | rfl <;> rfl)) Tryz.underlying29 i51 i52 i53 i54 rfl (by simp only [maxLen]; omega) (by omega) (by decide) hgr.le rfl hq (fun w3 v3 hg3 ho3 hb3 => ?_)
    have hgr0 := hgr
    have hgr : Gr w w3 := hgr.grown hg3 hgr.le (fun k hk => (hown.lt k hk).1)
    have hown := ho3
    have ehex : hex (s.take (k + 1)) = hex (s.take k) ++ [fig (b.toNat / 16), fig (b.toNat % 16)] := by rw [take_succ' s hb, hex_snoc]
    have hq := hgr
    refine h_take 17 rfl (by kernel_rfl) (y_assign rfl) rfl hq ?_
    refine h_done (by kernel_rfl) hq ?_
    refine g_blk ?_
    refine g_reg ?_
    refine l_y (y_move rfl) rfl ?_
    refine l_y (y_addN rfl rfl (by omega)) rfl ?_
    refine l_y (y_assign rfl) rfl ?_
    refine l_nil ?_
    exact g_lp fun a ha => ⟨(k + 1, _), by show s.length - (k + 1) < s.length - k; omega, ha.sub ⟨rfl, rfl, rfl, rfl, trivial⟩, by show k + 1 ≤ _; omega, by simpa [ehex] using hown, hgr⟩
  · skip
    replace hc1 := of_decide_eq_false hc1
    refine g_exit rfl ?_
    refine g_seq ?_
    refine g_reg ?_
    refine l_y (y_move rfl) rfl ?_
    refine l_y (y_b2s rfl (by simpa using hown.rc) (plain_gr _) Tryz.underlying29 Tryz.underlying5 Tryz.underlying9) rfl ?_
    refine l_y (y_assign rfl) rfl ?_
    refine l_nil ?_
    refine g_ret Tryz.results34 rfl ?_
    exact ⟨by rw [List.take_of_length_le (by omega)], hgr⟩

theorem nib (s : Bs) (i : Nat) : byt s i * 65536 + byt s (i + 1) * 256 + byt s (i + 2) < 16777216 := by
  have h0 := byt_lt s i
  have h1 := byt_lt s (i + 1)
  have h2 := byt_lt s (i + 2)
  omega
theorem base64r_any (v : Value) (s : Bs) (w : World) (hv : Rc w 1 v s.length (s.map bc)) (hs : s.length ≤ 1000000) : Calls Tryz.prog 35 #[v] w fun e w' => e = .returned (.string (S (b64 s))) ∧ Gr w w' := by
  obtain ⟨ti5, i51, i52, i53, i54⟩ := inf5
  refine enter (vs := [v]) Tryz.func35 rfl Tryz.ntmps35 rfl ?_
  refine g_seq ?_
  refine g_reg ?_
  refine l_y (y_assign rfl) rfl ?_
  refine l_nil ?_
  refine g_seq ?_
  refine g_reg ?_
  refine l_y (y_assign rfl) rfl ?_
  refine l_nil ?_
  refine g_seq ?_
  refine g_seq ?_
  refine g_reg ?_
  refine l_y (y_assign rfl) rfl ?_
  refine l_nil ?_
  refine g_block ?_
  refine g_loop (σ := Nat × Value) (fun p => s.length + 3 - p.1) (fun p => [(0, v), (3, p.2), (4, .int .i64 p.1)]) (fun p w' => p.1 < s.length + 3 ∧ p.1 % 3 = 0 ∧ Own w' w.heap.size 5 1 p.2 (b64 (s.take p.1)).length ((b64 (s.take p.1)).map bc) ∧ Gr w w') (0, .slice none 0 0) ⟨by show 0 < s.length + 3; omega, rfl, Own.nil _ _ _ _, Gr.rf _⟩ ⟨rfl, rfl, rfl, trivial⟩ ?_
  rintro ⟨i, o⟩ w' ⟨hi, hi3, hown, hgr⟩
  dsimp only at hi hi3 hown hgr ⊢
  have hol := b64_length (s.take i)
  have hol2 : (s.take i).length ≤ s.length := by rw [List.length_take]; exact Nat.min_le_right _ _
  refine g_seq ?_
  refine g_seq ?_
  refine g_reg ?_
  refine l_y (y_move rfl) rfl ?_
  refine l_y (y_move rfl) rfl ?_
  refine l_y (y_lenv rfl hv.form Tryz.underlying29) rfl ?_
  refine l_y (y_lss rfl rfl) rfl ?_
  refine l_nil ?_
  refine g_cond rfl (fun hc1 => ?_) (fun hc1 => ?_)
  · skip
    replace hc1 := of_decide_eq_true hc1
    refine g_skip ?_
    refine g_seq ?_
    refine g_block ?_
    refine g_seq ?_
    refine g_reg ?_
    have hob : ∀ q, o.ownBlock = some q → q < w'.heap.size := fun q hq => (hown.lt q hq).2
    refine l_alloc zT106 rfl (fun w1 g1 hk1 hg1 hB1 => ?_)
    have hl1 : w.heap.size ≤ g1 := Nat.le_trans hgr.le hg1
    have hown := hown.gr hk1
    have hgr := hgr.tr hk1
    refine l_nil ?_
    refine g_seq ?_
    refine g_reg ?_
    refine l_y (y_assign rfl) rfl ?_
    refine l_nil ?_
    refine g_seq ?_
    refine g_seq ?_
    refine g_reg ?_
    refine l_y (y_assign rfl) rfl ?_
    refine l_nil ?_
    refine g_block ?_
    refine g_loop (σ := Nat) (fun k => 3 - k) (fun k => [(0, v), (3, o), (4, .int .i64 i), (5, .pointer (some ⟨g1, 0, none⟩)), (6, .int .i64 k), (7, .int .i64 k)]) (fun k w' => k ≤ 3 ∧ i + k ≤ s.length ∧ Blk w' g1 106 (#[.int .i64 (if 0 < k then byt s i else 0 : Nat), .int .i64 (if 1 < k then byt s (i + 1) else 0 : Nat), .int .i64 (if 2 < k then byt s (i + 2) else 0 : Nat)]) ∧ Own w' w.heap.size 5 1 o (b64 (s.take i)).length ((b64 (s.take i)).map bc) ∧ (∀ q, o.ownBlock = some q → q < g1) ∧ Gr w w') 0 ⟨Nat.zero_le _, by omega, hB1, hown, fun q hq => Nat.lt_of_lt_of_le (hob q hq) hg1, hgr⟩ ⟨rfl, rfl, rfl, rfl, rfl, rfl, trivial⟩ ?_
    rintro k w'' ⟨hk, hik, hB, hown, hsep, hgr⟩
    refine g_seq ?_
    refine g_seq ?_
    refine g_reg ?_
    refine l_y (y_move rfl) rfl ?_
    refine l_y (y_lss rfl rfl) rfl ?_
    refine l_y (y_move rfl) rfl ?_
    refine l_g (gd_t rfl rfl) (fun hc => y_move rfl) rfl ?_
    refine l_g (gd_t rfl rfl) (fun hc => y_move rfl) rfl ?_
    refine l_g (gd_t rfl rfl) (fun hc => y_addN (og rfl hc) (og rfl hc) (by omega)) rfl ?_
    refine l_g (gd_t rfl rfl) (fun hc => y_move rfl) rfl ?_
    refine l_g (gd_t rfl rfl) (fun hc => y_lenv (og rfl hc) hv.form Tryz.underlying29) rfl ?_
    refine l_g (gd_t rfl rfl) (fun hc => y_lss (og rfl hc) (og rfl hc)) rfl ?_
    refine l_y (y_pand rfl rfl (fun h => h)) rfl ?_
    refine l_nil ?_
    refine g_cond rfl (fun hc2 => ?_) (fun hc2 => ?_)
    · skip
      try simp only [Bool.and_eq_true, Bool.or_eq_true, Bool.not_eq_true', decide_eq_true_eq, ne_eq, Decidable.not_not] at hc2
      refine g_skip ?_
      refine g_seq ?_
      refine g_block ?_
      refine g_seq ?_
      have hc2b : k < 3 ∧ i + k < s.length := by omega
      obtain ⟨b, hb⟩ := get_some s (k := i + k) hc2b.2
      have hb256 := b.toNat_lt
      have hbl : (s.map bc)[((i : Int) + (k : Int)).toNat * 1]? = some (bc b) := by rw [show ((i : Int) + (k : Int)).toNat * 1 = i + k from by omega]; simp [hb]
      refine g_reg ?_
      refine l_y (y_move rfl) rfl ?_
      refine l_y (y_move rfl) rfl ?_
      refine l_y (y_move rfl) rfl ?_
      refine l_y (y_move rfl) rfl ?_
      refine l_y (y_addN rfl rfl (by omega)) rfl ?_
      refine l_y (y_ia rfl rfl (hv.gr hgr) Tryz.underlying29 szT5 (by omega) (by omega)) rfl ?_
      refine l_y (y_ld rfl Tryz.underlying5 rfl (fun w' h => (hv.gr (hgr.tr (plain_gr _ _ h))).at_ hbl)) rfl ?_
      refine l_y (y_convN rfl Tryz.underlying5 Tryz.underlying3 (by simp only [IntKind.wrap_i64]; omega)) rfl ?_
      refine l_y (y_as (v' := .pointer (some ⟨g1, k, none⟩)) (y_iaA rfl rfl Tryz.underlying106 szT3 (by omega)) (by simp)) rfl ?_
      refine l_st rfl rfl hB (by simp; omega) rfl rfl Tryz.underlying3 szT3 (fun w2 hg2 hs2 hS2 => ?_)
      replace hown := hown.grown hg2 (by cases ho : o.ownBlock with
        | none => exact .inl rfl
        | some q => exact .inr (fun e => by injection e with e; have := hsep q ho; omega))
      replace hgr := hgr.grown hg2 hgr.le (fun q hq => by injection hq with hq; subst hq; exact hl1)
      replace hB : Blk w2 g1 106 (#[.int .i64 (if 0 < (k + 1) then byt s i else 0 : Nat), .int .i64 (if 1 < (k + 1) then byt s (i + 1) else 0 : Nat), .int .i64 (if 2 < (k + 1) then byt s (i + 2) else 0 : Nat)]) := by
        have hbb := byt_get hb
        have : k = 0 ∨ k = 1 ∨ k = 2 := by omega
        rcases this with rfl | rfl | rfl
        all_goals simpa [← hbb] using hS2
      refine l_nil ?_
      skip
      refine g_reg ?_
      refine l_y (y_move rfl) rfl ?_
      refine l_y (y_addN rfl rfl (by omega)) rfl ?_
      refine l_y (y_assign rfl) rfl ?_
      refine l_nil ?_
      refine g_blk ?_
      refine g_reg ?_
      refine l_y (y_move rfl) rfl ?_
      refine l_y (y_addN rfl rfl (by omega)) rfl ?_
      refine l_y (y_assign rfl) rfl ?_
      refine l_nil ?_
      exact g_lp fun a ha => ⟨k + 1, by omega, ha.sub ⟨rfl, rfl, rfl, rfl, rfl, rfl, trivial⟩, by omega, by omega, hB, hown, hsep, hgr⟩
    · skip
      try simp only [Bool.and_eq_false_iff, Bool.or_eq_false_iff, decide_eq_false_iff_not, Bool.not_eq_false', ne_eq, Decidable.not_not] at hc2
      refine g_exit rfl ?_
      refine g_seq ?_
      have hkk : k = 3 ∨ i + k = s.length := by omega
      have hN := nib s i
      have hk0 : 0 < k := by omega
      replace hB : Blk w'' g1 106 #[.int .i64 (byt s i : Nat), .int .i64 (byt s (i + 1) : Nat), .int .i64 (byt s (i + 2) : Nat)] := by
        have h1 : 1 < k ∨ s.length ≤ i + 1 := by omega
        have h2 : 2 < k ∨ s.length ≤ i + 2 := by omega
        have e1 : (if 1 < k then byt s (i + 1) else 0) = byt s (i + 1) := by
          split
          · rfl
          · rw [byt_out (by omega)]
        have e2 : (if 2 < k then byt s (i + 2) else 0) = byt s (i + 2) := by
          split
          · rfl
          · rw [byt_out (by omega)]
        rw [e1, e2, if_pos hk0] at hB
        exact hB
      have hb0 := byt_lt s i
      have hb1 := byt_lt s (i + 1)
      have hb2 := byt_lt s (i + 2)
      refine g_reg ?_
      refine l_y (y_iaA rfl rfl Tryz.underlying106 szT3 (by decide)) rfl ?_
      refine l_y (y_ldb rfl hB (plain_gr _) Tryz.underlying3 rfl rfl) rfl ?_
      refine l_y (y_mulN rfl rfl (by omega)) rfl ?_
      refine l_y (y_iaA rfl rfl Tryz.underlying106 szT3 (by decide)) rfl ?_
      refine l_y (y_ldb rfl hB (plain_gr _) Tryz.underlying3 rfl rfl) rfl ?_
      refine l_y (y_mulN rfl rfl (by omega)) rfl ?_
      refine l_y (y_addN rfl rfl (by omega)) rfl ?_
      refine l_y (y_iaA rfl rfl Tryz.underlying106 szT3 (by decide)) rfl ?_
      refine l_y (y_ldb rfl hB (plain_gr _) Tryz.underlying3 rfl rfl) rfl ?_
      refine l_y (y_as (v' := .int .i64 ((byt s i * 65536 + byt s (i + 1) * 256 + byt s (i + 2)) : Nat)) (y_addN rfl rfl (by omega)) (by congr 1)) rfl ?_
      refine l_y (y_assign rfl) rfl ?_
      refine l_nil ?_
      refine g_seq ?_
      refine g_reg ?_
      refine l_y (y_move rfl) rfl ?_
      refine l_y (y_as (v' := .int .i64 ((byt s i * 65536 + byt s (i + 1) * 256 + byt s (i + 2)) / 262144 : Nat)) (y_quoN rfl rfl (by omega) (by omega) (by simp only [IntKind.wrap_i64]; omega)) (by congr 1)) rfl ?_
      refine l_call0 rfl rfl en65 (six_any _ (by omega) _) (fun _ _ h => ⟨_, h.1⟩) rfl (fun w2 v2 h2 => ?_)
      obtain ⟨h2, hk2⟩ := h2
      cases h2
      have hB := hB.gr hk2
      have hown := hown.gr hk2
      have hgr := hgr.tr hk2
      refine l_y (y_move rfl) rfl ?_
      refine l_y (y_quoN rfl rfl (by omega) (by omega) (by simp only [IntKind.wrap_i64]; omega)) rfl ?_
      refine l_y (y_as (v' := .int .i64 ((byt s i * 65536 + byt s (i + 1) * 256 + byt s (i + 2)) / 4096 % 64 : Nat)) (y_remN rfl rfl (by omega) (by omega)) (by congr 1)) rfl ?_
      refine l_call0 rfl rfl en65 (six_any _ (by omega) _) (fun _ _ h => ⟨_, h.1⟩) rfl (fun w3 v3 h3 => ?_)
      obtain ⟨h3, hk3⟩ := h3
      cases h3
      have hB := hB.gr hk3
      have hown := hown.gr hk3
      have hgr := hgr.tr hk3
      refine l_y (y_move rfl) rfl ?_
      refine l_y (y_quoN rfl rfl (by omega) (by omega) (by simp only [IntKind.wrap_i64]; omega)) rfl ?_
      refine l_y (y_as (v' := .int .i64 ((byt s i * 65536 + byt s (i + 1) * 256 + byt s (i + 2)) / 64 % 64 : Nat)) (y_remN rfl rfl (by omega) (by omega)) (by congr 1)) rfl ?_
      refine l_call0 rfl rfl en65 (six_any _ (by omega) _) (fun _ _ h => ⟨_, h.1⟩) rfl (fun w4 v4 h4 => ?_)
      obtain ⟨h4, hk4⟩ := h4
      cases h4
      have hB := hB.gr hk4
      have hown := hown.gr hk4
      have hgr := hgr.tr hk4
      refine l_y (y_move rfl) rfl ?_
      refine l_y (y_as (v' := .int .i64 ((byt s i * 65536 + byt s (i + 1) * 256 + byt s (i + 2)) % 64 : Nat)) (y_remN rfl rfl (by omega) (by omega)) (by congr 1)) rfl ?_
      refine l_call0 rfl rfl en65 (six_any _ (by omega) _) (fun _ _ h => ⟨_, h.1⟩) rfl (fun w5 v5 h5 => ?_)
      obtain ⟨h5, hk5⟩ := h5
      cases h5
      have hB := hB.gr hk5
      have hown := hown.gr hk5
      have hgr := hgr.tr hk5
      have hob : ∀ q, o.ownBlock = some q → q < w5.heap.size := fun q hq => (hown.lt q hq).2
      have hgr5 := hgr
      refine l_bsl (size := 1) (cs := #[bc (six ((byt s i * 65536 + byt s (i + 1) * 256 + byt s (i + 2)) / 262144)), bc (six ((byt s i * 65536 + byt s (i + 1) * 256 + byt s (i + 2)) / 4096 % 64)), bc (six ((byt s i * 65536 + byt s (i + 1) * 256 + byt s (i + 2)) / 64 % 64)), bc (six ((byt s i * 65536 + byt s (i + 1) * 256 + byt s (i + 2)) % 64))]) rfl Tryz.underlying29 szT5 (by decide) rfl (fun _ => by kernel_rfl) rfl (fun w6 v6 hk6 ho6 => ?_)
      have hfour := ho6
      have hB := hB.gr hk6
      have hown := hown.gr hk6
      have hgr := hgr.tr hk6
      refine l_y (y_assign rfl) rfl ?_
      refine l_nil ?_
      refine g_seq ?_
      refine g_seq ?_
      refine g_reg ?_
      refine l_y (y_assign rfl) rfl ?_
      refine l_nil ?_
      refine g_block ?_
      refine g_loop (σ := Nat) (fun j => 4 - j) (fun j => [(0, v), (3, o), (4, .int .i64 i), (6, .int .i64 k), (9, v6), (10, .int .i64 j)]) (fun j w' => j ≤ 4 ∧ Own w' w5.heap.size 5 1 v6 4 ((upd (sx (byt s i * 65536 + byt s (i + 1) * 256 + byt s (i + 2))) k j).map bc) ∧ Own w' w.heap.size 5 1 o (b64 (s.take i)).length ((b64 (s.take i)).map bc) ∧ Gr w w') 0 ⟨by omega, by simpa [upd_zero, sx] using hfour, hown, hgr⟩ ⟨rfl, rfl, rfl, rfl, rfl, rfl, trivial⟩ ?_
      rintro j w'' ⟨hj, hfour, hown, hgr⟩
      refine g_seq ?_
      refine g_seq ?_
      refine g_reg ?_
      refine l_y (y_move rfl) rfl ?_
      refine l_y (y_lss rfl rfl) rfl ?_
      refine l_nil ?_
      refine g_cond rfl (fun hc3 => ?_) (fun hc3 => ?_)
      · skip
        replace hc3 := of_decide_eq_true hc3
        refine g_skip ?_
        refine g_seq ?_
        refine g_block ?_
        refine g_seq ?_
        refine g_reg ?_
        refine l_y (y_move rfl) rfl ?_
        refine l_y (y_move rfl) rfl ?_
        refine l_y (y_gtr rfl rfl) rfl ?_
        refine l_nil ?_
        refine g_cond rfl (fun hc4 => ?_) (fun hc4 => ?_)
        · skip
          replace hc4 := of_decide_eq_true hc4
          refine g_reg ?_
          refine l_y (y_move rfl) rfl ?_
          refine l_y (y_move rfl) rfl ?_
          refine l_y (y_ia rfl rfl hfour.rc Tryz.underlying29 szT5 (by omega) (by omega)) rfl ?_
          refine l_sto rfl rfl hfour (by omega) rfl rfl szT5 (fun w9 hg9 hs9 hf9 => ?_)
          have hown0 := hown
          replace hown := hown.grown hg9 (hown.sep hfour hob)
          replace hgr := hgr.grown hg9 hgr.le (fun q hq => Nat.le_trans hgr5.le (hfour.lt q hq).1)
          replace hfour : Own w9 w5.heap.size 5 1 v6 4 ((upd (sx (byt s i * 65536 + byt s (i + 1) * 256 + byt s (i + 2))) k (j + 1)).map bc) := by
            rw [← upd_set _ (by omega)]
            rw [List.map_set]
            rw [show ((j : Int).toNat * 1) = j from by simp] at hf9
            exact hf9
          refine l_nil ?_
          refine g_blk ?_
          refine g_reg ?_
          refine l_y (y_move rfl) rfl ?_
          refine l_y (y_addN rfl rfl (by omega)) rfl ?_
          refine l_y (y_assign rfl) rfl ?_
          refine l_nil ?_
          exact g_lp fun a ha => ⟨j + 1, by omega, ha.sub ⟨rfl, rfl, rfl, rfl, rfl, rfl, trivial⟩, by omega, hfour, hown, hgr⟩
        · skip
          replace hc4 := of_decide_eq_false hc4
          refine g_skip ?_
          refine g_blk ?_
          refine g_reg ?_
          refine l_y (y_move rfl) rfl ?_
          refine l_y (y_addN rfl rfl (by omega)) rfl ?_
          refine l_y (y_assign rfl) rfl ?_
          refine l_nil ?_
          exact g_lp fun a ha => ⟨j + 1, by omega, ha.sub ⟨rfl, rfl, rfl, rfl, rfl, rfl, trivial⟩, by omega, by rw [← upd_keep _ (by omega)]; exact hfour, hown, hgr⟩
      · skip
        replace hc3 := of_decide_eq_false hc3
        refine g_exit rfl ?_
        obtain rfl : j = 4 := by omega
        have hq : upd (sx (byt s i * 65536 + byt s (i + 1) * 256 + byt s (i + 2))) k 4 = b64 ((s.drop i).take 3) := upd_b64 s i k (by omega) hk hik hkk hk0
        rw [hq] at hfour
        have hql : (b64 ((s.drop i).take 3)).length = 4 := by rw [← hq]; simp [upd]
        have hjoin : b64 (s.take (i + 3)) = b64 (s.take i) ++ b64 ((s.drop i).take 3) := by
          rw [List.take_add]
          exact b64_append _ _ (by rw [List.length_take, Nat.min_eq_left (by omega)]; exact hi3)
        refine g_reg ?_
        refine l_y (y_move rfl) rfl ?_
        refine l_y (y_move rfl) rfl ?_
        refine l_app rfl rfl hown (Src.rc _ Tryz.underlying29 hfour.rc (bc_one _)) Tryz.underlying29 i51 i52 i53 i54 rfl (by simp only [maxLen]; omega) (by omega) (by decide) hgr.le rfl (fun w7 v7 hg7 ho7 hb7 => ?_)
        have hgr0 := hgr
        have hgr : Gr w w7 := hgr.grown hg7 hgr.le (fun k hk => (hown.lt k hk).1)
        have hown := ho7
        refine l_y (y_assign rfl) rfl ?_
        refine l_nil ?_
        refine g_blk ?_
        refine g_reg ?_
        refine l_y (y_move rfl) rfl ?_
        refine l_y (y_addN rfl rfl (by omega)) rfl ?_
        refine l_y (y_assign rfl) rfl ?_
        refine l_nil ?_
        exact g_lp fun a ha => ⟨(i + 3, _), by show s.length + 3 - (i + 3) < s.length + 3 - i; omega, ha.sub ⟨rfl, rfl, rfl, trivial⟩, by show i + 3 < _; omega, by show (i + 3) % 3 = 0; omega, by simpa [hjoin, hql] using hown, hgr⟩
  · skip
    replace hc1 := of_decide_eq_false hc1
    refine g_exit rfl ?_
    refine g_seq ?_
    refine g_reg ?_
    refine l_y (y_move rfl) rfl ?_
    refine l_y (y_b2s rfl (by simpa using hown.rc) (plain_gr _) Tryz.underlying29 Tryz.underlying5 Tryz.underlying9) rfl ?_
    refine l_y (y_assign rfl) rfl ?_
    refine l_nil ?_
    refine g_ret Tryz.results35 rfl ?_
    exact ⟨by rw [List.take_of_length_le (by omega)], hgr⟩

end Go.Proofs.YtehfgmagmnjffaaGreatDoor.Ref14
