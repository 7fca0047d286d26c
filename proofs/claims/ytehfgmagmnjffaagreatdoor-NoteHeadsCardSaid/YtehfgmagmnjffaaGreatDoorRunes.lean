/-
  Walks of functions: what each call comes to.
-/
import Derived.Test.YtehfgmagmnjffaaGreatDoorEnv
namespace Go.Proofs.YtehfgmagmnjffaaGreatDoor.Runes
open Go Go.RowKit Go.Proofs.YtehfgmagmnjffaaGreatDoor.E Go.Proofs.YtehfgmagmnjffaaGreatDoor.Pl
theorem hmix : Tryz.prog.follows .mixedOrders = true := by kernel_rfl
theorem en142 : Enters Tryz.prog 142 := enters_of Tryz.func142 (by kernel_rfl) rfl
theorem en211 : Enters Tryz.prog 211 := enters_of Tryz.func211 (by kernel_rfl) rfl
theorem en219 : Enters Tryz.prog 219 := enters_of Tryz.func219 (by kernel_rfl) rfl

/-- The signs of a name that are no letters and no figures. -/
abbrev dots : Bs := [46, 45, 95, 64]
theorem valid_eq (r : Int) : Lib.validRune r = Utf8.valid r := by
  rw [Bool.eq_iff_iff]
  simp [Lib.validRune, Utf8.valid]
  omega
theorem dots_dec (q : Nat) (h : q < 4) : (Utf8.decode (S dots) q).2 = 1 ∧ (Utf8.decode (S dots) q).1 < 128 := by
  revert q; decide
theorem indexByte_none : ∀ (l : Bs) (c : UInt8), c ∉ l → Lib.indexByte l c = -1
  | [], _, _ => rfl
  | b :: l, c, h => by
    have h1 : ¬ b = c := fun e => h (by simp [e])
    have h2 := indexByte_none l c (fun e => h (by simp [e]))
    simp [Lib.indexByte, h1, h2]
theorem enc_last (r : Int) (hv : Utf8.valid r = true) (h : 128 ≤ r) : ∃ (l : Bs) (b : UInt8), Utf8.encode r = S l ∧ 2 ≤ l.length ∧ l.length ≤ 4 ∧ l[l.length - 1]? = some b ∧ 128 ≤ b.toNat := by
  have h0 := encode_facts r hv h
  obtain ⟨q, hq⟩ : ∃ q, Utf8.encode r = q := ⟨_, rfl⟩
  rw [hq] at h0 ⊢
  obtain ⟨h1, h2, h3⟩ := h0
  have e : q.data.toList.length = q.size := Array.length_toList
  refine ⟨q.data.toList, q[q.size - 1]'(by omega), S_of _, by omega, by omega, ?_, h3 _⟩
  rw [e, Array.getElem?_toList]
  exact Array.getElem?_eq_getElem (by show q.size - 1 < q.data.size; have : q.data.size = q.size := rfl; omega)
theorem dots_small (b : UInt8) (h : 128 ≤ b.toNat) (l : Bs) (hl : ∀ x ∈ l, x ∈ dots) : b ∉ l := by
  intro hb
  have := hl b hb
  simp at this
  rcases this with rfl | rfl | rfl | rfl <;> exact absurd h (by decide)

theorem validRune_any (r : Nat) (w : World) : Calls Tryz.prog 219 #[.int .i32 (r : Nat)] w fun e w' => e = .returned (.bool (Utf8.valid r)) ∧ Gr w w' :=
  (Tryz.utf8_ValidRune r w).mono fun e w' h => ⟨by rw [h.1, valid_eq], by rw [h.2]; exact Gr.rf _⟩
theorem ibyte_none (l : Bs) (b : UInt8) (h : b ∉ l) (w : World) : Calls Tryz.prog 142 #[.string (S l), bc b] w fun e w' => e = .returned (.int .i64 (-1)) ∧ Gr w w' :=
  (Tryz.strings_IndexByte (S l) b.toNat w).mono fun e w' h' => ⟨by
    rw [h'.1]
    have e1 : ((b.toNat : Int).toNat.toUInt8) = b := by simp
    have e2 : (S l).data.toList = l := by simp [S]
    rw [e1, e2, indexByte_none l b h], by rw [h'.2]; exact Gr.rf _⟩
theorem irune_err  (w : World)  : Calls Tryz.prog 211 #[.string (S dots), .int .i32 65533] w fun e w' => e = .returned (.int .i64 (-1)) ∧ Gr w w' := by
  refine enter (vs := [.string (S dots), .int .i32 65533]) Tryz.func211 rfl Tryz.ntmps211 rfl ?_
  refine g_seq ?_
  refine g_reg ?_
  refine l_y (y_assign rfl) rfl ?_
  refine l_nil ?_
  refine g_block ?_
  refine g_seq ?_
  refine g_reg ?_
  refine l_y (y_move rfl) rfl ?_
  refine l_y (y_leq rfl rfl) rfl ?_
  refine l_y (y_move rfl) rfl ?_
  refine l_g (gd_t rfl rfl) (fun hc => y_move rfl) rfl ?_
  refine l_g (gd_t rfl rfl) (fun hc => y_lss (og rfl hc) rfl) rfl ?_
  refine l_y (y_pand rfl rfl (fun h => h)) rfl ?_
  refine l_y (y_assign rfl) rfl ?_
  refine l_nil ?_
  refine g_false rfl ?_
  refine g_seq ?_
  refine g_reg ?_
  refine l_y (y_move rfl) rfl ?_
  refine l_y (y_eql rfl rfl) rfl ?_
  refine l_y (y_assign rfl) rfl ?_
  refine l_nil ?_
  refine g_true rfl ?_
  refine g_seq ?_
  refine g_seq ?_
  refine g_reg ?_
  refine l_y (y_move rfl) rfl ?_
  refine l_rng rfl Tryz.underlying9 rfl (fun w1 g1 hk1 hg1 hit => ?_)
  have hgr := hk1
  refine l_nil ?_
  refine g_block ?_
  refine g_loop (σ := Nat) (fun q => 4 - q) (fun q => [(0, .string (S dots)), (175, .pointer (some ⟨g1, 0, none⟩))]) (fun q w' => q ≤ 4 ∧ w'.heap[g1]? = some (.stringIter (S dots) q) ∧ Gr w w') 0 ⟨by omega, hit, hgr⟩ ⟨rfl, rfl, trivial⟩ ?_
  rintro q w' ⟨hq, hit, hgr⟩
  refine g_seq ?_
  refine g_reg ?_
  by_cases hq4 : q < 4
  · skip
    refine l_nx rfl hit (by simp [S_size]; omega) rfl (fun w2 hg2 hs2 hit2 => ?_)
    have hgr := hgr.grown hg2 hgr.le (fun k hk => by injection hk with hk; omega)
    rw [(dots_dec q hq4).1] at hit2
    refine l_y (y_ext rfl rfl) rfl ?_
    refine l_nil ?_
    refine g_seq ?_
    refine g_true rfl ?_
    refine g_skip ?_
    refine g_block ?_
    refine g_seq ?_
    refine g_reg ?_
    refine l_y (y_ext rfl rfl) rfl ?_
    refine l_y (y_ext rfl rfl) rfl ?_
    refine l_y (y_assign rfl) rfl ?_
    refine l_y (y_assign rfl) rfl ?_
    refine l_nil ?_
    refine g_seq ?_
    refine g_reg ?_
    refine l_y (y_move rfl) rfl ?_
    refine l_y (y_eql rfl rfl) rfl ?_
    refine l_nil ?_
    refine g_cond rfl (fun hc4 => ?_) (fun hc4 => ?_)
    · exact absurd hc4 (by have := (dots_dec q hq4).2; simp; omega)
    · skip
      replace hc4 := of_decide_eq_false hc4
      refine g_skip ?_
      refine g_blk ?_
      exact g_lp fun a ha => ⟨q + 1, by omega, ha.sub ⟨rfl, rfl, trivial⟩, by omega, hit2, hgr⟩
  · skip
    refine l_y (y_nxe rfl hit (by simp [S_size]; omega)) rfl ?_
    refine l_y (y_ext rfl rfl) rfl ?_
    refine l_nil ?_
    refine g_seq ?_
    refine g_false rfl ?_
    refine g_exit rfl ?_
    refine g_seq ?_
    refine g_reg ?_
    refine l_y (y_assign rfl) rfl ?_
    refine l_nil ?_
    refine g_ret Tryz.results211 rfl ?_
    exact ⟨rfl, hgr⟩

theorem irune_bad (r : Nat) (h : 128 ≤ r) (h1 : r ≤ 1114111) (he : r ≠ 65533) (hv : Utf8.valid r = false) (w : World)  : Calls Tryz.prog 211 #[.string (S dots), .int .i32 r] w fun e w' => e = .returned (.int .i64 (-1)) ∧ Gr w w' := by
  refine enter (vs := [.string (S dots), .int .i32 r]) Tryz.func211 rfl Tryz.ntmps211 rfl ?_
  refine g_seq ?_
  refine g_reg ?_
  refine l_y (y_assign rfl) rfl ?_
  refine l_nil ?_
  refine g_block ?_
  refine g_seq ?_
  refine g_reg ?_
  refine l_y (y_move rfl) rfl ?_
  refine l_y (y_leq rfl rfl) rfl ?_
  refine l_y (y_move rfl) rfl ?_
  refine l_g (gd_t rfl rfl) (fun hc => y_move rfl) rfl ?_
  refine l_g (gd_t rfl rfl) (fun hc => y_lss (og rfl hc) rfl) rfl ?_
  refine l_y (y_pand rfl rfl (fun h => h)) rfl ?_
  refine l_y (y_assign rfl) rfl ?_
  refine l_nil ?_
  refine g_cond rfl (fun hc1 => ?_) (fun hc1 => ?_)
  · exact absurd hc1 (by simp; omega)
  · skip
    try simp only [Bool.and_eq_false_iff, Bool.or_eq_false_iff, decide_eq_false_iff_not, Bool.not_eq_false', ne_eq, Decidable.not_not] at hc1
    refine g_seq ?_
    refine g_reg ?_
    refine l_y (y_move rfl) rfl ?_
    refine l_y (y_eql rfl rfl) rfl ?_
    refine l_y (y_assign rfl) rfl ?_
    refine l_nil ?_
    refine g_cond rfl (fun hc2 => ?_) (fun hc2 => ?_)
    · exact absurd hc2 (by simp; omega)
    · skip
      replace hc2 := of_decide_eq_false hc2
      refine g_seq ?_
      refine g_reg ?_
      refine l_y (y_move rfl) rfl ?_
      refine l_call0 rfl rfl en219 (validRune_any r _) (fun _ _ h => ⟨_, h.1⟩) rfl (fun w1 v1 h1 => ?_)
      obtain ⟨h1, hk1⟩ := h1
      cases h1
      have hgr := hk1
      refine l_y (y_not rfl) rfl ?_
      refine l_y (y_assign rfl) rfl ?_
      refine l_nil ?_
      refine g_cond rfl (fun hc3 => ?_) (fun hc3 => ?_)
      · skip
        try simp only [Bool.and_eq_true, Bool.or_eq_true, Bool.not_eq_true', decide_eq_true_eq, ne_eq, Decidable.not_not] at hc3
        refine g_seq ?_
        refine g_reg ?_
        refine l_y (y_assign rfl) rfl ?_
        refine l_nil ?_
        refine g_ret Tryz.results211 rfl ?_
        exact ⟨rfl, hgr⟩
      · exact absurd hc3 (by simp [hv])

theorem irune_high (r : Nat) (h : 128 ≤ r) (h1 : r ≤ 1114111) (he : r ≠ 65533) (hv : Utf8.valid r = true) (w : World)  : Calls Tryz.prog 211 #[.string (S dots), .int .i32 r] w fun e w' => e = .returned (.int .i64 (-1)) ∧ Gr w w' := by
  obtain ⟨l, b, hl, hl2, hl4, hb, hb128⟩ := enc_last r hv (by omega)
  obtain ⟨d, hd⟩ := get_some dots (k := l.length - 1) (by simp; omega)
  have hd128 : d.toNat < 128 := by
    have hm := List.mem_of_getElem? hd
    simp at hm
    rcases hm with rfl | rfl | rfl | rfl <;> decide
  have hnot : b ∉ List.drop ((((l.length - 1 : Nat) : Int) + 1).toNat) dots := dots_small b hb128 _ (fun x hx => List.mem_of_mem_drop hx)
  refine enter (vs := [.string (S dots), .int .i32 r]) Tryz.func211 rfl Tryz.ntmps211 rfl ?_
  refine g_seq ?_
  refine g_reg ?_
  refine l_y (y_assign rfl) rfl ?_
  refine l_nil ?_
  refine g_block ?_
  refine g_seq ?_
  refine g_reg ?_
  refine l_y (y_move rfl) rfl ?_
  refine l_y (y_leq rfl rfl) rfl ?_
  refine l_y (y_move rfl) rfl ?_
  refine l_g (gd_t rfl rfl) (fun hc => y_move rfl) rfl ?_
  refine l_g (gd_t rfl rfl) (fun hc => y_lss (og rfl hc) rfl) rfl ?_
  refine l_y (y_pand rfl rfl (fun h => h)) rfl ?_
  refine l_y (y_assign rfl) rfl ?_
  refine l_nil ?_
  refine g_cond rfl (fun hc1 => ?_) (fun hc1 => ?_)
  · exact absurd hc1 (by simp; omega)
  · skip
    try simp only [Bool.and_eq_false_iff, Bool.or_eq_false_iff, decide_eq_false_iff_not, Bool.not_eq_false', ne_eq, Decidable.not_not] at hc1
    refine g_seq ?_
    refine g_reg ?_
    refine l_y (y_move rfl) rfl ?_
    refine l_y (y_eql rfl rfl) rfl ?_
    refine l_y (y_assign rfl) rfl ?_
    refine l_nil ?_
    refine g_cond rfl (fun hc2 => ?_) (fun hc2 => ?_)
    · exact absurd hc2 (by simp; omega)
    · skip
      replace hc2 := of_decide_eq_false hc2
      refine g_seq ?_
      refine g_reg ?_
      refine l_y (y_move rfl) rfl ?_
      refine l_call0 rfl rfl en219 (validRune_any r _) (fun _ _ h => ⟨_, h.1⟩) rfl (fun w1 v1 h1 => ?_)
      obtain ⟨h1, hk1⟩ := h1
      cases h1
      have hgr := hk1
      refine l_y (y_not rfl) rfl ?_
      refine l_y (y_assign rfl) rfl ?_
      refine l_nil ?_
      refine g_cond rfl (fun hc3 => ?_) (fun hc3 => ?_)
      · exact absurd hc3 (by simp [hv])
      · skip
        try simp only [Bool.and_eq_false_iff, Bool.or_eq_false_iff, decide_eq_false_iff_not, Bool.not_eq_false', ne_eq, Decidable.not_not] at hc3
        refine g_scope ?_
        refine g_seq ?_
        refine g_reg ?_
        refine l_y (y_move rfl) rfl ?_
        refine l_y (y_as (v' := .string (S l)) (y_cv rfl (fun w _ => run_convert_int_string w _ _ .i32 (r : Int) (by rw [Tryz.underlying21]; rfl) Tryz.underlying9)) (by rw [hl])) rfl ?_
        refine l_y (y_assign rfl) rfl ?_
        refine l_nil ?_
        refine g_seq ?_
        refine g_reg ?_
        refine l_y (y_move rfl) rfl ?_
        refine l_y (y_slen rfl Tryz.underlying9) rfl ?_
        refine l_y (y_subM (b := 1) rfl rfl (by omega) (by omega)) rfl ?_
        refine l_y (y_assign rfl) rfl ?_
        refine l_nil ?_
        refine g_seq ?_
        refine g_reg ?_
        refine l_y (y_move rfl) rfl ?_
        refine l_y (y_assign rfl) rfl ?_
        refine l_nil ?_
        refine g_seq ?_
        refine g_reg ?_
        refine l_y (y_assign rfl) rfl ?_
        refine l_nil ?_
        refine g_seq ?_
        refine g_block ?_
        refine g_loop (σ := Nat) (fun _ => 0) (fun _ => [(0, .string (S dots)), (7, .string (S l)), (8, .int .i64 (l.length - 1 : Nat)), (9, .int .i64 (l.length - 1 : Nat))]) (fun _ w' => Gr w w') 0 hgr ⟨rfl, rfl, rfl, rfl, trivial⟩ ?_
        intro q w' hgr
        refine g_seq ?_
        refine g_seq ?_
        refine g_reg ?_
        refine l_y (y_move rfl) rfl ?_
        refine l_y (y_move rfl) rfl ?_
        refine l_y (y_slen rfl Tryz.underlying9) rfl ?_
        refine l_y (y_lss rfl rfl) rfl ?_
        refine l_nil ?_
        refine g_cond rfl (fun hc4 => ?_) (fun hc4 => ?_)
        · skip
          replace hc4 := of_decide_eq_true hc4
          refine g_skip ?_
          refine g_block ?_
          refine g_scope ?_
          refine g_seq ?_
          refine g_seq ?_
          refine g_draw Gr hmix (fun w2 hk2 he2 => ?_)
          have hgr := hgr.tr hk2
          have hq := Gr.rf w2
          refine h_take 0 rfl (by kernel_rfl) (y_move rfl) rfl hq ?_
          refine h_take 1 rfl (by kernel_rfl) (y_move rfl) rfl hq ?_
          refine h_take 2 rfl (by kernel_rfl) (y_sidx rfl rfl Tryz.underlying9 (Int.natCast_nonneg _) (by simpa using hd)) rfl hq ?_
          refine h_take 3 rfl (by kernel_rfl) (y_move rfl) rfl hq ?_
          refine h_take 4 rfl (by kernel_rfl) (y_move rfl) rfl hq ?_
          refine h_take 5 rfl (by kernel_rfl) (y_sidx rfl rfl Tryz.underlying9 (Int.natCast_nonneg _) (by simpa using hb)) rfl hq ?_
          refine h_take 6 rfl (by kernel_rfl) (y_neq rfl rfl) rfl hq ?_
          refine h_done (by kernel_rfl) hq ?_
          refine g_cond rfl (fun hc5 => ?_) (fun hc5 => ?_)
          · skip
            replace hc5 := of_decide_eq_true hc5
            refine g_seq ?_
            refine g_draw Gr hmix (fun w3 hk3 he3 => ?_)
            have hgr := hgr.tr hk3
            have hq := Gr.rf w3
            refine h_take 0 rfl (by kernel_rfl) (y_move rfl) rfl hq ?_
            refine h_take 1 rfl (by kernel_rfl) (y_move rfl) rfl hq ?_
            refine h_take 2 rfl (by kernel_rfl) (y_addN rfl rfl (by omega)) rfl hq ?_
            refine h_take 3 rfl (by kernel_rfl) (y_ssl_l rfl rfl Tryz.underlying9 (by omega) (by simp; omega)) rfl hq ?_
            refine h_take 4 rfl (by kernel_rfl) (y_move rfl) rfl hq ?_
            refine h_take 5 rfl (by kernel_rfl) (y_move rfl) rfl hq ?_
            refine h_take 6 rfl (by kernel_rfl) (y_sidx rfl rfl Tryz.underlying9 (Int.natCast_nonneg _) (by simpa using hb)) rfl hq ?_
            refine h_call0 7 rfl (by kernel_rfl) rfl rfl en142 (ibyte_none _ b hnot _) (fun _ _ h => ⟨_, h.1⟩) rfl hq (fun w4 v4 h4 => ?_)
            obtain ⟨h4, hk4⟩ := h4
            cases h4
            have hq := hq.tr hk4
            have hgr := hgr.tr hk4
            refine h_take 8 rfl (by kernel_rfl) (y_assign rfl) rfl hq ?_
            refine h_done (by kernel_rfl) hq ?_
            refine g_seq ?_
            refine g_seq ?_
            refine g_reg ?_
            refine l_y (y_move rfl) rfl ?_
            refine l_y (y_lss rfl rfl) rfl ?_
            refine l_nil ?_
            refine g_cond rfl (fun hc6 => ?_) (fun hc6 => ?_)
            · skip
              replace hc6 := of_decide_eq_true hc6
              refine g_seq ?_
              refine g_reg ?_
              refine l_y (y_assign rfl) rfl ?_
              refine l_nil ?_
              refine g_ret Tryz.results211 rfl ?_
              exact ⟨rfl, hgr⟩
            · exact absurd hc6 (by simp)
          · exact absurd hc5 (by simp; omega)
        · exact absurd hc4 (by simp; omega)

theorem irune_any (r : Nat) (h : 128 ≤ r) (h1 : r ≤ 1114111) (w : World) : Calls Tryz.prog 211 #[.string (S dots), .int .i32 (r : Nat)] w fun e w' => e = .returned (.int .i64 (-1)) ∧ Gr w w' := by
  by_cases he : r = 65533
  · subst he; exact irune_err w
  · cases hv : Utf8.valid r with
    | true => exact irune_high r h h1 he hv w
    | false => exact irune_bad r h h1 he hv w

theorem crune_high (r : Nat) (h : 128 ≤ r) (h1 : r ≤ 1114111) (w : World)  : Calls Tryz.prog 189 #[.string (S dots), .int .i32 r] w fun e w' => e = .returned (.bool false) ∧ Gr w w' := by
  refine enter (vs := [.string (S dots), .int .i32 r]) Tryz.func189 rfl Tryz.ntmps189 rfl ?_
  refine g_seq ?_
  refine g_reg ?_
  refine l_y (y_assign rfl) rfl ?_
  refine l_nil ?_
  refine g_seq ?_
  refine g_reg ?_
  refine l_y (y_move rfl) rfl ?_
  refine l_y (y_move rfl) rfl ?_
  refine l_call0 rfl rfl en211 (irune_any r h h1 _) (fun _ _ h => ⟨_, h.1⟩) rfl (fun w1 v1 h1 => ?_)
  obtain ⟨h1, hk1⟩ := h1
  cases h1
  have hgr := hk1
  refine l_y (y_geq rfl rfl) rfl ?_
  refine l_y (y_assign rfl) rfl ?_
  refine l_nil ?_
  refine g_ret Tryz.results189 rfl ?_
  exact ⟨rfl, hgr⟩

end Go.Proofs.YtehfgmagmnjffaaGreatDoor.Runes
