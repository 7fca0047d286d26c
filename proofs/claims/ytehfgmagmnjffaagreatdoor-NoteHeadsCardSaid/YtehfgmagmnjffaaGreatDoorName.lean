/-
  Walks of functions: what each call comes to.
-/
import Derived.Test.YtehfgmagmnjffaaGreatDoorRunes
namespace Go.Proofs.YtehfgmagmnjffaaGreatDoor.Name
open Go Go.RowKit Go.Proofs.YtehfgmagmnjffaaGreatDoor.E Go.Proofs.YtehfgmagmnjffaaGreatDoor.Pl Go.Proofs.YtehfgmagmnjffaaGreatDoor.Runes
theorem hmix : Tryz.prog.follows .mixedOrders = true := by kernel_rfl
theorem en189 : Enters Tryz.prog 189 := enters_of Tryz.func189 (by kernel_rfl) rfl
theorem en202 : Enters Tryz.prog 202 := enters_of Tryz.func202 (by kernel_rfl) rfl
theorem en207 : Enters Tryz.prog 207 := enters_of Tryz.func207 (by kernel_rfl) rfl

def dotR (r : Nat) : Bool := r == 46 || r == 45 || r == 95 || r == 64
/-- A rune that no name has. -/
def oddR (r : Nat) : Bool := (decide (r < 97) || decide (122 < r)) && (decide (r < 48) || decide (57 < r)) && !dotR r
theorem odd_byte (b : UInt8) : oddR b.toNat = !nameC b := by
  have h := u8_of b (fun b n => oddR n == !nameC b) (by decide +kernel)
  simpa using h
theorem odd_high {r : Nat} (h : 128 ≤ r) : oddR r = true := by
  have h1 : dotR r = false := by simp [dotR]; omega
  simp [oddR, h1]; omega
theorem high_decode (n b0 b1 b2 b3 : Nat) (h : 128 ≤ b0) : 128 ≤ (Lib.decodeN n b0 b1 b2 b3).1 := by
  unfold Lib.decodeN
  repeat' split
  all_goals (simp only; omega)
theorem get_byte {s : Bs} {q : Nat} {b : UInt8} (h : s[q]? = some b) : (S s).get! q = b := by
  obtain ⟨hq, hb⟩ := List.getElem?_eq_some_iff.1 h
  simp [ByteArray.get!, S, hq, hb]
theorem dec_low {s : Bs} {q : Nat} {b : UInt8} (h : s[q]? = some b) (hb : b.toNat < 128) : Utf8.decode (S s) q = (b.toNat, 1) := by
  rw [Lib.decode_at, get_byte h]
  unfold Lib.decodeN
  rw [if_pos hb]
theorem dec_high {s : Bs} {q : Nat} {b : UInt8} (h : s[q]? = some b) (hb : 128 ≤ b.toNat) : 128 ≤ (Utf8.decode (S s) q).1 := by
  rw [Lib.decode_at, get_byte h]
  exact high_decode _ _ _ _ _ hb
theorem idx_odd (s : Bs) : ∀ (f q : Nat), s.length ≤ q + f → (decide (0 ≤ Lib.idxFuncFrom oddR true (S s) f q)) = !((s.drop q).all nameC)
  | 0, q, h => by
    rw [List.drop_of_length_le (by omega)]; rfl
  | f + 1, q, h => by
    unfold Lib.idxFuncFrom
    by_cases hq : q < s.length
    · obtain ⟨b, hb⟩ := get_some s hq
      have hd : s.drop q = b :: s.drop (q + 1) := List.drop_eq_getElem?_toList_append (l := s) (i := q) |>.trans (by rw [hb]; rfl)
      rw [if_pos (by rw [S_size]; exact hq), hd, List.all_cons]
      by_cases h128 : b.toNat < 128
      · rw [dec_low hb h128]
        cases hn : nameC b with
        | true =>
          have ho : oddR b.toNat = false := by rw [odd_byte, hn]; rfl
          simp only [ho, Bool.false_eq_true, if_false, Bool.true_and]
          exact idx_odd s f (q + 1) (by omega)
        | false =>
          have ho : oddR b.toNat = true := by rw [odd_byte, hn]; rfl
          simp [ho]
      · have ho : oddR (Utf8.decode (S s) q).1 = true := odd_high (dec_high hb (by omega))
        have hn : nameC b = false := by
          have := odd_byte b
          rw [odd_high (by omega)] at this
          simpa using this.symm
        simp [ho, hn]
    · rw [if_neg (by rw [S_size]; exact hq), List.drop_of_length_le (by omega)]; rfl
theorem dots_ix (r : Nat) (h : r < 128) : decide (0 ≤ Lib.indexByte dots r.toUInt8) = dotR r := by
  revert r; decide
theorem crune_any (r : Nat) (h1 : r ≤ 1114111) (w : World) : Calls Tryz.prog 189 #[.string (S dots), .int .i32 (r : Nat)] w fun e w' => e = .returned (.bool (dotR r)) ∧ Gr w w' := by
  by_cases h : r < 128
  · refine (Tryz.strings_ContainsRune_ascii (S dots) r w (by omega) (by omega)).mono fun e w' h' => ⟨?_, by rw [h'.2]; exact Gr.rf _⟩
    rw [h'.1]
    rw [Int.toNat_natCast]
    have := dots_ix r h
    rw [← this]
  · have hd : dotR r = false := by simp [dotR]; omega
    rw [hd]
    exact crune_high r (by omega) h1 w

theorem named_eq (s : Bs) : named s = (!decide (s = []) && decide ((s.length : Int) ≤ 64) && s.all nameC) := by
  unfold named
  congr 1
  rw [Bool.eq_iff_iff]
  cases s <;> simp
  omega
theorem odd_any (r : Nat) (h1 : r ≤ 1114111) (w : World)  : Calls Tryz.prog 207 #[.int .i32 r] w fun e w' => e = .returned (.bool (oddR r)) ∧ Gr w w' := by
  refine enter (vs := [.int .i32 r]) Tryz.func207 rfl Tryz.ntmps207 rfl ?_
  refine g_seq ?_
  refine g_reg ?_
  refine l_y (y_assign rfl) rfl ?_
  refine l_nil ?_
  refine g_seq ?_
  refine g_reg ?_
  refine l_y (y_move rfl) rfl ?_
  refine l_y (y_lss rfl rfl) rfl ?_
  refine l_y (y_move rfl) rfl ?_
  refine l_g (gd_f rfl rfl) (fun hc => y_move rfl) rfl ?_
  refine l_g (gd_f rfl rfl) (fun hc => y_gtr (og rfl hc) rfl) rfl ?_
  refine l_y (y_por rfl rfl (fun h => nt h)) rfl ?_
  refine l_y (y_move rfl) rfl ?_
  refine l_g (gd_t rfl rfl) (fun hc => y_move rfl) rfl ?_
  refine l_g (gd_t rfl rfl) (fun hc => y_lss (og rfl hc) rfl) rfl ?_
  refine l_g (gd_t rfl rfl) (fun hc => y_move (og rfl hc)) rfl ?_
  refine l_g (gd_fg rfl rfl) (fun hc => y_move rfl) rfl ?_
  refine l_g (gd_fg rfl rfl) (fun hc => y_gtr (og rfl hc) rfl) rfl ?_
  refine l_g (gd_t rfl rfl) (fun hc => y_por (og rfl hc) rfl (fun h => i2 hc (nt h))) rfl ?_
  refine l_y (y_pand rfl rfl (fun h => h)) rfl ?_
  refine l_y (y_move rfl) rfl ?_
  refine l_g (gd_t rfl rfl) (fun hc => y_move rfl) rfl ?_
  refine l_gcall (gd_t rfl rfl) rfl (fun hc => opvs2 rfl (og rfl hc)) en189 (fun hc => crune_any r h1 _) rfl (fun w1 hk1 => ?_)
  have hgr := hk1
  refine l_g (gd_t rfl rfl) (fun hc => y_not (og rfl hc)) rfl ?_
  refine l_y (y_pand rfl rfl (fun h => h)) rfl ?_
  refine l_y (y_assign rfl) rfl ?_
  refine l_nil ?_
  refine g_ret Tryz.results207 rfl ?_
  exact ⟨by congr 2; simp only [oddR]; rw [Bool.eq_iff_iff]; simp; omega, hgr⟩

theorem cfunc_any (s : Bs) (w : World) : Calls Tryz.prog 202 #[.string (S s), .func (.func 207) #[] #[]] w fun e w' => e = .returned (.bool (!s.all nameC)) ∧ Gr w w' :=
  (Tryz.strings_ContainsFunc_grows 207 #[] en207 oddR (S s) w (fun W x hx _ => by simpa using odd_any x hx W)).mono fun e w' h => ⟨by
    rw [h.1]
    have := idx_odd s (S s).size 0 (by rw [S_size]; omega)
    rw [List.drop_zero] at this
    rw [← this]
    rfl, h.2⟩

theorem namedP_any (s : Bs) (w : World)  : Calls Tryz.prog 172 #[.string (S s)] w fun e w' => e = .returned (.bool (named s)) ∧ Gr w w' := by
  refine enter (vs := [.string (S s)]) Tryz.func172 rfl Tryz.ntmps172 rfl ?_
  refine g_seq ?_
  refine g_reg ?_
  refine l_y (y_assign rfl) rfl ?_
  refine l_nil ?_
  refine g_seq ?_
  refine g_reg ?_
  refine l_y (y_assign rfl) rfl ?_
  refine l_nil ?_
  refine g_seq ?_
  refine g_reg ?_
  refine l_y (y_move rfl) rfl ?_
  refine l_y (y_sne' rfl rfl) rfl ?_
  refine l_y (y_move rfl) rfl ?_
  refine l_g (gd_t rfl rfl) (fun hc => y_move rfl) rfl ?_
  refine l_g (gd_t rfl rfl) (fun hc => y_slen (og rfl hc) Tryz.underlying9) rfl ?_
  refine l_g (gd_t rfl rfl) (fun hc => y_leq (og rfl hc) rfl) rfl ?_
  refine l_y (y_pand rfl rfl (fun h => h)) rfl ?_
  refine l_y (y_move rfl) rfl ?_
  refine l_g (gd_t rfl rfl) (fun hc => y_move rfl) rfl ?_
  refine l_g (gd_t rfl rfl) (fun hc => y_move rfl) rfl ?_
  refine l_gcall (gd_t rfl rfl) rfl (fun hc => opvs2 (og rfl hc) (og rfl hc)) en202 (fun hc => cfunc_any s _) rfl (fun w1 hk1 => ?_)
  have hgr := hk1
  refine l_g (gd_t rfl rfl) (fun hc => y_not (og rfl hc)) rfl ?_
  refine l_y (y_pand rfl rfl (fun h => h)) rfl ?_
  refine l_y (y_assign rfl) rfl ?_
  refine l_nil ?_
  refine g_ret Tryz.results172 rfl ?_
  exact ⟨by rw [named_eq]; simp, hgr⟩

end Go.Proofs.YtehfgmagmnjffaaGreatDoor.Name
