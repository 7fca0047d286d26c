/-
  Plain words: a head's text, cut into its lines; figures read back. No program stands in it.
-/
import Derived.Test.YtehfgmagmnjffaaGreatDoorDec
import Derived.Lib.SplitLaws
import Derived.Lib.Atoi
import Derived.Lib.IndexMore
namespace Go.Proofs.YtehfgmagmnjffaaGreatDoor.Pl
open Go Go.Proofs.YtehfgmagmnjffaaGreatDoor.E
theorem index_no {c : UInt8} : ∀ {p : Bs}, c ∉ p → Lib.index p [c] = -1
  | [], _ => rfl
  | b :: l, h => by
    have h1 : ¬ c = b := fun e => h (by simp [e])
    have h2 := index_no (c := c) (p := l) (fun e => h (List.mem_cons_of_mem _ e))
    simp [Lib.index, List.isPrefixOf, h1, h2]
theorem index_at {c : UInt8} (r : Bs) : ∀ {p : Bs}, c ∉ p → Lib.index (p ++ c :: r) [c] = p.length
  | [], _ => by simp [Lib.index, List.isPrefixOf]
  | b :: l, h => by
    have h1 : ¬ c = b := fun e => h (by simp [e])
    have h2 := index_at (c := c) r (p := l) (fun e => h (List.mem_cons_of_mem _ e))
    simp only [List.cons_append, Lib.index, List.isPrefixOf, beq_eq_false_iff_ne.2 h1, Bool.false_and, Bool.false_eq_true, if_false, h2]
    have : ¬ ((l.length : Int) == -1) = true := by simp
    rw [if_neg this]; simp
theorem split_no {c : UInt8} {p : Bs} (h : c ∉ p) : Lib.split p [c] = [p] := by
  unfold Lib.split
  rw [Lib.count_miss (index_no h)]
  rfl
theorem split_hit {c : UInt8} {p : Bs} (r : Bs) (h : c ∉ p) : Lib.split (p ++ c :: r) [c] = p :: Lib.split r [c] := by
  unfold Lib.split
  have hi := index_at r h
  rw [Lib.count_hit (by simp) hi, Nat.add_comm 1]
  show Lib.splitK [c] 0 (Lib.count (List.drop (p.length + [c].length) (p ++ c :: r)) [c] + 1) (p ++ c :: r) = p :: Lib.splitK [c] 0 (Lib.count r [c]) r
  rw [Lib.splitK, hi]
  have : ¬ (((p.length : Nat) : Int) == -1) = true := by simp
  rw [if_neg this, Int.toNat_natCast]
  have e1 : (p ++ c :: r).take (p.length + 0) = p := by simp
  have e2 : (p ++ c :: r).drop (p.length + [c].length) = r := by
    rw [show p ++ c :: r = (p ++ [c]) ++ r from by simp, List.drop_append_of_le_length (by simp)]
    simp
  rw [e1, e2]
theorem cut_at {c : UInt8} {p : Bs} (r : Bs) (h : c ∉ p) : Lib.cut (p ++ c :: r) [c] = (p, r, true) := by
  unfold Lib.cut
  rw [index_at r h, if_pos (by omega), Int.toNat_natCast]
  have e1 : (p ++ c :: r).take p.length = p := by simp
  have e2 : (p ++ c :: r).drop (p.length + [c].length) = r := by
    rw [show p ++ c :: r = (p ++ [c]) ++ r from by simp, List.drop_append_of_le_length (by simp)]
    simp
  rw [e1, e2]

/-! ### figures -/
theorem fig_val {n : Nat} (h : n < 10) : Lib.digitVal (fig n) = some n := by
  revert n; decide
theorem dec_app (n : Nat) : ∀ r, Lib.decFrom 0 (number n ++ r) = Lib.decFrom n r := by
  induction n using Nat.strongRecOn with
  | _ n ih =>
    intro r
    by_cases h : n < 10
    · rw [number_small h]
      simp [Lib.decFrom, fig_val h]
    · rw [number_big h, List.append_assoc, ih (n / 10) (by omega)]
      simp only [List.cons_append, List.nil_append, Lib.decFrom, fig_val (show n % 10 < 10 by omega)]
      rw [show n / 10 * 10 + n % 10 = n from by omega]
theorem number_figs (n : Nat) : ∀ b ∈ number n, 48 ≤ b.toNat ∧ b.toNat ≤ 57 := by
  induction n using Nat.strongRecOn with
  | _ n ih =>
    have hf : ∀ k, k < 10 → 48 ≤ (fig k).toNat ∧ (fig k).toNat ≤ 57 := by decide
    by_cases h : n < 10
    · rw [number_small h]; intro b hb; simp at hb; subst hb; exact hf n h
    · rw [number_big h]
      intro b hb
      rcases List.mem_append.1 hb with hb | hb
      · exact ih _ (by omega) b hb
      · simp at hb; subst hb; exact hf _ (by omega)
theorem number_ne (n : Nat) : number n ≠ [] := by
  by_cases h : n < 10
  · rw [number_small h]; simp
  · rw [number_big h]; simp
theorem atoi_number (n : Nat) : Lib.atoi (number n) = some (n : Int) := by
  have hd : Lib.decNat (number n) = some n := by
    have := dec_app n []
    rw [List.append_nil] at this
    cases hn : number n with
    | nil => exact absurd hn (number_ne n)
    | cons b r => rw [hn] at this; simpa [Lib.decNat, Lib.decFrom] using this
  cases hn : number n with
  | nil => exact absurd hn (number_ne n)
  | cons b r =>
    have hb := number_figs n b (by rw [hn]; simp)
    rw [hn] at hd
    have h1 : (b == 45) = false := by rw [beq_eq_false_iff_ne]; rintro rfl; exact absurd hb.1 (by decide)
    have h2 : (b == 43) = false := by rw [beq_eq_false_iff_ne]; rintro rfl; exact absurd hb.1 (by decide)
    simp [Lib.atoi, h1, h2, hd]

/-! ### a head's text -/
theorem named_no {s : Bs} (h : named s = true) {c : UInt8} (hc : nameC c = false) : c ∉ s := by
  intro hm
  unfold named at h
  simp only [Bool.and_eq_true] at h
  have := List.all_eq_true.1 h.2 c hm
  rw [hc] at this; cases this
theorem number_no (n : Nat) {c : UInt8} (hc : c.toNat < 48) : c ∉ number n := fun h => by
  have := number_figs n c h; omega
theorem hex_no (l : Bs) : (10 : UInt8) ∉ hex l := by
  have hf : ∀ k, k < 16 → fig k ≠ 10 := by decide
  intro h
  unfold hex at h
  obtain ⟨b, _, hb⟩ := List.mem_flatMap.1 h
  have hb8 := b.toNat_lt
  simp at hb
  rcases hb with hb | hb
  · exact hf _ (by omega) hb.symm
  · exact hf _ (by omega) hb.symm
theorem six_ten {k : Nat} (h : k < 64) : six k ≠ 10 := by
  revert k; decide +kernel
theorem b64_no : ∀ (l : Bs), (10 : UInt8) ∉ b64 l
  | [], h => by cases h
  | [a], h => by
    have ha := a.toNat_lt
    simp only [b64, List.mem_cons, List.not_mem_nil, or_false] at h
    rcases h with h | h | h | h
    · exact six_ten (by omega) h.symm
    · exact six_ten (by omega) h.symm
    · cases h
    · cases h
  | [a, b], h => by
    have ha := a.toNat_lt
    have hb := b.toNat_lt
    simp only [b64, List.mem_cons, List.not_mem_nil, or_false] at h
    rcases h with h | h | h | h
    · exact six_ten (by omega) h.symm
    · exact six_ten (by omega) h.symm
    · exact six_ten (by omega) h.symm
    · cases h
  | a :: b :: c :: r, h => by
    have ha := a.toNat_lt
    have hb := b.toNat_lt
    have hc := c.toNat_lt
    simp only [b64, List.cons_append, List.nil_append, List.mem_cons] at h
    rcases h with h | h | h | h | h
    · exact six_ten (by omega) h.symm
    · exact six_ten (by omega) h.symm
    · exact six_ten (by omega) h.symm
    · exact six_ten (by omega) h.symm
    · exact b64_no r h
def Hd.line (h : Hd) : Bs := number h.size.toNat ++ 32 :: number h.time.toNat
def Hd.lines (h : Hd) : List Bs := [[99, 97, 99, 104, 101, 116, 32, 118, 49], h.o, h.line, hex h.root, [], b64 h.sig, []]
theorem Hd.text_lines (h : Hd) : h.text = [99, 97, 99, 104, 101, 116, 32, 118, 49] ++ 10 :: (h.o ++ 10 :: (h.line ++ 10 :: (hex h.root ++ 10 :: ([] ++ 10 :: (b64 h.sig ++ 10 :: []))))) := by
  simp [Hd.text, Hd.body, Hd.line]
theorem Hd.split {h : Hd} (hg : h.Good) : Lib.split h.text [10] = h.lines := by
  have h1 : (10 : UInt8) ∉ h.line := by
    unfold Hd.line
    intro hm
    rcases List.mem_append.1 hm with hm | hm
    · exact number_no _ (by decide) hm
    · rcases List.mem_cons.1 hm with hm | hm
      · cases hm
      · exact number_no _ (by decide) hm
  rw [Hd.text_lines, split_hit _ (by decide), split_hit _ (named_no hg.n (by decide)), split_hit _ h1, split_hit _ (hex_no _), split_hit _ (by simp), split_hit _ (b64_no _), split_no (by simp)]
  rfl
theorem Hd.cut (h : Hd) : Lib.cut h.line [32] = (number h.size.toNat, number h.time.toNat, true) := cut_at _ (number_no _ (by decide))
end Go.Proofs.YtehfgmagmnjffaaGreatDoor.Pl
