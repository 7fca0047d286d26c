/-
  Plain words: signs read back as bytes. No program stands in it.
-/
import Derived.Test.YtehfgmagmnjffaaGreatDoorTypes
import Derived.Lib.Bytealg
import Derived.Lib.TrimByte
namespace Go.Proofs.YtehfgmagmnjffaaGreatDoor.Pl
open Go Go.Proofs.YtehfgmagmnjffaaGreatDoor.E
theorem u8_nat {n : Nat} (h : n < 256) : (UInt8.ofNat n).toNat = n := by simp; omega
/-- Where a sign stands. -/
def ix : Bs → UInt8 → Option Nat
  | [], _ => none
  | b :: l, c => if b = c then some 0 else (ix l c).map (· + 1)
def ixI (l : Bs) (c : UInt8) : Int := match ix l c with
  | none => -1
  | some k => k
theorem indexByte_ix : ∀ (l : Bs) (c : UInt8), Lib.indexByte l c = ixI l c
  | [], _ => rfl
  | b :: l, c => by
    have ih := indexByte_ix l c
    unfold Lib.indexByte
    by_cases h : b = c
    · simp [ixI, ix, h]
    · simp only [ixI, ix, h, beq_eq_false_iff_ne.2 h, if_false, Bool.false_eq_true, ih]
      cases hi : ix l c with
      | none => simp
      | some k => simp <;> omega
theorem ix_lt : ∀ {l : Bs} {c : UInt8} {k : Nat}, ix l c = some k → k < l.length
  | [], _, _, h => by cases h
  | b :: l, c, k, h => by
    unfold ix at h
    split at h
    · injection h with h; subst h; simp
    · cases hi : ix l c with
      | none => rw [hi] at h; cases h
      | some q =>
        rw [hi] at h
        simp only [Option.map_some, Option.some.injEq] at h
        have := ix_lt hi
        simp; omega
theorem ix_figs {k : Nat} (h : k < 16) : ix figs (fig k) = some k := by
  revert k; decide +kernel
theorem ix_six {k : Nat} (h : k < 64) : ix signs6 (six k) = some k := by
  revert k; decide +kernel
theorem six_ne {k : Nat} (h : k < 64) : six k ≠ 61 := by
  revert k; decide +kernel

/-- The bytes of signs, from a state on. -/
def dec (sg : Bs) (B : Nat) : Nat → Nat → Bs → Option Bs
  | v, h, [] => if B ≤ h ∨ v ≠ 0 then none else some []
  | v, h, c :: l => match ix sg c with
    | none => none
    | some k => if 8 ≤ h + B then (dec sg B ((v * 2 ^ B + k) % 2 ^ (h + B - 8)) (h + B - 8) l).map (UInt8.ofNat ((v * 2 ^ B + k) / 2 ^ (h + B - 8)) :: ·) else dec sg B (v * 2 ^ B + k) (h + B) l
theorem dec_bad {sg : Bs} {B v h : Nat} {c : UInt8} {l : Bs} (hi : ix sg c = none) : dec sg B v h (c :: l) = none := by simp [dec, hi]
theorem dec_full {sg : Bs} {B v h k : Nat} {c : UInt8} {l : Bs} (hi : ix sg c = some k) (h8 : 8 ≤ h + B) : dec sg B v h (c :: l) = (dec sg B ((v * 2 ^ B + k) % 2 ^ (h + B - 8)) (h + B - 8) l).map (UInt8.ofNat ((v * 2 ^ B + k) / 2 ^ (h + B - 8)) :: ·) := by simp [dec, hi, h8]
theorem dec_part {sg : Bs} {B v h k : Nat} {c : UInt8} {l : Bs} (hi : ix sg c = some k) (h8 : ¬ 8 ≤ h + B) : dec sg B v h (c :: l) = dec sg B (v * 2 ^ B + k) (h + B) l := by simp [dec, hi, h8]
theorem dec_push {sg q : Bs} {B v h k : Nat} {c : UInt8} {l : Bs} (hi : ix sg c = some k) (h8 : 8 ≤ h + B) : (dec sg B v h (c :: l)).map (q ++ ·) = (dec sg B ((v * 2 ^ B + k) % 2 ^ (h + B - 8)) (h + B - 8) l).map ((q ++ [UInt8.ofNat ((v * 2 ^ B + k) / 2 ^ (h + B - 8))]) ++ ·) := by
  rw [dec_full hi h8, Option.map_map]
  generalize UInt8.ofNat ((v * 2 ^ B + k) / 2 ^ (h + B - 8)) = b
  have e : ((fun x => q ++ x) ∘ fun x => b :: x) = fun x => (q ++ [b]) ++ x := by funext x; simp
  rw [e]
theorem shift_or {v B k : Nat} (h : k < 2 ^ B) : v * 2 ^ B ||| k = v * 2 ^ B + k := by
  have := Nat.two_pow_add_eq_or_of_lt h v
  rw [Nat.mul_comm, ← this]
theorem dec_lt {v B h k : Nat} (hv : v < 2 ^ h) (hk : k < 2 ^ B) : v * 2 ^ B + k < 2 ^ (h + B) := by
  have h1 : (v + 1) * 2 ^ B ≤ 2 ^ h * 2 ^ B := Nat.mul_le_mul_right _ hv
  rw [Nat.pow_add]
  rw [Nat.add_mul] at h1
  omega
theorem dec_hex (l : Bs) : dec figs 4 0 0 (hex l) = some l := by
  induction l with
  | nil => rfl
  | cons b l ih =>
    have hb := b.toNat_lt
    show dec figs 4 0 0 (fig (b.toNat / 16) :: fig (b.toNat % 16) :: hex l) = _
    rw [dec_part (ix_figs (by omega)) (by decide), dec_full (ix_figs (by omega)) (by decide)]
    have e1 : ((0 * 2 ^ 4 + b.toNat / 16) * 2 ^ 4 + b.toNat % 16) % 2 ^ (0 + 4 + 4 - 8) = 0 := by simp [Nat.mod_one]
    have e2 : ((0 * 2 ^ 4 + b.toNat / 16) * 2 ^ 4 + b.toNat % 16) / 2 ^ (0 + 4 + 4 - 8) = b.toNat := by simp; omega
    rw [e1, e2, show 0 + 4 + 4 - 8 = 0 from rfl, ih]
    simp
theorem dec_b64 : ∀ l : Bs, dec signs6 6 0 0 (b64r l) = some l
  | [] => rfl
  | [a] => by
    have ha := a.toNat_lt
    show dec signs6 6 0 0 [six (a.toNat / 4), six (a.toNat % 4 * 16)] = _
    rw [dec_part (ix_six (by omega)) (by decide), dec_full (ix_six (by omega)) (by decide)]
    have e1 : ((0 * 2 ^ 6 + a.toNat / 4) * 2 ^ 6 + a.toNat % 4 * 16) % 2 ^ (0 + 6 + 6 - 8) = 0 := by simp; omega
    have e2 : ((0 * 2 ^ 6 + a.toNat / 4) * 2 ^ 6 + a.toNat % 4 * 16) / 2 ^ (0 + 6 + 6 - 8) = a.toNat := by simp; omega
    rw [e1, e2]
    simp [dec]
  | [a, b] => by
    have ha := a.toNat_lt
    have hb := b.toNat_lt
    show dec signs6 6 0 0 [six (a.toNat / 4), six (a.toNat % 4 * 16 + b.toNat / 16), six (b.toNat % 16 * 4)] = _
    rw [dec_part (ix_six (by omega)) (by decide), dec_full (ix_six (by omega)) (by decide), dec_full (ix_six (by omega)) (by decide)]
    have e1 : ((0 * 2 ^ 6 + a.toNat / 4) * 2 ^ 6 + (a.toNat % 4 * 16 + b.toNat / 16)) % 2 ^ (0 + 6 + 6 - 8) = b.toNat / 16 := by simp; omega
    have e2 : ((0 * 2 ^ 6 + a.toNat / 4) * 2 ^ 6 + (a.toNat % 4 * 16 + b.toNat / 16)) / 2 ^ (0 + 6 + 6 - 8) = a.toNat := by simp; omega
    rw [e1, e2]
    have e3 : (b.toNat / 16 * 2 ^ 6 + b.toNat % 16 * 4) % 2 ^ (0 + 6 + 6 - 8 + 6 - 8) = 0 := by simp; omega
    have e4 : (b.toNat / 16 * 2 ^ 6 + b.toNat % 16 * 4) / 2 ^ (0 + 6 + 6 - 8 + 6 - 8) = b.toNat := by simp; omega
    rw [e3, e4]
    simp [dec]
  | a :: b :: c :: r => by
    have ha := a.toNat_lt
    have hb := b.toNat_lt
    have hc := c.toNat_lt
    show dec signs6 6 0 0 (six (a.toNat / 4) :: six (a.toNat % 4 * 16 + b.toNat / 16) :: six (b.toNat % 16 * 4 + c.toNat / 64) :: six (c.toNat % 64) :: b64r r) = _
    rw [dec_part (ix_six (by omega)) (by decide), dec_full (ix_six (by omega)) (by decide), dec_full (ix_six (by omega)) (by decide), dec_full (ix_six (by omega)) (by decide)]
    have e1 : ((0 * 2 ^ 6 + a.toNat / 4) * 2 ^ 6 + (a.toNat % 4 * 16 + b.toNat / 16)) % 2 ^ (0 + 6 + 6 - 8) = b.toNat / 16 := by simp; omega
    have e2 : ((0 * 2 ^ 6 + a.toNat / 4) * 2 ^ 6 + (a.toNat % 4 * 16 + b.toNat / 16)) / 2 ^ (0 + 6 + 6 - 8) = a.toNat := by simp; omega
    rw [e1, e2]
    have e3 : (b.toNat / 16 * 2 ^ 6 + (b.toNat % 16 * 4 + c.toNat / 64)) % 2 ^ (0 + 6 + 6 - 8 + 6 - 8) = c.toNat / 64 := by simp; omega
    have e4 : (b.toNat / 16 * 2 ^ 6 + (b.toNat % 16 * 4 + c.toNat / 64)) / 2 ^ (0 + 6 + 6 - 8 + 6 - 8) = b.toNat := by simp; omega
    rw [e3, e4]
    have e5 : (c.toNat / 64 * 2 ^ 6 + c.toNat % 64) % 2 ^ (0 + 6 + 6 - 8 + 6 - 8 + 6 - 8) = 0 := by simp; omega
    have e6 : (c.toNat / 64 * 2 ^ 6 + c.toNat % 64) / 2 ^ (0 + 6 + 6 - 8 + 6 - 8 + 6 - 8) = c.toNat := by simp; omega
    rw [e5, e6, show 0 + 6 + 6 - 8 + 6 - 8 + 6 - 8 = 0 from rfl, dec_b64 r]
    simp
theorem b64r_ne : ∀ (l : Bs), ∀ x ∈ b64r l, x ≠ 61
  | [], _, h => by cases h
  | [a], x, h => by
    have ha := a.toNat_lt
    simp only [b64r, List.mem_cons, List.not_mem_nil, or_false] at h
    rcases h with rfl | rfl <;> exact six_ne (by omega)
  | [a, b], x, h => by
    have ha := a.toNat_lt
    have hb := b.toNat_lt
    simp only [b64r, List.mem_cons, List.not_mem_nil, or_false] at h
    rcases h with rfl | rfl | rfl <;> exact six_ne (by omega)
  | a :: b :: c :: r, x, h => by
    have ha := a.toNat_lt
    have hb := b.toNat_lt
    have hc := c.toNat_lt
    simp only [b64r, List.cons_append, List.nil_append, List.mem_cons] at h
    rcases h with rfl | rfl | rfl | rfl | h
    · exact six_ne (by omega)
    · exact six_ne (by omega)
    · exact six_ne (by omega)
    · exact six_ne (by omega)
    · exact b64r_ne r x h
theorem trim_pad {a : Bs} (h : ∀ x ∈ a, x ≠ 61) (n : Nat) : Lib.trimRightB (a ++ List.replicate n 61) 61 = a := by
  unfold Lib.trimRightB
  rw [List.reverse_append, List.reverse_replicate]
  have h1 : ∀ n : Nat, (List.replicate n (61 : UInt8) ++ a.reverse).dropWhile (· == 61) = a.reverse := by
    intro n
    induction n with
    | zero =>
      simp only [List.replicate_zero, List.nil_append]
      cases hr : a.reverse with
      | nil => rfl
      | cons x r =>
        have hx : x ≠ 61 := h x (by have : x ∈ a.reverse := by rw [hr]; simp
                                    simpa using this)
        have hb : (x == 61) = false := by simpa using hx
        simp [List.dropWhile, hb]
    | succ n ih => simpa [List.replicate_succ, List.dropWhile] using ih
  rw [h1, List.reverse_reverse]
def unb (s : Bs) : Option Bs := if Lib.trimRightB s 61 ++ List.replicate ((4 - (Lib.trimRightB s 61).length % 4) % 4) 61 = s then dec signs6 6 0 0 (Lib.trimRightB s 61) else none
theorem unb_b64 (l : Bs) : unb (b64 l) = some l := by
  have h : Lib.trimRightB (b64 l) 61 = b64r l := by rw [b64_fill, trim_pad (b64r_ne l)]
  unfold unb
  rw [h, if_pos (b64_fill l).symm, dec_b64]
end Go.Proofs.YtehfgmagmnjffaaGreatDoor.Pl
