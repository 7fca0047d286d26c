/-
  Plain words: what the functions compute, on lists of bytes. No program stands in it.
-/
namespace Go.Proofs.YtehfgmagmnjffaaGreatDoor.Pl
abbrev Bs := List UInt8

/-! ### names -/
def nameC (c : UInt8) : Bool := (97 ≤ c && c ≤ 122) || (48 ≤ c && c ≤ 57) || c == 46 || c == 45 || c == 95 || c == 64
def named (s : Bs) : Bool := decide (1 ≤ s.length ∧ s.length ≤ 64) && s.all nameC

theorem u8_of (b : UInt8) (p : UInt8 → Nat → Bool) (h : ∀ n, n < 256 → p (UInt8.ofNat n) n = true) : p b b.toNat = true := by
  have := h b.toNat b.toNat_lt
  rwa [UInt8.ofNat_toNat] at this
theorem nameI (b : UInt8) : ((((((decide ((97 : Int) ≤ (b.toNat : Int)) && decide ((b.toNat : Int) ≤ 122)) || (decide ((48 : Int) ≤ (b.toNat : Int)) && decide ((b.toNat : Int) ≤ 57))) || decide ((b.toNat : Int) = 46)) || decide ((b.toNat : Int) = 45)) || decide ((b.toNat : Int) = 95)) || decide ((b.toNat : Int) = 64)) = nameC b := by
  have h := u8_of b (fun b n => ((((((decide ((97 : Int) ≤ (n : Int)) && decide ((n : Int) ≤ 122)) || (decide ((48 : Int) ≤ (n : Int)) && decide ((n : Int) ≤ 57))) || decide ((n : Int) = 46)) || decide ((n : Int) = 45)) || decide ((n : Int) = 95)) || decide ((n : Int) = 64)) == nameC b) (by decide +kernel)
  simpa using h
theorem take_succ' (s : Bs) {k : Nat} {b : UInt8} (h : s[k]? = some b) : s.take (k + 1) = s.take k ++ [b] := by
  rw [List.take_add_one, h]; rfl
theorem all_take (s : Bs) (p : UInt8 → Bool) {k : Nat} {b : UInt8} (h : s[k]? = some b) : (s.take (k + 1)).all p = ((s.take k).all p && p b) := by
  rw [take_succ' s h]; simp [List.all_append]
theorem all_false (s : Bs) (p : UInt8 → Bool) {k : Nat} {b : UInt8} (h : s[k]? = some b) (hp : p b = false) : s.all p = false := by
  rw [List.all_eq_false]
  exact ⟨b, List.mem_of_getElem? h, by simp [hp]⟩
theorem get_some (s : Bs) {k : Nat} (h : k < s.length) : ∃ b, s[k]? = some b := ⟨_, List.getElem?_eq_getElem h⟩

/-! ### hexadecimal figures -/
def figs : Bs := [48, 49, 50, 51, 52, 53, 54, 55, 56, 57, 97, 98, 99, 100, 101, 102]
def fig (n : Nat) : UInt8 := figs.getD n 0
def hex (l : Bs) : Bs := l.flatMap fun b => [fig (b.toNat / 16), fig (b.toNat % 16)]
theorem hex_length (l : Bs) : (hex l).length = 2 * l.length := by
  unfold hex
  induction l with
  | nil => rfl
  | cons a l ih => simp only [List.flatMap_cons, List.length_append, List.length_cons, List.length_nil, ih]; omega
theorem hex_snoc (l : Bs) (b : UInt8) : hex (l ++ [b]) = hex l ++ [fig (b.toNat / 16), fig (b.toNat % 16)] := by simp [hex]

/-! ### numbers as figures -/
def number (n : Nat) : Bs := if n < 10 then [fig n] else number (n / 10) ++ [fig (n % 10)]
theorem fig_slice (n : Nat) (h : n < 10) : List.take (((n : Int) + 1).toNat - (n : Int).toNat) (List.drop (n : Int).toNat [48, 49, 50, 51, 52, 53, 54, 55, 56, 57]) = [fig n] := by
  rw [show ((n : Int) + 1).toNat - (n : Int).toNat = 1 from by omega, Int.toNat_natCast]
  revert n; decide
theorem number_small {n : Nat} (h : n < 10) : number n = [fig n] := by unfold number; simp [h]
theorem number_big {n : Nat} (h : ¬ n < 10) : number n = number (n / 10) ++ [fig (n % 10)] := by rw [number]; simp [h]
theorem number_length (n : Nat) : (number n).length ≤ n + 1 := by
  induction n using Nat.strongRecOn with
  | _ n ih =>
    by_cases h : n < 10
    · rw [number_small h]; simp
    · rw [number_big h]
      have := ih (n / 10) (by omega)
      simp; omega
theorem figs_at {n : Nat} (h : n < 16) : figs[n]? = some (fig n) := by
  revert n; decide
/-- The sign of six bits. -/
def six (n : Nat) : UInt8 := if n < 26 then UInt8.ofNat (65 + n) else if n < 52 then UInt8.ofNat (97 + n - 26) else if n < 62 then UInt8.ofNat (48 + n - 52) else if n = 62 then 43 else 47
theorem six_nat {n : Nat} (h : n < 64) : (six n).toNat = if n < 26 then 65 + n else if n < 52 then 71 + n else if n < 62 then n - 4 else if n = 62 then 43 else 47 := by
  revert n; decide +kernel

/-! ### a row of bits, as signs of so many bits -/
/-- What is put out while there are bits enough: the signs, the bits that are left, how many. -/
def drn (sg : Bs) (B v h : Nat) : Bs × Nat × Nat :=
  if hc : 0 < B ∧ B ≤ h then let r := drn sg B (v % 2 ^ (h - B)) (h - B); (sg.getD (v / 2 ^ (h - B)) 0 :: r.1, r.2) else ([], v, h)
termination_by h
theorem drn_lt {sg : Bs} {B v h : Nat} (hc : h < B) : drn sg B v h = ([], v, h) := by rw [drn, dif_neg (by omega)]
theorem drn_ge {sg : Bs} {B v h : Nat} (h0 : 0 < B) (hc : B ≤ h) : drn sg B v h = (sg.getD (v / 2 ^ (h - B)) 0 :: (drn sg B (v % 2 ^ (h - B)) (h - B)).1, (drn sg B (v % 2 ^ (h - B)) (h - B)).2) := by rw [drn, dif_pos ⟨h0, hc⟩]
/-- All that is put out from a state on. -/
def enc (sg : Bs) (B : Nat) : Nat → Nat → Bs → Bs
  | v, h, [] => if 0 < h then [sg.getD (v * 2 ^ (B - h)) 0] else []
  | v, h, c :: l => (drn sg B (v * 256 + c.toNat) (h + 8)).1 ++ enc sg B (drn sg B (v * 256 + c.toNat) (h + 8)).2.1 (drn sg B (v * 256 + c.toNat) (h + 8)).2.2 l
theorem or_byte {v c : Nat} (h : c < 256) : v * 2 ^ 8 ||| c = v * 256 + c := by
  have := Nat.two_pow_add_eq_or_of_lt (i := 8) (b := c) (by omega) v
  rw [Nat.mul_comm, ← this]
theorem div_pow_lt {v h B : Nat} (hv : v < 2 ^ h) (hB : B ≤ h) : v / 2 ^ (h - B) < 2 ^ B := by
  apply Nat.div_lt_of_lt_mul
  rw [← Nat.pow_add]
  rwa [show h - B + B = h from by omega]
theorem get_getD (l : Bs) {i : Nat} (h : i < l.length) : l[i]? = some (l.getD i 0) := by simp [List.getD, h]
theorem pow_le_64 {h : Nat} (k : Nat) (hk : h ≤ k) : 2 ^ h ≤ 2 ^ k := Nat.pow_le_pow_right (by decide) hk
/-- Hexadecimal figures are signs of four bits. -/
theorem enc_hex (l : Bs) : enc figs 4 0 0 l = hex l := by
  induction l with
  | nil => rfl
  | cons c l ih =>
    have hc := c.toNat_lt
    have e : drn figs 4 (0 * 256 + c.toNat) (0 + 8) = ([fig (c.toNat / 16), fig (c.toNat % 16)], 0, 0) := by
      rw [drn_ge (by decide) (by decide), drn_ge (by decide) (by decide), drn_lt (by decide)]
      simp [fig, Nat.mod_one]
    simp only [enc, e, ih]
    simp [hex]
def signs6 : Bs := [65, 66, 67, 68, 69, 70, 71, 72, 73, 74, 75, 76, 77, 78, 79, 80, 81, 82, 83, 84, 85, 86, 87, 88, 89, 90, 97, 98, 99, 100, 101, 102, 103, 104, 105, 106, 107, 108, 109, 110, 111, 112, 113, 114, 115, 116, 117, 118, 119, 120, 121, 122, 48, 49, 50, 51, 52, 53, 54, 55, 56, 57, 43, 47]
theorem sign6 {n : Nat} (h : n < 64) : signs6.getD n 0 = six n := by
  revert n; decide +kernel
/-- Three bytes at a time, four signs; what lacks is filled up. -/
def b64 : Bs → Bs
  | a :: b :: c :: r => [six (a.toNat / 4), six (a.toNat % 4 * 16 + b.toNat / 16), six (b.toNat % 16 * 4 + c.toNat / 64), six (c.toNat % 64)] ++ b64 r
  | [a, b] => [six (a.toNat / 4), six (a.toNat % 4 * 16 + b.toNat / 16), six (b.toNat % 16 * 4), 61]
  | [a] => [six (a.toNat / 4), six (a.toNat % 4 * 16), 61, 61]
  | [] => []
theorem b64_length : ∀ l : Bs, (b64 l).length = (l.length + 2) / 3 * 4
  | [] => rfl
  | [_] => by simp [b64]
  | [_, _] => by simp [b64]
  | _ :: _ :: _ :: r => by simp only [b64, List.length_append, List.length_cons, List.length_nil, b64_length r]; omega
/-- Six bits at a time; what lacks is not there. -/
def b64r : Bs → Bs
  | a :: b :: c :: r => [six (a.toNat / 4), six (a.toNat % 4 * 16 + b.toNat / 16), six (b.toNat % 16 * 4 + c.toNat / 64), six (c.toNat % 64)] ++ b64r r
  | [a, b] => [six (a.toNat / 4), six (a.toNat % 4 * 16 + b.toNat / 16), six (b.toNat % 16 * 4)]
  | [a] => [six (a.toNat / 4), six (a.toNat % 4 * 16)]
  | [] => []
theorem b64r_length : ∀ l : Bs, (b64r l).length ≤ 2 * l.length
  | [] => by simp [b64r]
  | [_] => by simp [b64r]
  | [_, _] => by simp [b64r]
  | _ :: _ :: _ :: r => by simp only [b64r, List.length_append, List.length_cons, List.length_nil]; have := b64r_length r; omega
theorem enc1 (a : UInt8) : drn signs6 6 (0 * 256 + a.toNat) (0 + 8) = ([six (a.toNat / 4)], a.toNat % 4, 2) := by
  have ha := a.toNat_lt
  rw [drn_ge (by decide) (by decide), drn_lt (by decide), sign6 (by simp; omega)]; simp
theorem enc2 (a b : UInt8) : drn signs6 6 (a.toNat % 4 * 256 + b.toNat) (2 + 8) = ([six (a.toNat % 4 * 16 + b.toNat / 16)], b.toNat % 16, 4) := by
  have ha := a.toNat_lt; have hb := b.toNat_lt
  rw [drn_ge (by decide) (by decide), drn_lt (by decide), sign6 (by simp; omega)]; simp
  constructor
  · congr 1; omega
  · omega
theorem enc3 (b c : UInt8) : drn signs6 6 (b.toNat % 16 * 256 + c.toNat) (4 + 8) = ([six (b.toNat % 16 * 4 + c.toNat / 64), six (c.toNat % 64)], 0, 0) := by
  have hb := b.toNat_lt; have hc := c.toNat_lt
  rw [drn_ge (by decide) (by decide), drn_ge (by decide) (by decide), drn_lt (by decide), sign6 (by simp; omega), sign6 (by simp; omega)]
  have e1 : (b.toNat % 16 * 256 + c.toNat) / 2 ^ (4 + 8 - 6) = b.toNat % 16 * 4 + c.toNat / 64 := by simp; omega
  have e2 : (b.toNat % 16 * 256 + c.toNat) % 2 ^ (4 + 8 - 6) / 2 ^ (4 + 8 - 6 - 6) = c.toNat % 64 := by simp; omega
  have e3 : (b.toNat % 16 * 256 + c.toNat) % 2 ^ (4 + 8 - 6) % 2 ^ (4 + 8 - 6 - 6) = 0 := by simp; omega
  rw [e1, e2, e3]
theorem enc_b64 : ∀ l : Bs, enc signs6 6 0 0 l = b64r l
  | [] => rfl
  | [a] => by
    have ha := a.toNat_lt
    simp only [enc, enc1, b64r]
    rw [sign6 (by simp; omega)]; simp
  | [a, b] => by
    have ha := a.toNat_lt; have hb := b.toNat_lt
    simp only [enc, enc1, enc2, b64r]
    rw [sign6 (by simp; omega)]; simp
  | a :: b :: c :: r => by
    simp only [enc, enc1, enc2, enc3, b64r, enc_b64 r]
    simp
theorem b64_fill : ∀ l : Bs, b64 l = b64r l ++ List.replicate ((4 - (b64r l).length % 4) % 4) 61
  | [] => rfl
  | [_] => rfl
  | [_, _] => rfl
  | a :: b :: c :: r => by
    have h := b64_fill r
    simp only [b64, b64r, List.append_assoc]
    congr 1
    rw [h]
    simp only [List.length_append, List.length_cons, List.length_nil]
    rw [show (0 + 1 + 1 + 1 + 1 + (b64r r).length) % 4 = (b64r r).length % 4 from by omega]

/-! ### the reference's signs of six bits -/
def byt (s : Bs) (j : Nat) : Nat := (s.getD j 0).toNat
theorem byt_lt (s : Bs) (j : Nat) : byt s j < 256 := (s.getD j 0).toNat_lt
theorem byt_get {s : Bs} {j : Nat} {b : UInt8} (h : s[j]? = some b) : byt s j = b.toNat := by simp [byt, List.getD, h]
theorem byt_out {s : Bs} {j : Nat} (h : s.length ≤ j) : byt s j = 0 := by simp [byt, List.getD, List.getElem?_eq_none h]
def sx (N : Nat) : Nat → UInt8
  | 0 => six (N / 262144)
  | 1 => six (N / 4096 % 64)
  | 2 => six (N / 64 % 64)
  | _ => six (N % 64)
def upd (f : Nat → UInt8) (kk k : Nat) : Bs := (List.range 4).map fun j => if j < k ∧ kk < j then 61 else f j
theorem upd_zero (f : Nat → UInt8) (kk : Nat) : upd f kk 0 = [f 0, f 1, f 2, f 3] := by simp [upd, List.range, List.range.loop]
theorem upd_set (f : Nat → UInt8) {kk k : Nat} (h : kk < k) : (upd f kk k).set k 61 = upd f kk (k + 1) := by
  apply List.ext_getElem (by simp [upd])
  intro i h1 h2
  simp only [upd, List.getElem_set, List.getElem_map, List.getElem_range]
  split
  · rw [if_pos (by omega)]
  · by_cases h3 : i < k ∧ kk < i
    · rw [if_pos h3, if_pos (by omega)]
    · rw [if_neg h3, if_neg (by omega)]
theorem upd_keep (f : Nat → UInt8) {kk k : Nat} (h : ¬ kk < k) : upd f kk k = upd f kk (k + 1) := by
  apply List.ext_getElem (by simp [upd])
  intro i h1 h2
  simp only [upd, List.getElem_map, List.getElem_range]
  by_cases h3 : i < k ∧ kk < i
  · rw [if_pos h3, if_pos (by omega)]
  · rw [if_neg h3, if_neg (by omega)]
theorem b64_append : ∀ (a b : Bs), a.length % 3 = 0 → b64 (a ++ b) = b64 a ++ b64 b
  | [], _, _ => rfl
  | [_], _, h => by simp at h
  | [_, _], _, h => by simp at h
  | x :: y :: z :: r, b, h => by
    have := b64_append r b (by simp at h; omega)
    simp only [List.cons_append, b64, this, List.append_assoc]
theorem upd_b64 (s : Bs) (i kk : Nat) (h : i < s.length) (h1 : kk ≤ 3) (h2 : i + kk ≤ s.length) (h3 : kk = 3 ∨ i + kk = s.length) (h4 : 0 < kk) :
    upd (sx (byt s i * 65536 + byt s (i + 1) * 256 + byt s (i + 2))) kk 4 = b64 ((s.drop i).take 3) := by
  have hu : ∀ f : Nat → UInt8, upd f kk 4 = [f 0, if kk < 1 then 61 else f 1, if kk < 2 then 61 else f 2, if kk < 3 then 61 else f 3] := by
    intro f
    simp [upd, List.range, List.range.loop]
  obtain ⟨a, ha⟩ := get_some s h
  have hab := a.toNat_lt
  have da : s.drop i = a :: s.drop (i + 1) := List.drop_eq_getElem?_toList_append (l := s) (i := i) |>.trans (by rw [ha]; rfl)
  rw [hu, da, byt_get ha]
  have hc : kk = 1 ∨ kk = 2 ∨ kk = 3 := by omega
  rcases hc with rfl | rfl | rfl
  · have hl : s.drop (i + 1) = [] := List.drop_of_length_le (by omega)
    rw [hl, byt_out (by omega), byt_out (by omega)]
    simp only [sx, List.take, b64]
    have e1 : (a.toNat * 65536 + 0 * 256 + 0) / 262144 = a.toNat / 4 := by omega
    have e2 : (a.toNat * 65536 + 0 * 256 + 0) / 4096 % 64 = a.toNat % 4 * 16 := by omega
    rw [e1, e2]
    simp
  · obtain ⟨b, hb⟩ := get_some s (k := i + 1) (by omega)
    have hbb := b.toNat_lt
    have db : s.drop (i + 1) = b :: s.drop (i + 1 + 1) := List.drop_eq_getElem?_toList_append (l := s) (i := i + 1) |>.trans (by rw [hb]; rfl)
    have hl : s.drop (i + 1 + 1) = [] := List.drop_of_length_le (by omega)
    rw [db, hl, byt_get hb, byt_out (by omega)]
    simp only [sx, List.take, b64]
    have e1 : (a.toNat * 65536 + b.toNat * 256 + 0) / 262144 = a.toNat / 4 := by omega
    have e2 : (a.toNat * 65536 + b.toNat * 256 + 0) / 4096 % 64 = a.toNat % 4 * 16 + b.toNat / 16 := by omega
    have e3 : (a.toNat * 65536 + b.toNat * 256 + 0) / 64 % 64 = b.toNat % 16 * 4 := by omega
    rw [e1, e2, e3]
    simp
  · obtain ⟨b, hb⟩ := get_some s (k := i + 1) (by omega)
    have hbb := b.toNat_lt
    obtain ⟨c, hc⟩ := get_some s (k := i + 1 + 1) (by omega)
    have hcb := c.toNat_lt
    have db : s.drop (i + 1) = b :: s.drop (i + 1 + 1) := List.drop_eq_getElem?_toList_append (l := s) (i := i + 1) |>.trans (by rw [hb]; rfl)
    have dc : s.drop (i + 1 + 1) = c :: s.drop (i + 1 + 1 + 1) := List.drop_eq_getElem?_toList_append (l := s) (i := i + 1 + 1) |>.trans (by rw [hc]; rfl)
    rw [db, dc, byt_get hb, byt_get hc]
    simp only [sx, List.take, b64, List.append_nil]
    have e1 : (a.toNat * 65536 + b.toNat * 256 + c.toNat) / 262144 = a.toNat / 4 := by omega
    have e2 : (a.toNat * 65536 + b.toNat * 256 + c.toNat) / 4096 % 64 = a.toNat % 4 * 16 + b.toNat / 16 := by omega
    have e3 : (a.toNat * 65536 + b.toNat * 256 + c.toNat) / 64 % 64 = b.toNat % 16 * 4 + c.toNat / 64 := by omega
    have e4 : (a.toNat * 65536 + b.toNat * 256 + c.toNat) % 64 = c.toNat % 64 := by omega
    rw [e1, e2, e3, e4]
    simp
end Go.Proofs.YtehfgmagmnjffaaGreatDoor.Pl
