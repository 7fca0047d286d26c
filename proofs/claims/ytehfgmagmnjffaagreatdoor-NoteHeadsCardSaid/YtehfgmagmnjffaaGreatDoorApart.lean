/-
  RowsA that lie apart: what writing into one, and growing one, does to the others. No program stands in it.
-/
import Derived.Test.YtehfgmagmnjffaaGreatDoorTypes
namespace Go.Proofs.YtehfgmagmnjffaaGreatDoor.Pl
open Go Go.RowKit Go.Proofs.YtehfgmagmnjffaaGreatDoor.E
def Sepb (a b : Value) : Prop := a.ownBlock = none ∨ a.ownBlock ≠ b.ownBlock
theorem Sepb.symm {a b : Value} (h : Sepb a b) : Sepb b a := by
  rcases h with h | h
  · cases hb : b.ownBlock with
    | none => exact .inl hb
    | some q => exact .inr (by rw [hb, h]; simp)
  · exact .inr (Ne.symm h)
def pat (i n : Nat) : Bs := (List.range n).map fun k => UInt8.ofNat (31 * i + 3 * k + 1)
theorem pat_length (i n : Nat) : (pat i n).length = n := by simp [pat]
theorem pat_get (i : Nat) {n k : Nat} (h : k < n) : (pat i n)[k]? = some (UInt8.ofNat (31 * i + 3 * k + 1)) := by simp [pat, h]
theorem pat_succ (i n : Nat) : pat i (n + 1) = pat i n ++ [UInt8.ofNat (31 * i + 3 * n + 1)] := by simp [pat, List.range_succ]
theorem pat_take (i : Nat) {n m : Nat} (h : n ≤ m) : (pat i m).take n = pat i n := by
  apply List.ext_getElem?
  intro k
  rw [List.getElem?_take]
  by_cases hk : k < n
  · rw [if_pos hk, pat_get i hk, pat_get i (by omega)]
  · rw [if_neg hk, List.getElem?_eq_none (by rw [pat_length]; omega)]
def mix (i : Nat) (o : Bs) (k : Nat) : Bs := (pat i o.length).take k ++ o.drop k
theorem mix_zero (i : Nat) (o : Bs) : mix i o 0 = o := by simp [mix]
theorem mix_all (i : Nat) (o : Bs) : mix i o o.length = pat i o.length := by simp [mix, List.take_of_length_le, pat_length]
theorem mix_length (i : Nat) (o : Bs) {k : Nat} (h : k ≤ o.length) : (mix i o k).length = o.length := by simp [mix, pat_length]; omega
theorem mix_set (i : Nat) (o : Bs) {k : Nat} (h : k < o.length) : (mix i o k).set k (UInt8.ofNat (31 * i + 3 * k + 1)) = mix i o (k + 1) := by
  apply List.ext_getElem?
  intro q
  rw [List.getElem?_set]
  have hl : ((pat i o.length).take k).length = k := by rw [List.length_take, pat_length]; omega
  have hl' : ((pat i o.length).take (k + 1)).length = k + 1 := by rw [List.length_take, pat_length]; omega
  by_cases hq : k = q
  · subst hq
    rw [if_pos rfl, if_pos (by rw [mix_length i o (by omega)]; exact h)]
    unfold mix
    rw [List.getElem?_append_left (by omega), List.getElem?_take, if_pos (by omega), pat_get i h]
  · rw [if_neg hq]
    unfold mix
    by_cases h1 : q < k
    · rw [List.getElem?_append_left (by omega), List.getElem?_append_left (by omega), List.getElem?_take, List.getElem?_take, if_pos h1, if_pos (by omega)]
    · rw [List.getElem?_append_right (by omega), List.getElem?_append_right (by omega), hl, hl', List.getElem?_drop, List.getElem?_drop, show k + (q - k) = k + 1 + (q - (k + 1)) from by omega]
theorem wrap_bc (n : Nat) : Value.int .u8 (IntKind.u8.wrap (n : Int)) = bc (UInt8.ofNat n) := by
  show Value.int .u8 _ = Value.int .u8 _
  congr 1

section
variable {w w' : World} {e B N : Nat} {x : Nat → Value} {C C' : Nat → Bs}
structure RowsA (w : World) (e B N : Nat) (x : Nat → Value) (C : Nat → Bs) : Prop where
  own : ∀ j, j < N → Own w B e 1 (x j) (C j).length ((C j).map bc)
  sep : ∀ i j, i < N → j < N → i ≠ j → Sepb (x i) (x j)
theorem RowsA.set (h : RowsA w e B N x C) {i : Nat} (hi : i < N) (hg : w.grownBy w' (x i).ownBlock) (ho : Own w' B e 1 (x i) (C' i).length ((C' i).map bc)) (hC : ∀ j, j < N → j ≠ i → C' j = C j) : RowsA w' e B N x C' :=
  ⟨fun j hj => by
    by_cases hji : j = i
    · subst hji; exact ho
    · rw [hC j hj hji]; exact (h.own j hj).grown hg (h.sep j i hj hi hji), h.sep⟩
theorem RowsA.eqv (h : RowsA w e B N x C) (hC : ∀ j, j < N → C' j = C j) : RowsA w e B N x C' := ⟨fun j hj => by rw [hC j hj]; exact h.own j hj, h.sep⟩
theorem RowsA.gr (h : RowsA w e B N x C) (k : Gr w w') : RowsA w' e B N x C := ⟨fun j hj => (h.own j hj).gr k, h.sep⟩
theorem own_ne {B' e' size size' m m' : Nat} {v u : Value} {xs ys : List Value} (h : Own w B e size v m xs) (k : Own w B' e' size' u m' ys) (hne : e ≠ e') : Sepb v u := by
  rcases h.2 with ⟨rfl, _⟩ | ⟨g, cap, cur, fr, rfl, _, hh, _⟩
  · exact .inl rfl
  · rcases k.2 with ⟨rfl, _⟩ | ⟨g', cap', cur', fr', rfl, _, hh', _⟩
    · exact .inr (by simp [Value.ownBlock])
    · refine .inr fun he => ?_
      simp only [Value.ownBlock, Option.some.injEq] at he
      subst he
      rw [hh] at hh'
      injection hh' with hh'
      injection hh' with _ ht
      exact hne ht
theorem rc_grown {size n : Nat} {v : Value} {xs : List Value} {row : Option Nat} (h : Rc w size v n xs) (hg : w.grownBy w' row) (hne : v.ownBlock = none ∨ v.ownBlock ≠ row) : Rc w' size v n xs := by
  obtain ⟨A, c, rfl, hc, hl, hr⟩ := h
  refine ⟨A, c, rfl, hc, hl, fun hn => ?_⟩
  obtain ⟨ad, rfl, hb, hcell⟩ := hr hn
  have hne' : some ad.block ≠ row := by
    rcases hne with h | h
    · cases h
    · exact h
  exact ⟨ad, rfl, Nat.lt_of_lt_of_le hb hg.size, fun j u hu => hg.cell (hcell j u hu) (by rw [add_block]; exact hne')⟩

/-- RowsA that grow; what each was in the beginning can be read still. -/
structure Grow (w : World) (e B K N : Nat) (x : Nat → Value) (n : Nat → Nat) (cur : Nat → Value) (m : Nat → Nat) : Prop where
  own : ∀ j, j < N → Own w B e 1 (cur j) (m j) ((pat j (m j)).map bc)
  le : ∀ j, j < N → n j ≤ m j
  form : ∀ j, j < N → ∃ A c, x j = .slice A (n j) c ∧ n j ≤ c ∧ ∀ a, A = some a → a = ⟨a.block, 0, none⟩
  old : ∀ j, j < N → ((cur j).ownBlock = (x j).ownBlock ∨ (Rc w 1 (x j) (n j) ((pat j (n j)).map bc) ∧ Sepb (x j) (cur j)))
  sep : ∀ i j, i < N → j < N → i ≠ j → Sepb (cur i) (cur j) ∧ Sepb (x i) (cur j)
  lt : ∀ j, j < N → ∀ q, (x j).ownBlock = some q → q < K
  sz : K ≤ w.heap.size
variable {K : Nat} {n : Nat → Nat} {cur : Nat → Value} {m : Nat → Nat}
theorem Grow.rc (h : Grow w e B K N x n cur m) {j : Nat} (hj : j < N) : Rc w 1 (x j) (n j) ((pat j (n j)).map bc) := by
  rcases h.old j hj with he | ⟨h', _⟩
  · obtain ⟨A, c, hx, hc, hA⟩ := h.form j hj
    rw [hx] at he ⊢
    refine ⟨A, c, rfl, hc, by simp [pat_length], fun hn => ?_⟩
    have hle := h.le j hj
    rcases (h.own j hj).2 with ⟨_, h0⟩ | ⟨g, cap, cu, fr, hv, _, hh, _, _, _, _, ht⟩
    · omega
    · rw [hv] at he
      cases A with
      | none => simp [Value.ownBlock] at he
      | some a =>
        simp only [Value.ownBlock, Option.some.injEq] at he
        have ha := hA a rfl
        obtain ⟨gb, o, st⟩ := a
        simp only [Addr.mk.injEq, true_and] at ha
        obtain ⟨rfl, rfl⟩ := ha
        simp only at he
        subst he
        refine ⟨⟨g, 0, none⟩, rfl, (Array.getElem?_eq_some_iff.1 hh).1, fun k u hu => ?_⟩
        have hadd : (⟨g, 0, none⟩ : Addr).add k = ⟨g, k, none⟩ := by unfold Addr.add; split <;> simp_all
        have hk : k < n j := by have := (List.getElem?_eq_some_iff.1 hu).1; simpa [pat_length] using this
        rw [hadd, cell_of_row w g k cu e fr hh]
        rw [← pat_take j hle, List.map_take, List.getElem?_take, if_pos hk, ← ht, List.getElem?_take, if_pos (by omega)] at hu
        simpa using hu
  · exact h'
def updV (f : Nat → Value) (i : Nat) (v : Value) : Nat → Value := fun j => if j = i then v else f j
def updN (f : Nat → Nat) (i : Nat) (v : Nat) : Nat → Nat := fun j => if j = i then v else f j
theorem Grow.push (h : Grow w e B K N x n cur m) {i : Nat} (hi : i < N) {v' : Value} (hg : w.grownBy w' (cur i).ownBlock) (ho : Own w' B e 1 v' (m i + 1) ((pat i (m i + 1)).map bc)) (hb : v'.ownBlock = (cur i).ownBlock ∨ (v'.ownBlock = some w.heap.size ∧ w.grownBy w' none)) :
    Grow w' e B K N x n (updV cur i v') (updN m i (m i + 1)) := by
  have hcl : ∀ j, j < N → ∀ q, (cur j).ownBlock = some q → q < w.heap.size := fun j hj q hq => ((h.own j hj).lt q hq).2
  have hxl : ∀ j, j < N → ∀ q, (x j).ownBlock = some q → q < w.heap.size := fun j hj q hq => Nat.lt_of_lt_of_le (h.lt j hj q hq) h.sz
  have hnew : ∀ u : Value, (∀ q, u.ownBlock = some q → q < w.heap.size) → Sepb u (cur i) → Sepb u v' := by
    intro u hu hs
    rcases hb with hb | ⟨hb, _⟩
    · unfold Sepb; rw [hb]; exact hs
    · cases hq : u.ownBlock with
      | none => exact .inl hq
      | some q => exact .inr (by rw [hq, hb]; intro he; have := hu q hq; injection he with he; omega)
  refine ⟨fun j hj => ?_, fun j hj => ?_, h.form, fun j hj => ?_, fun a b ha hb' hab => ?_, h.lt, Nat.le_trans h.sz hg.size⟩
  · unfold updV updN
    by_cases hji : j = i
    · subst hji; rw [if_pos rfl, if_pos rfl]; exact ho
    · rw [if_neg hji, if_neg hji]; exact (h.own j hj).grown hg (h.sep j i hj hi hji).1
  · unfold updN
    have := h.le j hj
    by_cases hji : j = i
    · subst hji; rw [if_pos rfl]; omega
    · rw [if_neg hji]; exact this
  · unfold updV
    by_cases hji : j = i
    · subst hji
      rw [if_pos rfl]
      rcases hb with hb | ⟨hb, hgn⟩
      · rcases h.old j hj with ho' | ⟨hrc, hs⟩
        · exact .inl (hb.trans ho')
        · exact .inr ⟨rc_grown hrc hg hs, by unfold Sepb; rw [hb]; exact hs⟩
      · refine .inr ⟨rc_grown (h.rc hj) hgn ?_, ?_⟩
        · cases hq : (x j).ownBlock with
          | none => exact .inl rfl
          | some q => exact .inr (by simp)
        · cases hq : (x j).ownBlock with
          | none => exact .inl hq
          | some q => exact .inr (by rw [hq, hb]; intro he; have := hxl j hj q hq; injection he with he; omega)
    · rw [if_neg hji]
      rcases h.old j hj with ho' | ⟨hrc, hs⟩
      · exact .inl ho'
      · exact .inr ⟨rc_grown hrc hg (h.sep j i hj hi hji).2, hs⟩
  · unfold updV
    by_cases h1 : a = i
    · subst h1
      rw [if_pos rfl, if_neg (Ne.symm hab)]
      exact ⟨(hnew _ (hcl b hb') ((h.sep b a hb' ha (Ne.symm hab)).1)).symm, (h.sep a b ha hb' hab).2⟩
    · rw [if_neg h1]
      by_cases h2 : b = i
      · subst h2
        rw [if_pos rfl]
        exact ⟨hnew _ (hcl a ha) (h.sep a b ha hb' hab).1, hnew _ (hxl a ha) (h.sep a b ha hb' hab).2⟩
      · rw [if_neg h2]; exact h.sep a b ha hb' hab
theorem Grow.eqv (h : Grow w e B K N x n cur m) {m' : Nat → Nat} (hm : ∀ j, j < N → m' j = m j) : Grow w e B K N x n cur m' :=
  ⟨fun j hj => by rw [hm j hj]; exact h.own j hj, fun j hj => by rw [hm j hj]; exact h.le j hj, h.form, h.old, h.sep, h.lt, h.sz⟩
theorem Grow.other (h : Grow w e B K N x n cur m) {row : Option Nat} (hg : w.grownBy w' row) (hc : ∀ j, j < N → (cur j).ownBlock = none ∨ (cur j).ownBlock ≠ row) (hx : ∀ j, j < N → (x j).ownBlock = none ∨ (x j).ownBlock ≠ row) : Grow w' e B K N x n cur m :=
  ⟨fun j hj => (h.own j hj).grown hg (hc j hj), h.le, h.form, fun j hj => (h.old j hj).elim .inl (fun k => .inr ⟨rc_grown k.1 hg (hx j hj), k.2⟩), h.sep, h.lt, Nat.le_trans h.sz hg.size⟩
theorem Grow.gr (h : Grow w e B K N x n cur m) (k : Gr w w') : Grow w' e B K N x n cur m :=
  ⟨fun j hj => (h.own j hj).gr k, h.le, h.form, fun j hj => (h.old j hj).elim .inl (fun q => .inr ⟨q.1.gr k, q.2⟩), h.sep, h.lt, Nat.le_trans h.sz k.le⟩
theorem own_form {size k : Nat} {v : Value} {xs : List Value} (h : Own w B e size v k xs) : ∃ A c, v = .slice A k c ∧ k ≤ c ∧ ∀ a, A = some a → a = ⟨a.block, 0, none⟩ := by
  rcases h.2 with ⟨rfl, rfl⟩ | ⟨g, cap, cu, fr, rfl, _, _, _, hc, _⟩
  · exact ⟨none, 0, rfl, Nat.le_refl _, fun a ha => by cases ha⟩
  · exact ⟨some ⟨g, 0, none⟩, cap, rfl, hc, fun a ha => by injection ha with ha; subst ha; rfl⟩
theorem RowsA.start (h : RowsA w e B N x C) (hC : ∀ j, j < N → C j = pat j (n j)) : Grow w e B w.heap.size N x n x n :=
  ⟨fun j hj => by have := h.own j hj; rw [hC j hj, pat_length] at this; exact this, fun j _ => Nat.le_refl _, fun j hj => by have := own_form (h.own j hj); rw [hC j hj, pat_length] at this; exact this, fun j _ => .inl rfl, fun i j hi hj hij => ⟨h.sep i j hi hj hij, h.sep i j hi hj hij⟩, fun j hj q hq => ((h.own j hj).lt q hq).2, Nat.le_refl _⟩
end
def el (vs : List Value) (j : Nat) : Value := vs.getD j .nilIface
theorem el_get {vs : List Value} {j : Nat} (h : j < vs.length) : vs[j]? = some (el vs j) := by simp [el, h]
section
variable (O : Nat → Bs)
def c1 (k j : Nat) : Bs := if j < k then pat j (O j).length else O j
def c2 (k q j : Nat) : Bs := if j < k then pat j (O j).length else if j = k then mix k (O k) q else O j
def mN (i j : Nat) : Nat := if j < i then (O j).length + 10 else (O j).length
def mQ (i q j : Nat) : Nat := if j < i then (O j).length + 10 else if j = i then q else (O j).length
theorem c1_zero (j : Nat) : c1 O 0 j = O j := by simp [c1]
theorem c2_zero (k j : Nat) : c2 O k 0 j = c1 O k j := by
  unfold c1 c2
  by_cases h : j < k
  · rw [if_pos h, if_pos h]
  · rw [if_neg h, if_neg h]
    by_cases h2 : j = k
    · subst h2; rw [if_pos rfl, mix_zero]
    · rw [if_neg h2]
theorem c2_full (k j : Nat) : c1 O (k + 1) j = c2 O k (O k).length j := by
  unfold c1 c2
  by_cases h : j < k
  · rw [if_pos h, if_pos (by omega)]
  · rw [if_neg h]
    by_cases h2 : j = k
    · subst h2; rw [if_pos rfl, if_pos (by omega), mix_all]
    · rw [if_neg h2, if_neg (by omega)]
theorem c2_at (k q : Nat) : c2 O k q k = mix k (O k) q := by simp [c2]
theorem c2_other (k q q' : Nat) {j : Nat} (h : j ≠ k) : c2 O k q' j = c2 O k q j := by
  unfold c2
  by_cases h1 : j < k
  · rw [if_pos h1, if_pos h1]
  · rw [if_neg h1, if_neg h1, if_neg h, if_neg h]
theorem c1_all (N j : Nat) (h : j < N) : c1 O N j = pat j (O j).length := by simp [c1, h]
theorem mN_zero (j : Nat) : mN O 0 j = (O j).length := by simp [mN]
theorem mQ_zero (i j : Nat) : mQ O i (O i).length j = mN O i j := by
  unfold mN mQ
  by_cases h : j < i
  · rw [if_pos h, if_pos h]
  · rw [if_neg h, if_neg h]
    by_cases h2 : j = i
    · subst h2; rw [if_pos rfl]
    · rw [if_neg h2]
theorem mQ_full (i j : Nat) : mN O (i + 1) j = mQ O i ((O i).length + 10) j := by
  unfold mN mQ
  by_cases h : j < i
  · rw [if_pos h, if_pos (by omega)]
  · rw [if_neg h]
    by_cases h2 : j = i
    · subst h2; rw [if_pos rfl, if_pos (by omega)]
    · rw [if_neg h2, if_neg (by omega)]
theorem mQ_at (i q : Nat) : mQ O i q i = q := by simp [mQ]
theorem mQ_push (i q j : Nat) : mQ O i (q + 1) j = updN (mQ O i q) i (mQ O i q i + 1) j := by
  unfold updN
  rw [mQ_at]
  by_cases h : j = i
  · subst h; rw [if_pos rfl, mQ_at]
  · rw [if_neg h]
    unfold mQ
    by_cases h1 : j < i
    · rw [if_pos h1, if_pos h1]
    · rw [if_neg h1, if_neg h1, if_neg h, if_neg h]
theorem mN_all (N j : Nat) (h : j < N) : mN O N j = (O j).length + 10 := by simp [mN, h]
end
theorem range_upd {i : Nat} (cur : Nat → Value) (v : Value) : (List.range i).map (updV cur i v) = (List.range i).map cur := by
  apply List.map_congr_left
  intro j hj
  have := List.mem_range.1 hj
  unfold updV
  rw [if_neg (by omega)]
end Go.Proofs.YtehfgmagmnjffaaGreatDoor.Pl
