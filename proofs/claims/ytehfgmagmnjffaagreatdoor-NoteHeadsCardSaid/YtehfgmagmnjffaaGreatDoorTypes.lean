/-
  The program's values as Lean data: heads, signatures, entries; their cells. Nothing of a program stands in it.
-/
import Derived.Test.YtehfgmagmnjffaaGreatDoorAgg
import Derived.Test.YtehfgmagmnjffaaGreatDoorPlain
import Derived.Lib.ItoaNum
namespace Go.Proofs.YtehfgmagmnjffaaGreatDoor.Pl
open Go Go.Proofs.YtehfgmagmnjffaaGreatDoor.E

theorem some_of {P : Program} {e n : Nat} (h : (P.info? e).map (·.size) = some n) : (P.info? e).isSome = true := by
  cases hi : P.info? e with
  | none => rw [hi] at h; cases h
  | some i => rfl
theorem bc_inj : ∀ {a b : Bs}, a.map bc = b.map bc → a = b
  | [], [], _ => rfl
  | [], _ :: _, h => by cases h
  | _ :: _, [], h => by cases h
  | x :: a, y :: b, h => by
    simp only [List.map_cons, List.cons.injEq, Value.int.injEq, true_and] at h
    have h1 : x = y := UInt8.toNat_inj.1 (by exact_mod_cast h.1)
    rw [h1, bc_inj h.2]
theorem S_inj {a b : Bs} (h : S a = S b) : a = b := by
  have := congrArg ByteArray.toList h
  simpa [S_toList] using this
theorem fits_bc (l : Bs) {n : Nat} (h : l.length = n) : fits (List.replicate n (.i .u8)) (l.map bc) = true := by
  have := fits_bytes .u8 (l.map bc) (fun v hv => by
    obtain ⟨b, _, rfl⟩ := List.mem_map.1 hv
    exact ⟨_, rfl⟩)
  simpa [h] using this

/-! ### numbers -/
theorem fig_dec {n : Nat} (h : n < 10) : fig n = UInt8.ofNat (48 + n) := by
  revert n; decide
theorem dec_number (n : Nat) : Lib.decDigits n = number n := by
  induction n using Nat.strongRecOn with
  | _ n ih =>
    unfold Lib.decDigits
    by_cases h : n < 10
    · rw [dif_pos h, number_small h, fig_dec h]
    · rw [dif_neg h, number_big h, ih (n / 10) (by omega), fig_dec (by omega)]
theorem itoa_number (n : Nat) : Lib.itoa (n : Int) = number n := by
  unfold Lib.itoa
  rw [if_neg (by omega), Int.toNat_natCast, dec_number]
theorem number_len : ∀ (k : Nat) (n : Nat), n < 10 ^ k → 0 < k → (number n).length ≤ k
  | 0, _, _, h => absurd h (by decide)
  | k + 1, n, h, _ => by
    by_cases h10 : n < 10
    · rw [number_small h10]; simp
    · rw [number_big h10]
      have hk : 0 < k := by
        rcases Nat.eq_zero_or_pos k with rfl | hk
        · omega
        · exact hk
      have := number_len k (n / 10) (by rw [Nat.pow_succ] at h; omega) hk
      simp; omega

/-! ### heads -/
structure Hd where
  o : Bs
  size : Int
  time : Int
  root : Bs
  sig : Bs
  hr : root.length = 32
  hs : sig.length = 64
deriving DecidableEq
def Hd.cells (h : Hd) : List Value := .string (S h.o) :: .int .i64 h.size :: .int .i64 h.time :: (h.root.map bc ++ h.sig.map bc)
abbrev Hd.val (h : Hd) : Value := .agg h.cells.toArray
theorem Hd.len (h : Hd) : h.cells.length = 99 := by simp [Hd.cells, h.hr, h.hs]
theorem Hd.sz (h : Hd) : h.cells.toArray.size = 99 := by simp [h.len]
theorem Hd.at0 (h : Hd) : h.cells.toArray[0]? = some (.string (S h.o)) := rfl
theorem Hd.at1 (h : Hd) : h.cells.toArray[1]? = some (.int .i64 h.size) := rfl
theorem Hd.at2 (h : Hd) : h.cells.toArray[2]? = some (.int .i64 h.time) := rfl
theorem Hd.cells_inj {a b : Hd} (h : a.cells = b.cells) : a = b := by
  obtain ⟨o, size, time, root, sig, hr, hs⟩ := a
  obtain ⟨o', size', time', root', sig', hr', hs'⟩ := b
  simp only [Hd.cells, List.cons.injEq, Value.string.injEq, Value.int.injEq, true_and] at h
  obtain ⟨h1, h2, h3, h4⟩ := h
  have := List.append_inj h4 (by simp [hr, hr'])
  simp only [Hd.mk.injEq]
  exact ⟨S_inj h1, h2, h3, bc_inj this.1, bc_inj this.2⟩
def Hd.ks : List Ck := .s :: .i .i64 :: .i .i64 :: List.replicate 96 (.i .u8)
theorem Hd.fits (h : Hd) : E.fits Hd.ks h.cells = true := by
  have := fits_append (fits_bc h.root h.hr) (fits_bc h.sig h.hs)
  simp only [Hd.ks, Hd.cells, E.fits, Ck.fit, decide_true, Bool.true_and]
  exact this
section
variable {w : World} {g : Nat} {t : TypeId} {h : Hd}
theorem Hd.rcRoot (hB : Blk w g t h.cells.toArray) : Rc w 1 (.slice (some ⟨g, 3, none⟩) 32 32) h.root.length (h.root.map bc) := by
  have := hB.rc (o := 3) (m := 32) (size := 1) (xs := h.root.map bc) (by simp [h.hr]) (fun j v hj => by
    have hlt : j < 32 := by have := (List.getElem?_eq_some_iff.1 hj).1; simpa [h.hr] using this
    show (Value.string (S h.o) :: .int .i64 h.size :: .int .i64 h.time :: (h.root.map bc ++ h.sig.map bc)).toArray[3 + j]? = some v
    rw [List.getElem?_toArray, Nat.add_comm]
    simp only [List.getElem?_cons_succ]
    rw [List.getElem?_append_left (by simpa [h.hr] using hlt)]
    exact hj)
  rw [h.hr]; exact this
theorem Hd.rcSig (hB : Blk w g t h.cells.toArray) : Rc w 1 (.slice (some ⟨g, 35, none⟩) 64 64) h.sig.length (h.sig.map bc) := by
  have := hB.rc (o := 35) (m := 64) (size := 1) (xs := h.sig.map bc) (by simp [h.hs]) (fun j v hj => by
    show (Value.string (S h.o) :: .int .i64 h.size :: .int .i64 h.time :: (h.root.map bc ++ h.sig.map bc)).toArray[35 + j]? = some v
    rw [List.getElem?_toArray, show 35 + j = (32 + j) + 1 + 1 + 1 from by omega]
    simp only [List.getElem?_cons_succ]
    rw [List.getElem?_append_right (by simp [h.hr])]
    simpa [h.hr] using hj)
  rw [h.hs]; exact this
end
def Hd.good (h : Hd) : Bool := named h.o && decide (0 ≤ h.size) && decide (h.size ≤ 1048576) && decide (0 ≤ h.time) && decide (h.time ≤ 9007199254740991)
def Hd.body (h : Hd) : Bs := [99, 97, 99, 104, 101, 116, 32, 118, 49, 10] ++ h.o ++ [10] ++ number h.size.toNat ++ [32] ++ number h.time.toNat ++ [10] ++ hex h.root ++ [10, 10]
def Hd.text (h : Hd) : Bs := h.body ++ (b64 h.sig ++ [10])
theorem named_len {s : Bs} (h : named s = true) : 1 ≤ s.length ∧ s.length ≤ 64 := by
  unfold named at h
  simp only [Bool.and_eq_true, decide_eq_true_eq] at h
  exact h.1
structure Hd.Good (h : Hd) : Prop where
  n : named h.o = true
  o : h.o.length ≤ 64
  s0 : 0 ≤ h.size
  s1 : h.size ≤ 1048576
  t0 : 0 ≤ h.time
  t1 : h.time ≤ 9007199254740991
  ls : (number h.size.toNat).length ≤ 7
  lt : (number h.time.toNat).length ≤ 16
theorem Hd.good_iff {h : Hd} : h.good = true → h.Good := by
  unfold Hd.good
  simp only [Bool.and_eq_true, decide_eq_true_eq]
  rintro ⟨⟨⟨⟨h1, h2⟩, h3⟩, h4⟩, h5⟩
  exact ⟨h1, (named_len h1).2, h2, h3, h4, h5, number_len 7 _ (by omega) (by decide), number_len 16 _ (by omega) (by decide)⟩
theorem Hd.body_length {h : Hd} (hg : h.Good) : h.body.length ≤ 300 := by
  have h1 := hg.o
  have h2 := hg.ls
  have h3 := hg.lt
  have h4 := hex_length h.root
  have h5 := h.hr
  simp only [Hd.body, List.length_append, List.length_cons, List.length_nil]
  omega
theorem Hd.text_length {h : Hd} (hg : h.Good) : h.text.length ≤ 500 := by
  have h1 := Hd.body_length hg
  have h2 := b64_length h.sig
  have h3 := h.hs
  simp only [Hd.text, List.length_append, List.length_cons, List.length_nil]
  omega

/-! ### blocks written whole; elements of several cells -/
theorem _root_.Go.Proofs.YtehfgmagmnjffaaGreatDoor.E.Blk.whole {w : World} {g : Nat} {t : TypeId} {cs : Array Value} {vs : List Value} (h : Blk w g t (cs.toList.take 0 ++ vs ++ cs.toList.drop (0 + vs.length)).toArray) (hs : cs.size = vs.length) : Blk w g t vs.toArray := by
  have : cs.toList.drop (0 + vs.length) = [] := List.drop_of_length_le (by simp [hs])
  rw [this] at h
  simpa using h
theorem flat_at {α : Type} {f : α → List Value} {m : Nat} (hf : ∀ x, (f x).length = m) : ∀ {L : List α} {i j : Nat} {x : α} {u : Value}, L[i]? = some x → (f x)[j]? = some u → (L.flatMap f)[i * m + j]? = some u
  | [], _, _, _, _, h, _ => by simp at h
  | y :: L, 0, j, x, u, h, hu => by
    simp only [List.getElem?_cons_zero, Option.some.injEq] at h
    subst h
    rw [List.flatMap_cons, Nat.zero_mul, Nat.zero_add, List.getElem?_append_left (List.getElem?_eq_some_iff.1 hu).1]
    exact hu
  | y :: L, i + 1, j, x, u, h, hu => by
    rw [List.getElem?_cons_succ] at h
    rw [List.flatMap_cons, show (i + 1) * m + j = (f y).length + (i * m + j) from by rw [hf, Nat.add_mul]; omega, List.getElem?_append_right (by omega), Nat.add_sub_cancel_left]
    exact flat_at hf h hu
theorem flat_len {α : Type} {f : α → List Value} {m : Nat} (hf : ∀ x, (f x).length = m) (L : List α) : (L.flatMap f).length = L.length * m := by
  induction L with
  | nil => simp
  | cons x L ih => rw [List.flatMap_cons, List.length_append, hf, ih, List.length_cons, Nat.add_mul]; omega
/-- An element of a row, cell by cell. -/
theorem _root_.Go.Proofs.YtehfgmagmnjffaaGreatDoor.E.Rc.elem {α : Type} {f : α → List Value} {w : World} {m n : Nat} {v : Value} {L : List α} (h : Rc w m v n (L.flatMap f)) (hf : ∀ x, (f x).length = m) {i : Nat} {x : α} (hi : L[i]? = some x) : ∀ j u, (f x)[j]? = some u → w.cell? (((adOf v).add ((i : Int).toNat * m)).add j) = some u := by
  intro j u hu
  rw [add_add, Int.toNat_natCast]
  exact h.at_ (flat_at hf hi hu)
def zero32 : Bs := List.replicate 32 0
theorem zero32_len : zero32.length = 32 := by simp [zero32]
theorem zero32_bc : zero32.map bc = List.replicate 32 (.int .u8 0) := by simp [zero32]

/-! ### signatures -/
structure Sg where
  id : Bs
  key : Bs
  sig : Bs
  hk : key.length = 32
  hs : sig.length = 64
deriving DecidableEq
def Sg.cells (s : Sg) : List Value := .string (S s.id) :: (s.key.map bc ++ s.sig.map bc)
abbrev Sg.val (s : Sg) : Value := .agg s.cells.toArray
theorem Sg.len (s : Sg) : s.cells.length = 97 := by simp [Sg.cells, s.hk, s.hs]
def Sg.ks : List Ck := .s :: List.replicate 96 (.i .u8)
theorem Sg.fits (s : Sg) : E.fits Sg.ks s.cells = true := by
  have := fits_append (fits_bc s.key s.hk) (fits_bc s.sig s.hs)
  simp only [Sg.ks, Sg.cells, E.fits, Ck.fit, Bool.true_and]
  exact this
theorem Sg.cells_inj {a b : Sg} (h : a.cells = b.cells) : a = b := by
  obtain ⟨id, key, sig, hk, hs⟩ := a
  obtain ⟨id', key', sig', hk', hs'⟩ := b
  simp only [Sg.cells, List.cons.injEq, Value.string.injEq] at h
  have := List.append_inj h.2 (by simp [hk, hk'])
  simp only [Sg.mk.injEq]
  exact ⟨S_inj h.1, bc_inj this.1, bc_inj this.2⟩
theorem Sg.one (s : Sg) : s.cells.all (·.oneCell') = true := by
  simp only [Sg.cells, List.all_cons, List.all_append, List.all_map, Bool.and_eq_true]
  refine ⟨rfl, ?_, ?_⟩ <;> exact List.all_eq_true.2 fun _ _ => rfl
theorem Sg.at0 (s : Sg) : s.cells.toArray[0]? = some (.string (S s.id)) := rfl
theorem Sg.atKey (s : Sg) : ∀ j v, (s.key.map bc)[j]? = some v → s.cells.toArray[1 + j]? = some v := fun j v hj => by
  have hlt : j < (s.key.map bc).length := (List.getElem?_eq_some_iff.1 hj).1
  show (Value.string (S s.id) :: (s.key.map bc ++ s.sig.map bc)).toArray[1 + j]? = some v
  rw [List.getElem?_toArray, Nat.add_comm, List.getElem?_cons_succ, List.getElem?_append_left hlt]
  exact hj
theorem Sg.rcKey {w : World} {g : Nat} {t : TypeId} {s : Sg} (hB : Blk w g t s.cells.toArray) : Rc w 1 (.slice (some ⟨g, 1, none⟩) 32 32) s.key.length (s.key.map bc) := by
  have := hB.rc (o := 1) (m := 32) (size := 1) (xs := s.key.map bc) (by simp [s.hk]) s.atKey
  rw [s.hk]; exact this
/-- A signer's text. -/
def Sg.by_ (s : Sg) : Bs := if s.id = [] then [107, 101, 121, 58] ++ hex s.key else s.id
def leB (a b : Bs) : Bool := Op.bytesLess a b || a == b
/-- A signature that is not one of an entry's, behind one of a signer. -/
def Sg.bad (last : Bs) (s : Sg) : Bool := leB s.by_ last || (!decide (s.id = []) && (!named s.id || !decide (s.key = zero32)))
def signedF : Bs → List Sg → Bool
  | _, [] => true
  | last, s :: r => !s.bad last && signedF s.by_ r

/-! ### entries -/
structure En where
  kind : Int
  dig : Bs
  typ : Bs
  pay : Value
  op : Int
  id : Bs
  key : Bs
  sigs : Value
  hd : dig.length = 32
  hk : key.length = 32
def En.cells (e : En) : List Value := .int .i64 e.kind :: (e.dig.map bc ++ (.string (S e.typ) :: e.pay :: .int .i64 e.op :: .string (S e.id) :: (e.key.map bc ++ [e.sigs])))
abbrev En.val (e : En) : Value := .agg e.cells.toArray
theorem En.len (e : En) : e.cells.length = 70 := by simp [En.cells, e.hd, e.hk]
section
variable (e : En)
theorem En.at0 : e.cells.toArray[0]? = some (.int .i64 e.kind) := rfl
theorem En.tail (j : Nat) (hj : j < 4) : e.cells.toArray[33 + j]? = [Value.string (S e.typ), e.pay, .int .i64 e.op, .string (S e.id)][j]? := by
  rw [List.getElem?_toArray, show 33 + j = (32 + j) + 1 from by omega]
  show (Value.int .i64 e.kind :: (e.dig.map bc ++ (.string (S e.typ) :: e.pay :: .int .i64 e.op :: .string (S e.id) :: (e.key.map bc ++ [e.sigs]))))[(32 + j) + 1]? = _
  rw [List.getElem?_cons_succ, List.getElem?_append_right (by simp [e.hd])]
  simp only [List.length_map, e.hd, Nat.add_sub_cancel_left]
  have : j = 0 ∨ j = 1 ∨ j = 2 ∨ j = 3 := by omega
  rcases this with rfl | rfl | rfl | rfl <;> rfl
theorem En.at33 : e.cells.toArray[33]? = some (.string (S e.typ)) := e.tail 0 (by decide)
theorem En.at34 : e.cells.toArray[34]? = some e.pay := e.tail 1 (by decide)
theorem En.at35 : e.cells.toArray[35]? = some (.int .i64 e.op) := e.tail 2 (by decide)
theorem En.at36 : e.cells.toArray[36]? = some (.string (S e.id)) := e.tail 3 (by decide)
theorem En.at69 : e.cells.toArray[69]? = some e.sigs := by
  rw [List.getElem?_toArray]
  show (Value.int .i64 e.kind :: (e.dig.map bc ++ (.string (S e.typ) :: e.pay :: .int .i64 e.op :: .string (S e.id) :: (e.key.map bc ++ [e.sigs]))))[68 + 1]? = _
  rw [List.getElem?_cons_succ, List.getElem?_append_right (by simp [e.hd])]
  simp only [List.length_map, e.hd, show 68 - 32 = 32 + 1 + 1 + 1 + 1 from rfl, List.getElem?_cons_succ]
  rw [List.getElem?_append_right (by simp [e.hk])]
  simp [e.hk]
theorem En.atDig : ∀ j v, (e.dig.map bc)[j]? = some v → e.cells.toArray[1 + j]? = some v := fun j v hj => by
  have hlt : j < (e.dig.map bc).length := (List.getElem?_eq_some_iff.1 hj).1
  show (Value.int .i64 e.kind :: (e.dig.map bc ++ (.string (S e.typ) :: e.pay :: .int .i64 e.op :: .string (S e.id) :: (e.key.map bc ++ [e.sigs])))).toArray[1 + j]? = _
  rw [List.getElem?_toArray, Nat.add_comm, List.getElem?_cons_succ, List.getElem?_append_left hlt]
  exact hj
theorem En.atKey : ∀ j v, (e.key.map bc)[j]? = some v → e.cells.toArray[37 + j]? = some v := fun j v hj => by
  have hlt : j < (e.key.map bc).length := (List.getElem?_eq_some_iff.1 hj).1
  show (Value.int .i64 e.kind :: (e.dig.map bc ++ (.string (S e.typ) :: e.pay :: .int .i64 e.op :: .string (S e.id) :: (e.key.map bc ++ [e.sigs])))).toArray[37 + j]? = _
  rw [List.getElem?_toArray, show 37 + j = (36 + j) + 1 from by omega, List.getElem?_cons_succ, List.getElem?_append_right (by simp [e.hd]; omega)]
  simp only [List.length_map, e.hd, show 36 + j - 32 = j + 1 + 1 + 1 + 1 from by omega, List.getElem?_cons_succ]
  rw [List.getElem?_append_left hlt]
  exact hj
end
section
variable (e : En)
theorem En.sz : e.cells.toArray.size = 70 := by simp [e.len]
theorem En.setTail (j : Nat) (hj : j < 4) (u : Value) : e.cells.toArray.setIfInBounds (33 + j) u = (Value.int .i64 e.kind :: (e.dig.map bc ++ ([Value.string (S e.typ), e.pay, .int .i64 e.op, .string (S e.id)].set j u ++ (e.key.map bc ++ [e.sigs])))).toArray := by
  apply Array.ext'
  rw [Array.toList_setIfInBounds]
  show (Value.int .i64 e.kind :: (e.dig.map bc ++ ([Value.string (S e.typ), e.pay, .int .i64 e.op, .string (S e.id)] ++ (e.key.map bc ++ [e.sigs])))).set (33 + j) u = _
  rw [show 33 + j = (32 + j) + 1 from by omega, List.set_cons_succ, List.set_append_right _ _ (by simp [e.hd])]
  simp only [List.length_map, e.hd, Nat.add_sub_cancel_left]
  rw [List.set_append_left _ _ (by simpa using hj)]
theorem En.setOp (z : Int) : e.cells.toArray.setIfInBounds 35 (.int .i64 z) = ({ e with op := z } : En).cells.toArray := e.setTail 2 (by decide) _
theorem En.setId (s : Bs) : e.cells.toArray.setIfInBounds 36 (.string (S s)) = ({ e with id := s } : En).cells.toArray := e.setTail 3 (by decide) _
theorem En.setTyp (s : Bs) : e.cells.toArray.setIfInBounds 33 (.string (S s)) = ({ e with typ := s } : En).cells.toArray := e.setTail 0 (by decide) _
theorem En.setPay (v : Value) : e.cells.toArray.setIfInBounds 34 v = ({ e with pay := v } : En).cells.toArray := e.setTail 1 (by decide) _
theorem En.setKey (k : Bs) (hk : k.length = 32) : (e.cells.toArray.toList.take 37 ++ k.map bc ++ e.cells.toArray.toList.drop (37 + (k.map bc).length)).toArray = ({ e with key := k, hk := hk } : En).cells.toArray := by
  apply Array.ext'
  show (Value.int .i64 e.kind :: (e.dig.map bc ++ (.string (S e.typ) :: e.pay :: .int .i64 e.op :: .string (S e.id) :: (e.key.map bc ++ [e.sigs])))).take 37 ++ k.map bc ++ (Value.int .i64 e.kind :: (e.dig.map bc ++ (.string (S e.typ) :: e.pay :: .int .i64 e.op :: .string (S e.id) :: (e.key.map bc ++ [e.sigs])))).drop (37 + (k.map bc).length) = Value.int .i64 e.kind :: (e.dig.map bc ++ (.string (S e.typ) :: e.pay :: .int .i64 e.op :: .string (S e.id) :: (k.map bc ++ [e.sigs])))
  have h1 : (e.dig.map bc).take 36 = e.dig.map bc := List.take_of_length_le (by simp [e.hd])
  have h2 : (e.dig.map bc).drop 68 = [] := List.drop_of_length_le (by simp [e.hd])
  simp [List.take_append, List.drop_append, e.hd, e.hk, hk, h1, h2]
end
/-- A binding with what it has of its kind taken away. -/
def En.bare4 (e : En) : En := { (if e.op = 3 then e else { e with key := zero32, hk := zero32_len }) with op := 0, id := [] }
def En.own4 (e : En) : Bool := decide (1 ≤ e.op) && decide (e.op ≤ 3) && named e.id
/-- The entry by which keys.Is asks whether a text is a name. -/
def En.ask (s : Bs) (v : Value) : En := { kind := 4, dig := zero32, typ := [], pay := .slice none 0 0, op := 3, id := s, key := zero32, sigs := v, hd := zero32_len, hk := zero32_len }
def En.only4 (v : Value) : En := { kind := 4, dig := zero32, typ := [], pay := .slice none 0 0, op := 0, id := [], key := zero32, sigs := v, hd := zero32_len, hk := zero32_len }
def Sg.none : Sg := { id := [], key := zero32, sig := List.replicate 64 0, hk := zero32_len, hs := by simp }
end Go.Proofs.YtehfgmagmnjffaaGreatDoor.Pl
