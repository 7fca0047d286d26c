/-
  Words for memory: a block known whole, a row that is the call's own, a slice that can be read; what append, make, literals and conversions do to them. Nothing of a program stands in it.
-/
import Derived.Test.YtehfgmagmnjffaaGreatDoorEng
import Derived.Laws.AppendOwn
import Derived.Laws.OwnMore
import Derived.Laws.MakeOwn
import Derived.Lib.AppendStr
import Derived.Lib.ConvBytes
import Derived.Laws.BytesString
import Derived.Laws.BytesArg
import Derived.Deep.Draws
import Derived.Lib.Strings
import Derived.ShutString
namespace Go.Proofs.YtehfgmagmnjffaaGreatDoor.E
open Go Go.RowKit

/-! ### Growth -/
/-- All that stood in w stands in w'. -/
abbrev Gr (w w' : World) : Prop := Below w.heap.size w w'
theorem Gr.rf (w : World) : Gr w w := Below.refl _ _
theorem Gr.tr {a b c : World} (h : Gr a b) (k : Gr b c) : Gr a c := h.trans (k.mono h.size)
theorem Gr.block {w w' : World} (h : Gr w w') {b : Nat} {o : Obj} (hb : w.heap[b]? = some o) : w'.heap[b]? = some o := (Below.block h b (Array.getElem?_eq_some_iff.1 hb).1).trans hb
theorem Gr.le {w w' : World} (h : Gr w w') : w.heap.size ≤ w'.heap.size := h.size
theorem gr_drew (w : World) : Gr w w.drew := (Below.refl _ _).drew
theorem gr_drewN (w : World) (n : Nat) : Gr w (w.drewN n) := ⟨rfl, rfl, rfl, Nat.le_refl _, fun _ _ => rfl⟩
theorem gr_alloc (w : World) (o : Obj) : Gr w (w.alloc o) := (Below.refl _ _).alloc (Nat.le_refl _) o
theorem Gr.of_grown {w w' : World} {base : Nat} {w0 : World} {row : Option Nat} (h : Below base w0 w) (hg : w.grownBy w' row) (hB : base ≤ w.heap.size) (hr : ∀ k, row = some k → base ≤ k) : Below base w0 w' := h.grown hg hB hr

/-! ### Strings as lists of bytes -/
abbrev S (l : List UInt8) : ByteArray := ⟨l.toArray⟩
theorem S_size (l : List UInt8) : (S l).size = l.length := by simp [ByteArray.size]
theorem S_toList (l : List UInt8) : (S l).toList = l := ByteArray.toList_mk l
theorem S_append (a b : List UInt8) : S a ++ S b = S (a ++ b) := by
  apply ByteArray.ext
  simp [S]
theorem S_of (s : ByteArray) : s = S s.data.toList := by simp [S]
theorem S_extract (l : List UInt8) (a b : Nat) : (S l).extract a b = S ((l.drop a).take (b - a)) := ByteArray.extract_mk l a b

/-- A byte as a cell. -/
abbrev bc (b : UInt8) : Value := .int .u8 (b.toNat : Int)
theorem bc_one (l : List UInt8) : ∀ u ∈ l.map bc, u.oneCell' = true := by
  intro u hu
  obtain ⟨b, _, rfl⟩ := List.mem_map.1 hu
  rfl

/-! ### A block known whole -/
def Blk (w : World) (g : Nat) (t : TypeId) (cs : Array Value) : Prop := w.heap[g]? = some (.cells cs t (0, 0))
section
variable {w w' : World} {g : Nat} {t : TypeId} {cs : Array Value}
theorem Blk.lt (h : Blk w g t cs) : g < w.heap.size := (Array.getElem?_eq_some_iff.1 h).1
theorem Blk.cell (h : Blk w g t cs) (i : Nat) : w.cell? ⟨g, i, none⟩ = cs[i]? := cell_of_row w g i cs t (0, 0) h
theorem Blk.frozen (h : Blk w g t cs) (i : Nat) : w.frozen? ⟨g, i, none⟩ = false := by unfold Blk at h; simp [World.frozen?, h]
theorem Blk.new (w : World) (t : TypeId) (cs : Array Value) : Blk (w.alloc (.cells cs t)) w.heap.size t cs := heap_alloc_new w _
theorem Blk.gr (h : Blk w g t cs) (k : Gr w w') : Blk w' g t cs := k.block h
theorem Blk.grown {row : Option Nat} (h : Blk w g t cs) (hb : w.grownBy w' row) (hg : some g ≠ row) : Blk w' g t cs := (hb.block g h.lt hg).trans h
theorem Blk.ne {g' : Nat} {t' : TypeId} {cs' : Array Value} (h : Blk w g t cs) (h' : Blk w g' t' cs') (hne : t ≠ t') : g ≠ g' := by
  rintro rfl
  unfold Blk at h h'
  rw [h] at h'
  injection h' with h'
  injection h' with _ ht
  exact hne ht
end

/-! ### A slice that can be read: its cells -/
def Rc (w : World) (size : Nat) (v : Value) (n : Nat) (xs : List Value) : Prop :=
  ∃ A c, v = .slice A n c ∧ n ≤ c ∧ xs.length = n * size ∧ (0 < n → ∃ ad, A = some ad ∧ ad.block < w.heap.size ∧ ∀ j u, xs[j]? = some u → w.cell? (ad.add j) = some u)
theorem add_block (a : Addr) (n : Nat) : (a.add n).block = a.block := by unfold Addr.add; split <;> rfl
theorem add_add (a : Addr) (i j : Nat) : (a.add i).add j = a.add (i + j) := by
  unfold Addr.add
  by_cases hi : i = 0 <;> by_cases hj : j = 0 <;> simp [hi, hj, Nat.add_assoc]
section
variable {w w' : World} {size n : Nat} {v : Value} {xs : List Value}
theorem Rc.gr (h : Rc w size v n xs) (k : Gr w w') : Rc w' size v n xs := by
  obtain ⟨A, c, rfl, hc, hl, hr⟩ := h
  refine ⟨A, c, rfl, hc, hl, fun hn => ?_⟩
  obtain ⟨ad, rfl, hb, hcell⟩ := hr hn
  exact ⟨ad, rfl, Nat.lt_of_lt_of_le hb k.size, fun j u hu => (k.cell (p := ad.add j) (by rw [add_block]; exact hb)).trans (hcell j u hu)⟩
theorem Rc.nil (w : World) (size c : Nat) (A : Option Addr) : Rc w size (.slice A 0 c) 0 [] := ⟨A, c, rfl, Nat.zero_le _, by simp, fun h => absurd h (by omega)⟩
theorem Rc.form (h : Rc w size v n xs) : ∃ A c, v = .slice A n c := by obtain ⟨A, c, h, _⟩ := h; exact ⟨A, c, h⟩
theorem Rc.len (h : Rc w size v n xs) : xs.length = n * size := by obtain ⟨_, _, _, _, hl, _⟩ := h; exact hl
end

/-! ### A row of the call's own -/
/-- A block's frozen mark lies behind its cells (a string may have been made of it, or it of a string). -/
def Fz (cur : Array Value) (fr : Nat × Nat) : Prop := fr = (0, 0) ∨ cur.size ≤ fr.1
/-- The slice v of n elements lies at the head of a block from base on, which nobody else writes; its cells are xs. -/
def Own (w : World) (base : Nat) (e : TypeId) (size : Nat) (v : Value) (n : Nat) (xs : List Value) : Prop :=
  xs.length = n * size ∧
  ((v = .slice none 0 0 ∧ n = 0) ∨
   ∃ g cap cur fr, v = .slice (some ⟨g, 0, none⟩) n cap ∧ base ≤ g ∧ w.heap[g]? = some (.cells cur e fr) ∧ Fz cur fr ∧ n ≤ cap ∧ cap ≤ maxLen ∧ cur.size = cap * size ∧ cur.toList.take (n * size) = xs)
section
variable {w w' : World} {base base' : Nat} {e : TypeId} {size n : Nat} {v : Value} {xs : List Value}
theorem Own.of_row (h : w.ownsRow base e size v n xs) : Own w base e size v n xs := by
  refine ⟨h.1, ?_⟩
  rcases h.2 with h | ⟨g, cap, cur, h1, h2, h3, h4, h5, h6, h7⟩
  · exact .inl h
  · exact .inr ⟨g, cap, cur, _, h1, h2, h3, .inl rfl, h4, h5, h6, h7⟩
theorem Own.nil (w : World) (base : Nat) (e : TypeId) (size : Nat) : Own w base e size (.slice none 0 0) 0 [] := ⟨by simp, .inl ⟨rfl, rfl⟩⟩
theorem Own.lt (h : Own w base e size v n xs) : ∀ k, v.ownBlock = some k → base ≤ k ∧ k < w.heap.size := by
  rcases h.2 with ⟨rfl, _⟩ | ⟨g, cap, cur, fr, rfl, hb, hg, _⟩
  · simp [Value.ownBlock]
  · intro k hk
    simp only [Value.ownBlock, Option.some.injEq] at hk
    subst hk
    exact ⟨hb, (Array.getElem?_eq_some_iff.1 hg).1⟩
theorem Own.grown {row : Option Nat} (h : Own w base e size v n xs) (hg : w.grownBy w' row) (hne : v.ownBlock = none ∨ v.ownBlock ≠ row) : Own w' base e size v n xs := by
  refine ⟨h.1, ?_⟩
  rcases h.2 with h | ⟨g, cap, cur, fr, rfl, hb, hh, rest⟩
  · exact .inl h
  · refine .inr ⟨g, cap, cur, fr, rfl, hb, ?_, rest⟩
    have hne' : some g ≠ row := by simpa [Value.ownBlock] using hne
    exact (hg.block g (Array.getElem?_eq_some_iff.1 hh).1 hne').trans hh
theorem Own.gr (h : Own w base e size v n xs) (k : Gr w w') : Own w' base e size v n xs := by
  refine ⟨h.1, ?_⟩
  rcases h.2 with h | ⟨g, cap, cur, fr, rfl, hb, hh, rest⟩
  · exact .inl h
  · exact .inr ⟨g, cap, cur, fr, rfl, hb, k.block hh, rest⟩
theorem Own.lower (h : Own w base e size v n xs) (hb : base' ≤ base) : Own w base' e size v n xs := by
  refine ⟨h.1, ?_⟩
  rcases h.2 with h | ⟨g, cap, cur, fr, rfl, hb', hh, rest⟩
  · exact .inl h
  · exact .inr ⟨g, cap, cur, fr, rfl, by omega, hh, rest⟩
theorem Own.rc (h : Own w base e size v n xs) : Rc w size v n xs := by
  have hl := h.1
  rcases h.2 with ⟨rfl, rfl⟩ | ⟨g, cap, cur, fr, rfl, hb, hh, _, hc, _, hs, ht⟩
  · have : xs = [] := List.eq_nil_of_length_eq_zero (by simpa using hl)
    subst this
    exact Rc.nil w size 0 none
  · refine ⟨some ⟨g, 0, none⟩, cap, rfl, hc, hl, fun _ => ⟨_, rfl, (Array.getElem?_eq_some_iff.1 hh).1, fun j u hu => ?_⟩⟩
    have hadd : (⟨g, 0, none⟩ : Addr).add j = ⟨g, j, none⟩ := by unfold Addr.add; split <;> simp_all
    rw [hadd, cell_of_row w g j cur e fr hh]
    have hj : j < n * size := by have := (List.getElem?_eq_some_iff.1 hu).1; omega
    rw [← ht, List.getElem?_take] at hu
    simpa [hj] using hu
theorem Own.ne_blk {g : Nat} {t : TypeId} {cs : Array Value} (h : Own w base e size v n xs) (hg : Blk w g t cs) (hne : e ≠ t) : some g ≠ v.ownBlock := by
  rcases h.2 with ⟨rfl, _⟩ | ⟨g', cap, cur, fr, rfl, _, hh, _⟩
  · simp [Value.ownBlock]
  · intro he
    simp only [Value.ownBlock, Option.some.injEq] at he
    subst he
    unfold Blk at hg
    rw [hh] at hg
    injection hg with hg
    injection hg with _ ht
    exact hne ht
end

section
variable {P : Program} (w : World)
theorem run_storeCells_fz (g o : Nat) (t : TypeId) (fr : Nat × Nat) : ∀ (vs : List Value) (i : Nat) (cur : Array Value) (w : World), w.heap[g]? = some (.cells cur t fr) → Fz cur fr → o + i + vs.length ≤ cur.size → (∀ v ∈ vs, v.oneCell' = true) →
    (storeCells ⟨g, o, none⟩ vs i).run P w = .ok () (w.setRow g (cur.toList.take (o + i) ++ vs ++ cur.toList.drop (o + i + vs.length)).toArray)
  | [], i, cur, w, hg, _, _, _ => by
    simp only [storeCells, List.append_nil, List.length_nil, Nat.add_zero, List.take_append_drop, Array.toArray_toList]
    rw [setRow_self w g cur t fr hg]
    rfl
  | v :: rest, i, cur, w, hg, hz, hl, h1 => by
    have hi : o + i < cur.size := by simp at hl; omega
    have hadd : (⟨g, o, none⟩ : Addr).add i = ⟨g, o + i, none⟩ := by unfold Addr.add; split <;> simp_all
    have hcell : w.cell? ⟨g, o + i, none⟩ = some cur[o + i] := by simp [World.cell?, hg, hi]
    have hfro : w.frozen? ⟨g, o + i, none⟩ = false := by
      rcases hz with rfl | hz
      · simp [World.frozen?, hg]
      · obtain ⟨lo, hi'⟩ := fr
        have : ¬ lo ≤ o + i := by simp at hz; omega
        simp [World.frozen?, hg, this]
    have hst : (store ((⟨g, o, none⟩ : Addr).add i) v).run P w = .ok () (w.setRow g (cur.setIfInBounds (o + i) v)) := by
      rw [hadd, run_store P w _ v _ (h1 v (by simp)), hcell]
      simp [hfro, setCell_eq_setRow w g (o + i) cur t fr v hg]
    have hz' : Fz (cur.setIfInBounds (o + i) v) fr := by unfold Fz at hz ⊢; simpa using hz
    have ih := run_storeCells_fz g o t fr rest (i + 1) (cur.setIfInBounds (o + i) v) (w.setRow g (cur.setIfInBounds (o + i) v)) (setRow_heap w g cur _ t _ hg) hz' (by simp at hl ⊢; omega) (fun x hx => h1 x (by simp [hx]))
    simp only [storeCells, Sem.run_bind, hst, Result.andThen_ok, ih, setRow_setRow]
    congr 3
    have e := list_seg_step cur.toList (o + i) v rest (by simp at hl ⊢; omega)
    simpa [Array.toList_setIfInBounds, Nat.add_assoc] using e

/-- What an append's second operand holds: m elements, the cells news; in whatever world of this heap. -/
structure Src (P : Program) (w : World) (u : TypeId) (size : Nat) (x : Value) (m : Nat) (news : List Value) : Prop where
  typ : (∃ q, P.underlying u = some (.slice q)) ∨ P.underlying u = some .string
  len : ∀ w', (Builtin.lenOf x).run P w' = .ok m w'
  cells : ∀ w', w'.heap = w.heap → (Builtin.firstCells size m x).run P w' = .ok news.toArray w'
  length : news.length = m * size
  one : ∀ u ∈ news, u.oneCell' = true
theorem Src.rc {u e : TypeId} {size m : Nat} {x : Value} {news : List Value} (hu : P.underlying u = some (.slice e)) (h : Rc w size x m news) (h1 : ∀ u ∈ news, u.oneCell' = true) : Src P w u size x m news := by
  obtain ⟨A, c, rfl, hc, hl, hr⟩ := h
  refine ⟨.inl ⟨_, hu⟩, fun w' => rfl, fun w' hw => ?_, hl, h1⟩
  cases A with
  | none =>
    have hm : m = 0 := by
      rcases Nat.eq_zero_or_pos m with h0 | h0
      · exact h0
      · obtain ⟨_, h, _⟩ := hr h0; cases h
    subst hm
    have : news = [] := List.eq_nil_of_length_eq_zero (by simpa using hl)
    subst this
    simp [Builtin.firstCells]
  | some ad =>
    refine run_firstCells_some (P := P) w' size m ad m c news hl (fun j u hu => ?_)
    have hm : 0 < m := by
      have := (List.getElem?_eq_some_iff.1 hu).1
      rcases Nat.eq_zero_or_pos m with h0 | h0
      · rw [hl, h0] at this; omega
      · exact h0
    obtain ⟨ad', h, _, hcell⟩ := hr hm
    injection h with h
    subst h
    have := hcell j u hu
    simpa [World.cell?, hw] using this
theorem Src.str {u : TypeId} (l : List UInt8) (hu : P.underlying u = some .string) : Src P w u 1 (.string (S l)) l.length (l.map bc) := by
  refine ⟨.inr hu, fun w' => by simp [Builtin.lenOf, S_size], fun w' _ => ?_, by simp, bc_one l⟩
  simp only [Builtin.firstCells]
  rw [show (S l).extract 0 l.length = S l from by rw [S_extract]; simp]
  simp [S, bc]

theorem run_append (base : Nat) (t u ty e : TypeId) (i : TypeInfo) (z : Value) (size bytes : Nat) (ht : P.underlying t = some (.slice e)) (hi : P.info? e = some i) (hz : i.zero = some z)
    (hsize : i.size = size) (hby : i.bytes = bytes) (hzs : z.cells.size = size)
    (v : Value) (n : Nat) (xs : List Value) (hown : Own w base e size v n xs) (x : Value) (m : Nat) (news : List Value) (hsrc : Src P w u size x m news)
    (h63 : n + m ≤ maxLen) (hbytes : (n + m) * bytes ≤ 140737488355328) (hpos : 0 < bytes) (hbase : base ≤ w.heap.size) :
    ∃ v' w', (Builtin.append_ #[t, u] ty #[v, x]).run P w = .ok v' w' ∧ Own w' base e size v' (n + m) (xs ++ news) ∧ w.grownBy w' v.ownBlock ∧ (v'.ownBlock = v.ownBlock ∨ (v'.ownBlock = some w.heap.size ∧ w.grownBy w' none)) := by
  subst hsize
  subst hby
  have hsmall : n + m ≤ 9223372036854775807 := by simp only [maxLen] at h63; omega
  have hlen : (xs ++ news).length = (n + m) * i.size := by rw [List.length_append, hown.1, hsrc.length, Nat.add_mul]
  have hdrew : (w.drew).heap = w.heap := rfl
  have grown : ∀ (old : Nat), ∀ (row : Option Nat),
      Own (w.drew.alloc (.cells (xs.toArray ++ news.toArray ++ Builtin.zeroCells z.cells (grownCap w (n + m) old e - (n + m))) e)) base e i.size
        (.slice (some ⟨w.heap.size, 0, none⟩) (n + m) (grownCap w (n + m) old e)) (n + m) (xs ++ news) ∧
      w.grownBy (w.drew.alloc (.cells (xs.toArray ++ news.toArray ++ Builtin.zeroCells z.cells (grownCap w (n + m) old e - (n + m))) e)) row := by
    intro old row
    have hge := grownCap_ge w (n + m) old e
    have hcm : grownCap w (n + m) old e ≤ maxLen := grownCap_le_maxLen w (n + m) old e h63
    refine ⟨⟨hlen, .inr ⟨w.heap.size, _, _, _, rfl, hbase, heap_alloc_new w.drew _, .inl rfl, hge, hcm, ?_, ?_⟩⟩, ⟨rfl, rfl, rfl, by simp, fun k hk _ => Below.heap_alloc w.drew (.cells (xs.toArray ++ news.toArray ++ Builtin.zeroCells z.cells (grownCap w (n + m) old e - (n + m))) e) k hk⟩⟩
    · simp only [Array.size_append, List.size_toArray, size_zeroCells, hzs, hown.1, hsrc.length, ← Nat.add_mul]
      congr 1
      omega
    · simp only [Array.toList_append, List.append_assoc]
      rw [← List.append_assoc, ← hlen]
      exact List.take_left
  have grows : ∀ (A : Option Addr) (old : Nat), old < n + m → v = .slice A n old → (∀ w', w'.heap = w.heap → (Builtin.firstCells i.size n v).run P w' = .ok xs.toArray w') →
      (Builtin.append_ #[t, u] ty #[v, x]).run P w = .ok (.slice (some ⟨w.heap.size, 0, none⟩) (n + m) (grownCap w (n + m) old e)) (w.drew.alloc (.cells (xs.toArray ++ news.toArray ++ Builtin.zeroCells z.cells (grownCap w (n + m) old e - (n + m))) e)) := by
    intro A old ho hv hfc
    subst hv
    have h1 : ¬ (n + m ≤ old) := by omega
    have h2 : ¬ (Builtin.nextslicecap (n + m) old * i.bytes > 281474976710656) := by have := growslice_fits ho hbytes; omega
    have hi0 : i.bytes ≠ 0 := by omega
    have h3 : i.bytes ≠ 0 := hi0
    have hf1 := hfc w.drew rfl
    have hf2 := hsrc.cells w.drew rfl
    have hl := hsrc.len w
    rcases hsrc.typ with ⟨q, hdu⟩ | hdu <;>
      simp [Builtin.append_, run_underlying ht, run_underlying hdu, sizeOf, typeInfo, hi, hl, h1, h2, h3, hf1, hf2, Question.forced, zeroValue, hz, newRow, hi0, grownCap] <;> (congr 2; apply Array.ext'; simp)
  rcases hown.2 with ⟨rfl, rfl⟩ | ⟨g, cap, cur, fr, rfl, hbg, hg, hfz, hnc, hcm, hcs, htake⟩
  · have hx : xs = [] := List.eq_nil_of_length_eq_zero (by simpa using hown.1)
    subst hx
    by_cases hm : m = 0
    · subst hm
      have hn : news = [] := List.eq_nil_of_length_eq_zero (by simpa using hsrc.length)
      subst hn
      refine ⟨.slice none 0 0, w, ?_, Own.nil w base e i.size, ⟨rfl, rfl, rfl, Nat.le_refl _, fun _ _ _ => rfl⟩, .inl rfl⟩
      have hl := hsrc.len w
      have hf2 := hsrc.cells w rfl
      rcases hsrc.typ with ⟨q, hdu⟩ | hdu <;> simp [Builtin.append_, run_underlying ht, run_underlying hdu, sizeOf, typeInfo, hi, hl, hf2]
    · have hr := grows none 0 (by omega) rfl (fun w' _ => by simp [Builtin.firstCells])
      have hgr := grown 0 (Value.ownBlock (.slice none 0 0))
      exact ⟨_, _, hr, hgr.1, hgr.2, .inr ⟨rfl, (grown 0 none).2⟩⟩
  · by_cases hroom : n + m ≤ cap
    · have hfit : n * i.size + news.length ≤ cur.size := by rw [hsrc.length, hcs, ← Nat.add_mul]; exact Nat.mul_le_mul_right _ hroom
      have hst := run_storeCells_fz (P := P) g (n * i.size) e fr news 0 cur w hg hfz (by simpa using hfit) hsrc.one
      simp only [Nat.add_zero] at hst
      have hf2 := hsrc.cells w rfl
      refine ⟨.slice (some ⟨g, 0, none⟩) (n + m) cap, w.setRow g (cur.toList.take (n * i.size) ++ news ++ cur.toList.drop (n * i.size + news.length)).toArray, ?_, ⟨hlen, .inr ⟨g, cap, _, fr, rfl, hbg, setRow_heap w g cur _ e _ hg, ?_, hroom, hcm, ?_, ?_⟩⟩, ⟨rfl, rfl, rfl, by simp, fun k _ hk => setRow_other w g k _ (fun e => hk (by simp [Value.ownBlock, e]))⟩, .inl rfl⟩
      · have hl := hsrc.len w
        rcases hsrc.typ with ⟨q, hdu⟩ | hdu <;> simp [Builtin.append_, run_underlying ht, run_underlying hdu, sizeOf, typeInfo, hi, hl, hroom, hf2, Addr.add_lit, hst]
      · have hsz : (cur.toList.take (n * i.size) ++ news ++ cur.toList.drop (n * i.size + news.length)).toArray.size = cur.size := by
          simp only [List.size_toArray, List.length_append, List.length_take, List.length_drop, Array.length_toList]; omega
        unfold Fz at hfz ⊢
        rw [hsz]; exact hfz
      · simp only [List.size_toArray, List.length_append, List.length_take, List.length_drop, Array.length_toList]
        omega
      · rw [htake, ← hlen]
        exact List.take_left
    · have hfc : ∀ w', w'.heap = w.heap → (Builtin.firstCells i.size n (.slice (some ⟨g, 0, none⟩) n cap)).run P w' = .ok xs.toArray w' := by
        intro w' hw
        refine run_firstCells_some (P := P) w' i.size n ⟨g, 0, none⟩ n cap xs hown.1 (fun j u hu => ?_)
        have hadd : (⟨g, 0, none⟩ : Addr).add j = ⟨g, j, none⟩ := by unfold Addr.add; split <;> simp_all
        rw [hadd, cell_of_row w' g j cur e fr (by rw [hw]; exact hg)]
        have hj : j < n * i.size := by have := (List.getElem?_eq_some_iff.1 hu).1; have := hown.1; omega
        rw [← htake, List.getElem?_take] at hu
        simpa [hj] using hu
      have hr := grows (some ⟨g, 0, none⟩) cap (by omega) rfl hfc
      have hgr := grown cap (Value.ownBlock (.slice (some ⟨g, 0, none⟩) n cap))
      exact ⟨_, _, hr, hgr.1, hgr.2, .inr ⟨rfl, (grown cap none).2⟩⟩
end
end Go.Proofs.YtehfgmagmnjffaaGreatDoor.E
