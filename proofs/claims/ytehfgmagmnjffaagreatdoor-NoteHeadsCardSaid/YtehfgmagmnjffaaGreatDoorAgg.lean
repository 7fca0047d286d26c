/-
  The engine on arrays and structs: results that are read from memory, stores of many cells, slices of arrays and slices, equality of aggregates, operations whose guard is known. Nothing of a program stands in it.
-/
import Derived.Test.YtehfgmagmnjffaaGreatDoorMore
import Derived.ChangeKeysEq
namespace Go.Proofs.YtehfgmagmnjffaaGreatDoor.E
open Go Go.RowKit Go.BigFrame Go.Lib
section
variable {P : Program} {fn : Func} {R : Ending → World → Prop} {n : Nat} {ks : List Kt} {l : List (Nat × Value)} {w : World} {ops : Array Oper} {rest : List Oper}
variable {C : World → Prop} {dst : Option Nat} {d : Nat} {t u ty : TypeId} {pos : String} {af : Array Edge} {gd : Option (Nat × Bool)} {x y : Operand} {op : Op}

/-! ### results read from memory -/
theorem g_ret1 {p : Nat} {q : Addr} {v : Value} (hr : fn.results = #[.cell p t]) (hp : look l p = some (.pointer (some q))) (hl : (loadVar t q).run P w = .ok v w) (h : R (.returned v) w) :
    G P fn R n (.code .ret :: ks) l w := fun a ha => wp_ret (qk_ret ⟨ha.defers, v, by
      have e := ha.at_ _ _ hp
      simp [results, hr, e, asAddr, hl], h⟩)
theorem g_ret2 {p s : Nat} {q : Addr} {v v' : Value} (hr : fn.results = #[.cell p t, .tmp s]) (hp : look l p = some (.pointer (some q))) (hl : (loadVar t q).run P w = .ok v w) (hs : look l s = some v') (h : R (.returned (.tuple #[v, v'])) w) :
    G P fn R n (.code .ret :: ks) l w := fun a ha => wp_ret (qk_ret ⟨ha.defers, .tuple #[v, v'], by
      have e : a.tmps.getD p undef = .pointer (some q) := by simp [Array.getD_eq_getD_getElem?, ha.at_ _ _ hp]
      have e' : a.tmps.getD s undef = v' := by simp [Array.getD_eq_getD_getElem?, ha.at_ _ _ hs]
      rw [results_cell_tmp hr, e, e']
      simp [asAddr, hl, Result.andThen], h⟩)
theorem g_ret3 {p s : Nat} {q q' : Addr} {v v' : Value} {t' : TypeId} (hr : fn.results = #[.cell p t, .cell s t']) (hp : look l p = some (.pointer (some q))) (hl : (loadVar t q).run P w = .ok v w) (hs : look l s = some (.pointer (some q'))) (hl' : (loadVar t' q').run P w = .ok v' w) (h : R (.returned (.tuple #[v, v'])) w) :
    G P fn R n (.code .ret :: ks) l w := fun a ha => wp_ret (qk_ret ⟨ha.defers, .tuple #[v, v'], by
      have e := ha.at_ _ _ hp
      have e' := ha.at_ _ _ hs
      simp only [results, hr]
      simp [e, e', asAddr, hl, hl', Sem.run_bind, Result.andThen], h⟩)
theorem ld_run {p : Addr} {cs : List Value} {ds : TypeDesc} (ht : P.underlying t = some ds) (ha : aggB ds = true) (hs : (P.info? t).map (·.size) = some cs.length) (hc : ∀ j v, cs[j]? = some v → w.cell? (p.add j) = some v) : (loadVar t p).run P w = .ok (.agg cs.toArray) w := by
  have hl := run_loadCells_list (P := P) w p cs hc
  cases hi : P.info? t with
  | none => simp [hi] at hs
  | some i =>
    have hs' : i.size = cs.length := by simpa [hi] using hs
    simp [loadVar, isAgg_run ht, ha, sizeOf, typeInfo, hi, hs', hl]
theorem ld_blk {g : Nat} {bt : TypeId} {cs : Array Value} {ds : TypeDesc} (hB : Blk w g bt cs) (ht : P.underlying t = some ds) (ha : aggB ds = true) (hs : (P.info? t).map (·.size) = some cs.size) : (loadVar t ⟨g, 0, none⟩).run P w = .ok (.agg cs) w := by
  have := ld_run (P := P) (w := w) (p := ⟨g, 0, none⟩) (cs := cs.toList) ht ha (by simpa using hs) (fun j v hj => by
    have hadd : (⟨g, 0, none⟩ : Addr).add j = ⟨g, j, none⟩ := by unfold Addr.add; split <;> simp_all
    rw [hadd, hB.cell]; simpa using hj)
  simpa using this
theorem ld_one {g : Nat} {bt : TypeId} {v : Value} {ds : TypeDesc} (hB : Blk w g bt #[v]) (ht : P.underlying t = some ds) (ha : aggB ds = false) : (loadVar t ⟨g, 0, none⟩).run P w = .ok v w := by
  simp [loadVar, isAgg_run ht, ha, hB.cell]

/-! ### stores of many cells -/
/-- A store of a value of any number of cells into a block known whole. -/
theorem l_stm {g o : Nat} {bt : TypeId} {cs : Array Value} {v : Value} {vs : List Value} (hx : opv l x = some (.pointer (some ⟨g, o, none⟩))) (hy : opv l y = some v) (hB : Blk w g bt cs) (hv : v.cells = vs.toArray) (ho : o + vs.length ≤ cs.size) (h1 : vs.all (·.oneCell') = true) (hs : (P.info? t).map (·.size) = some vs.length)
    (h : ∀ w', w.grownBy w' (some g) → w'.heap.size = w.heap.size → Blk w' g bt (cs.toList.take o ++ vs ++ cs.toList.drop (o + vs.length)).toArray → L P fn R n ops rest ks l w') : L P fn R n ops (⟨none, .store t x y, ty, pos, af, none⟩ :: rest) ks l w := by
  have hst := run_storeCells_fz (P := P) g o bt (0, 0) vs 0 cs w hB (.inl rfl) (by simpa using ho) (by simpa using h1)
  simp only [Nat.add_zero] at hst
  have hsz : v.cells.size = vs.length := by rw [hv]; simp
  refine l_skip (w' := w.setRow g (cs.toList.take o ++ vs ++ cs.toList.drop (o + vs.length)).toArray) (fun ρ hρ => ?_) (h _ ⟨rfl, rfl, rfl, by simp [World.setRow], fun k _ hk => ?_⟩ (by simp [World.setRow]) (setRow_heap w g cs _ bt (0, 0) hB))
  · cases hi : P.info? t with
    | none => simp [hi] at hs
    | some i =>
      have hs' : i.size = vs.length := by simpa [hi] using hs
      simp [execOp, hρ x _ hx, hρ y _ hy, Instr.storeAt, Instr.sureAddr, storeVar, sizeOf, typeInfo, hi, hs', hv, hst]
  · have hk' : k ≠ g := fun e => hk (by rw [e])
    simp [World.setRow, Array.getElem?_modify, Ne.symm hk']

/-! ### slices of arrays and slices -/
theorem y_arr {e : TypeId} {m : Nat} {p : Addr} (hx : opv l x = some (.pointer (some p))) (ht : P.underlying t = some (.array m e)) (hs : (P.info? e).isSome = true) : Y P C l ⟨dst, .slice t x none none none, ty, pos, af, gd⟩ (.slice (some p) m m) :=
  fun ρ hρ w _ => by
    have he : P.elem t = e := by simp [Program.elem, ht]
    have hm : P.arrayLen t = m := by simp [Program.arrayLen, ht]
    have hq := run_sliceAt_array_all (P := P) w t p (by rw [he, hm]; exact ht)
    cases hi : P.info? e with
    | none => simp [hi] at hs
    | some i =>
      have hsz : (sizeOf e).run P w = .ok i.size w := by simp [sizeOf, typeInfo, hi]
      rw [he, hm, hsz] at hq
      simp only [Result.andThen_ok, slicedAt, Nat.zero_mul, Nat.sub_zero] at hq
      have ea : p.add 0 = p := by unfold Addr.add; simp
      simp only [ea, ite_self] at hq
      simp [execOp, hρ x _ hx, hq]
/-- Of a block known whole some cells, as a slice. -/
theorem Blk.rc {g o m size : Nat} {bt : TypeId} {cs : Array Value} {xs : List Value} (hB : Blk w g bt cs) (hl : xs.length = m * size) (hc : ∀ j v, xs[j]? = some v → cs[o + j]? = some v) : Rc w size (.slice (some ⟨g, o, none⟩) m m) m xs :=
  ⟨_, _, rfl, Nat.le_refl _, hl, fun _ => ⟨_, rfl, hB.lt, fun j v hj => by
    have hadd : (⟨g, o, none⟩ : Addr).add j = ⟨g, o + j, none⟩ := by unfold Addr.add; split <;> simp_all
    rw [hadd, hB.cell]; exact hc j v hj⟩⟩
theorem y_iaA {e : TypeId} {m size g o : Nat} {k : IntKind} {i : Nat} (hx : opv l x = some (.pointer (some ⟨g, o, none⟩))) (hy : opv l y = some (.int k i)) (ht : P.underlying t = some (.array m e)) (hs : (P.info? e).map (·.size) = some size) (h1 : i < m) : Y P C l ⟨dst, .indexAddr t x y, ty, pos, af, gd⟩ (.pointer (some ⟨g, o + i * size, none⟩)) :=
  fun ρ hρ w _ => by
    cases hi : P.info? e with
    | none => simp [hi] at hs
    | some ti =>
      have hsz : ti.size = size := by simpa [hi] using hs
      have hadd : (⟨g, o, none⟩ : Addr).add (i * size) = ⟨g, o + i * size, none⟩ := by unfold Addr.add; split <;> simp_all
      simp [execOp, hρ x _ hx, hρ y _ hy, Instr.indexAt, asIntOf, run_underlying ht, Instr.sureAddr, sizeOf, typeInfo, hi, hsz, hadd, h1]
/-- An element of an array value, one cell. -/
theorem y_slh {e : TypeId} {v : Value} {m c : Nat} {A : Option Addr} {k : IntKind} {i : Nat} {hi : Operand} (hx : opv l x = some (.slice A m c)) (h2 : opv l hi = some (.int k i)) (ht : P.underlying t = some (.slice e)) (hs : (P.info? e).isSome = true) (hv : v = .slice A i c) (h : i ≤ c) : Y P C l ⟨dst, .slice t x none (some hi) none, ty, pos, af, gd⟩ v :=
  fun ρ hρ w _ => by
    subst hv
    have he : P.elem t = e := by simp [Program.elem, ht]
    have hq := run_slice_h (P := P) w t A m c (by rw [he]; exact ht) k i (by omega) (by omega)
    cases hif : P.info? e with
    | none => simp [hif] at hs
    | some ti =>
      have hsz : (sizeOf e).run P w = .ok ti.size w := by simp [sizeOf, typeInfo, hif]
      rw [he, hsz] at hq
      have ea : ∀ p : Addr, p.add 0 = p := fun p => by unfold Addr.add; simp
      simp only [Result.andThen_ok, sliced, Nat.zero_mul, Nat.sub_zero, Int.toNat_natCast, ea, Option.map_id', ite_self] at hq
      simp [execOp, hρ x _ hx, hρ hi _ h2, sliceAt_slice ht, hq]
theorem y_slhm {e : TypeId} {v : Value} {m c : Nat} {A : Option Addr} {k k' : IntKind} {i j : Nat} {hi mx : Operand} (hx : opv l x = some (.slice A m c)) (h2 : opv l hi = some (.int k i)) (h3 : opv l mx = some (.int k' j)) (ht : P.underlying t = some (.slice e)) (hs : (P.info? e).isSome = true) (hv : v = .slice A i j) (h : i ≤ j) (hj : j ≤ c) : Y P C l ⟨dst, .slice t x none (some hi) (some mx), ty, pos, af, gd⟩ v :=
  fun ρ hρ w _ => by
    subst hv
    have he : P.elem t = e := by simp [Program.elem, ht]
    have hq := run_slice_hm (P := P) w t A m c (by rw [he]; exact ht) k k' i j (by omega) (by omega) (by omega)
    cases hif : P.info? e with
    | none => simp [hif] at hs
    | some ti =>
      have hsz : (sizeOf e).run P w = .ok ti.size w := by simp [sizeOf, typeInfo, hif]
      rw [he, hsz] at hq
      have ea : ∀ p : Addr, p.add 0 = p := fun p => by unfold Addr.add; simp
      simp only [Result.andThen_ok, sliced, Nat.zero_mul, Nat.sub_zero, Int.toNat_natCast, ea, Option.map_id', ite_self] at hq
      simp [execOp, hρ x _ hx, hρ hi _ h2, hρ mx _ h3, sliceAt_slice ht, hq]
theorem y_s2a {e : TypeId} {m c k : Nat} {A : Option Addr} (hx : opv l x = some (.slice A m c)) (ht : P.underlying t = some (.array k e)) (h : k ≤ m) : Y P C l ⟨dst, .sliceToArrayPointer t x, ty, pos, af, gd⟩ (.pointer A) :=
  fun ρ hρ w _ => by
    have : ¬ m < k := by omega
    simp [execOp, hρ x _ hx, Instr.arrayAt, run_underlying ht, this]
/-- The first elements of a slice. -/
theorem Rc.take {m c i size : Nat} {A : Option Addr} {xs : List Value} (h : Rc w size (.slice A m c) m xs) (hi : i ≤ m) {c' : Nat} (hc : i ≤ c') : Rc w size (.slice A i c') i (xs.take (i * size)) := by
  obtain ⟨A', c0, e, hc0, hl, hr⟩ := h
  injection e with e1 e2 e3
  subst e1
  refine ⟨_, _, rfl, hc, by rw [List.length_take, hl, Nat.min_eq_left (Nat.mul_le_mul_right _ hi)], fun h0 => ?_⟩
  obtain ⟨ad, rfl, hb, hcell⟩ := hr (by omega)
  exact ⟨ad, rfl, hb, fun j u hu => hcell j u (by rw [List.getElem?_take] at hu; split at hu; · exact hu
                                                  · cases hu)⟩

/-! ### make -/
theorem l_mk {e : TypeId} {ti : TypeInfo} {z : Value} {size c : Nat} {k k' : IntKind} (hx : opv l x = some (.int k 0)) (hy : opv l y = some (.int k' c)) (ht : P.underlying t = some (.slice e)) (hi : P.info? e = some ti) (hz : ti.zero = some z) (hsize : ti.size = size) (hbytes : ti.bytes * c ≤ 281474976710656) (h63 : c ≤ maxLen) (hd : Nat.blt d n = true)
    (h : ∀ w' v, w.grownBy w' none → Own w' w.heap.size e size v 0 [] → L P fn R n ops rest ks ((d, v) :: l) w') : L P fn R n ops (⟨some d, .makeSlice t x y, ty, pos, af, none⟩ :: rest) ks l w := by
  obtain ⟨w', hr, ho, hg⟩ := run_make_own (P := P) w w.heap.size t e ti z size ht hi hz hsize k k' c hbytes h63 (Nat.le_refl _)
  exact l_run (fun ρ hρ => by simp [execOp, hρ x _ hx, hρ y _ hy, hr]) hd (h w' _ hg (Own.of_row ho))
theorem Gr.of_none {w' : World} (hg : w.grownBy w' none) : Gr w w' := (Below.refl _ _).grown hg (Nat.le_refl _) (fun k hk => by cases hk)

/-! ### a store into a row of the call's own -/
theorem own_addr {base : Nat} {e : TypeId} {size m : Nat} {v : Value} {xs : List Value} (h : Own w base e size v (m + 1) xs) : ∃ g cap, v = .slice (some ⟨g, 0, none⟩) (m + 1) cap := by
  rcases h.2 with ⟨_, h0⟩ | ⟨g, cap, cur, fr, rfl, _⟩
  · omega
  · exact ⟨g, cap, rfl⟩
theorem l_sto {base : Nat} {e : TypeId} {m j : Nat} {v u : Value} {xs : List Value} (hx : opv l x = some (.pointer (some ((adOf v).add j)))) (hy : opv l y = some u) (hown : Own w base e 1 v m xs) (hj : j < m) (h1 : u.oneCell' = true) (hcell : u.cells = #[u]) (hs : (P.info? t).map (·.size) = some 1)
    (h : ∀ w', w.grownBy w' v.ownBlock → w'.heap.size = w.heap.size → Own w' base e 1 v m (xs.set j u) → L P fn R n ops rest ks l w') : L P fn R n ops (⟨none, .store t x y, ty, pos, af, none⟩ :: rest) ks l w := by
  obtain ⟨hl, hc⟩ := hown
  rcases hc with ⟨_, h0⟩ | ⟨g, cap, cur, fr, rfl, hb, hh, hz, hmc, hcm, hsz, ht⟩
  · omega
  have hadd : (adOf (.slice (some ⟨g, 0, none⟩) m cap)).add j = ⟨g, j, none⟩ := by show (⟨g, 0, none⟩ : Addr).add j = _; unfold Addr.add; split <;> simp_all
  rw [hadd] at hx
  have hjc : j < cur.size := by rw [hsz]; omega
  have hcel : w.cell? ⟨g, j, none⟩ = some cur[j] := by simp [World.cell?, hh, hjc]
  have hfro : w.frozen? ⟨g, j, none⟩ = false := by
    rcases hz with rfl | hz
    · simp [World.frozen?, hh]
    · obtain ⟨lo, hi'⟩ := fr
      have : ¬ lo ≤ j := by simp at hz; omega
      simp [World.frozen?, hh, this]
  have hst : (store ⟨g, j, none⟩ u).run P w = .ok () (w.setRow g (cur.setIfInBounds j u)) := by
    rw [run_store P w _ u _ h1, hcel]
    simp [hfro, setCell_eq_setRow w g j cur e fr u hh]
  refine l_skip (w' := w.setRow g (cur.setIfInBounds j u)) (fun ρ hρ => ?_) (h _ ⟨rfl, rfl, rfl, by simp [World.setRow], fun k _ hk => ?_⟩ (by simp [World.setRow]) ⟨by simpa using hl, .inr ⟨g, cap, cur.setIfInBounds j u, fr, rfl, hb, setRow_heap w g cur _ e fr hh, ?_, hmc, hcm, by simpa using hsz, ?_⟩⟩)
  · cases hi : P.info? t with
    | none => simp [hi] at hs
    | some i =>
      have hs' : i.size = 1 := by simpa [hi] using hs
      simp [execOp, hρ x _ hx, hρ y _ hy, Instr.storeAt, Instr.sureAddr, storeVar, sizeOf, typeInfo, hi, hs', hcell, storeCells, Addr.add, hst]
  · have hk' : k ≠ g := fun e => hk (by rw [e]; rfl)
    simp [World.setRow, Array.getElem?_modify, Ne.symm hk']
  · unfold Fz at hz ⊢; simpa using hz
  · rw [← ht]
    simp only [Array.toList_setIfInBounds, List.take_set]
theorem Own.sep {w' : World} {base base' : Nat} {e e' : TypeId} {size size' m m' : Nat} {v v' : Value} {xs xs' : List Value} (_h : Own w base e size v m xs) (h' : Own w' base' e' size' v' m' xs') (hlt : ∀ k, v.ownBlock = some k → k < base') : v.ownBlock = none ∨ v.ownBlock ≠ v'.ownBlock := by
  cases hv : v.ownBlock with
  | none => exact .inl rfl
  | some k =>
    refine .inr fun e => ?_
    have h1 := hlt k hv
    have h2 := (h'.lt k e.symm).1
    omega

/-! ### operations whose guard is known -/
theorem gd_t1 {j dj : Nat} (hj : (ops[j]?).bind (·.dst) = some dj) (hv : look l dj = some (.bool true)) : Gd ops l j true true := gd_t hj hv
theorem gd_t0 {j dj : Nat} (hj : (ops[j]?).bind (·.dst) = some dj) (hv : look l dj = some (.bool false)) : Gd ops l j true false := gd_t hj hv
theorem gd_f1 {j dj : Nat} (hj : (ops[j]?).bind (·.dst) = some dj) (hv : look l dj = some (.bool false)) : Gd ops l j false true := gd_f hj hv
theorem gd_f0 {j dj : Nat} (hj : (ops[j]?).bind (·.dst) = some dj) (hv : look l dj = some (.bool true)) : Gd ops l j false false := gd_f hj hv
theorem l_gt {j : Nat} {want : Bool} {o : Op} {dst : Option Nat} (hg : Gd ops l j want true) (h : L P fn R n ops (⟨dst, o, ty, pos, af, none⟩ :: rest) ks l w) : L P fn R n ops (⟨dst, o, ty, pos, af, some (j, want)⟩ :: rest) ks l w :=
  fun a ha => by
    have hw := wanted_gd (o := ⟨dst, o, ty, pos, af, some (j, want)⟩) rfl hg ha
    have h' := h a ha
    have h0 : Region.wanted ⟨dst, o, ty, pos, af, none⟩ (yielded ops a.tmps) = true := wanted_none rfl a
    simp only [wpList, h0, if_true] at h'
    simp only [wpList, hw, if_true]
    exact h'
theorem l_gf {j : Nat} {want : Bool} {o : Op} (hg : Gd ops l j want false) (hd : Nat.blt d n = true) (h : L P fn R n ops rest ks ((d, undef) :: l) w) : L P fn R n ops (⟨some d, o, ty, pos, af, some (j, want)⟩ :: rest) ks l w :=
  fun a ha => by
    have hw := wanted_gd (o := ⟨some d, o, ty, pos, af, some (j, want)⟩) rfl hg ha
    have h' := h _ (ha.put hd undef)
    simp only [wpList, hw, Bool.false_eq_true, if_false]
    exact h'
variable {S : World → Prop} {fuel : Nat} {li : List Bool}
theorem h_opd (i : Nat) {o : Oper} (hi : ops[i]? = some o) (hb : oneB ops li i = true) (hg : S w) (h : ∀ a, Fr n l a → wpOp P ops (QK P fn R ks) i (fun a' w' => S w' ∧ wpAnyH P .any ops (QK P fn R ks) S fuel (li.set i true).toArray a' w') a w) : H P fn R n ops S (fuel + 1) li ks l w := h_op i hb hg h
/-- A call whose guard is known to say yes. -/
theorem h_gcall (i : Nat) {j : Nat} {want : Bool} {f : Operand} {g : FuncId} {xs : List Operand} {vs : List Value} {ats : Array TypeId} {S' : Ending → World → Prop} {cap : Array Value} (hi : ops[i]? = some ⟨some d, .call { callee := .value f, args := xs.toArray, argTypes := ats }, ty, pos, af, some (j, want)⟩) (hb : oneB ops li i = true) (hgd : Gd ops l j want true)
    (hf : opv l f = some (.func (.func g) #[] cap)) (hx : opvs l xs = some vs) (he : Enters P g) (hc : Calls P g (vs.toArray ++ cap) w S') (hS : ∀ e w', S' e w' → ∃ v, e = .returned v) (hd : Nat.blt d n = true)
    (hg : S w) (h : ∀ w' v, S' (.returned v) w' → H P fn R n ops S fuel (li.set i true) ks ((d, v) :: l) w') : H P fn R n ops S (fuel + 1) li ks l w :=
  h_op i hb hg fun a ha => by
    have hw := wanted_gd (o := ⟨some d, .call { callee := .value f, args := xs.toArray, argTypes := ats }, ty, pos, af, some (j, want)⟩) rfl hgd ha
    unfold wpOp
    simp only [hi, hw, if_true, Oper.wp]
    have hm := opvs_map (fun _ _ hx => ha.eval hx) hx
    have hr : (execOp a.eval ⟨some d, .call { callee := .value f, args := xs.toArray, argTypes := ats }, ty, pos, af, some (j, want)⟩).run P w = .ok (.enter g (vs.toArray ++ cap)) w := by
      simp only [execOp, resolve, List.map_toArray, hm, ha.eval hf, Deferred.ofValue, Sem.run_bind, Sem.run_pure, Result.andThen_ok, invoke, Array.empty_append]
      simpa using he (vs.toArray ++ cap) w
    rw [hr]
    refine .inl (hc.mono fun e w' hs => ?_)
    obtain ⟨v, rfl⟩ := hS e w' hs
    have h' := h w' v hs
    exact ⟨h'.1, h'.2 _ (ha.put hd v)⟩
theorem h_takeT (i : Nat) {j : Nat} {want : Bool} {v : Value} (hi : ops[i]? = some ⟨some d, op, ty, pos, af, some (j, want)⟩) (hb : takeB ops li i = true) (hgd : Gd ops l j want true) (hy : Y P S l ⟨some d, op, ty, pos, af, some (j, want)⟩ v) (hd : Nat.blt d n = true)
    (hg : S w) (h : H P fn R n ops S fuel (li.set i true) ks ((d, v) :: l) w) : H P fn R n ops S (fuel + 1) li ks l w :=
  h_takeg (c := true) i hi hb hgd (fun _ => hy) hd hg (by simpa [gv] using h)
theorem h_takeF (i : Nat) {j : Nat} {want : Bool} (hi : ops[i]? = some ⟨some d, op, ty, pos, af, some (j, want)⟩) (hb : takeB ops li i = true) (hgd : Gd ops l j want false) (hd : Nat.blt d n = true)
    (hg : S w) (h : H P fn R n ops S fuel (li.set i true) ks ((d, undef) :: l) w) : H P fn R n ops S (fuel + 1) li ks l w :=
  h_takeg (c := false) (v := .nilIface) i hi hb hgd (fun h => absurd h (by decide)) hd hg (by simpa [gv] using h)
theorem h_call0 (i : Nat) {f : Operand} {g : FuncId} {xs : List Operand} {vs : List Value} {ats : Array TypeId} {S' : Ending → World → Prop} (hi : ops[i]? = some ⟨some d, .call { callee := .value f, args := xs.toArray, argTypes := ats }, ty, pos, af, none⟩) (hb : oneB ops li i = true)
    (hf : opv l f = some (.func (.func g) #[] #[])) (hx : opvs l xs = some vs) (he : Enters P g) (hc : Calls P g vs.toArray w S') (hS : ∀ e w', S' e w' → ∃ v, e = .returned v) (hd : Nat.blt d n = true)
    (hg : S w) (h : ∀ w' v, S' (.returned v) w' → H P fn R n ops S fuel (li.set i true) ks ((d, v) :: l) w') : H P fn R n ops S (fuel + 1) li ks l w :=
  h_call (cap := #[]) i hi hb hf hx he (by simpa using hc) hS hd hg h
theorem h_gcall0 (i : Nat) {j : Nat} {want : Bool} {f : Operand} {g : FuncId} {xs : List Operand} {vs : List Value} {ats : Array TypeId} {S' : Ending → World → Prop} (hi : ops[i]? = some ⟨some d, .call { callee := .value f, args := xs.toArray, argTypes := ats }, ty, pos, af, some (j, want)⟩) (hb : oneB ops li i = true) (hgd : Gd ops l j want true)
    (hf : opv l f = some (.func (.func g) #[] #[])) (hx : opvs l xs = some vs) (he : Enters P g) (hc : Calls P g vs.toArray w S') (hS : ∀ e w', S' e w' → ∃ v, e = .returned v) (hd : Nat.blt d n = true)
    (hg : S w) (h : ∀ w' v, S' (.returned v) w' → H P fn R n ops S fuel (li.set i true) ks ((d, v) :: l) w') : H P fn R n ops S (fuel + 1) li ks l w :=
  h_gcall (cap := #[]) i hi hb hgd hf hx he (by simpa using hc) hS hd hg h
/-- An operation whose guard is known to say no. -/
theorem h_gf (i : Nat) {j : Nat} {want : Bool} {o : Op} (hi : ops[i]? = some ⟨some d, o, ty, pos, af, some (j, want)⟩) (hb : oneB ops li i = true) (hgd : Gd ops l j want false) (hd : Nat.blt d n = true)
    (hg : S w) (h : H P fn R n ops S fuel (li.set i true) ks ((d, undef) :: l) w) : H P fn R n ops S (fuel + 1) li ks l w :=
  h_op i hb hg fun a ha => by
    have hw := wanted_gd (o := ⟨some d, o, ty, pos, af, some (j, want)⟩) rfl hgd ha
    unfold wpOp
    simp only [hi, hw, Bool.false_eq_true, if_false]
    exact ⟨h.1, h.2 _ (ha.put hd undef)⟩

/-! ### equality of aggregates -/
theorem y_binR {op : BinOp} {v z r : Value} (hx : opv l x = some v) (hy : opv l y = some z) (hg : ∀ w, (eqGuard op t x y v z).run P w = .ok () w) (hr : ∀ w, (binOp op t v z).run P w = .ok r w) : Y P C l ⟨dst, .binOp op t x y u, ty, pos, af, gd⟩ r :=
  fun ρ hρ w _ => by
    have hx' := hρ x _ hx
    have hy' := hρ y _ hy
    have hg0 := hg w
    simp only [execOp, hx', hy', Sem.run_bind, hg0, Result.andThen_ok, hr w, Sem.run_pure]
end
/-- The kinds of cells that are compared one by one. -/
inductive Ck where
  | i (k : IntKind)
  | s
  | b
def Ck.fit : Ck → Value → Bool
  | .i k, .int k' _ => decide (k' = k)
  | .s, .string _ => true
  | .b, .bool _ => true
  | _, _ => false
def fits : List Ck → List Value → Bool
  | [], [] => true
  | c :: cs, v :: vs => c.fit v && fits cs vs
  | _, _ => false
theorem fits_length : ∀ {ks : List Ck} {vs : List Value}, fits ks vs = true → ks.length = vs.length
  | [], [], _ => rfl
  | _ :: cs, _ :: vs, h => by
    simp only [fits, Bool.and_eq_true] at h
    simp [fits_length h.2]
  | [], _ :: _, h => by cases h
  | _ :: _, [], h => by cases h
theorem fits_append : ∀ {ks ks' : List Ck} {vs vs' : List Value}, fits ks vs = true → fits ks' vs' = true → fits (ks ++ ks') (vs ++ vs') = true
  | [], _, [], _, _, h' => h'
  | c :: cs, _, v :: vs, _, h, h' => by
    simp only [fits, Bool.and_eq_true] at h
    simp only [List.cons_append, fits, Bool.and_eq_true]
    exact ⟨h.1, fits_append h.2 h'⟩
  | [], _, _ :: _, _, h, _ => by cases h
  | _ :: _, _, [], _, h, _ => by cases h
theorem fits_bytes (k : IntKind) : ∀ (vs : List Value), (∀ v ∈ vs, ∃ m, v = .int k m) → fits (List.replicate vs.length (.i k)) vs = true
  | [], _ => rfl
  | v :: vs, h => by
    obtain ⟨m, hm⟩ := h v List.mem_cons_self
    subst hm
    simp only [List.length_cons, List.replicate_succ, fits, Ck.fit, decide_true, Bool.true_and]
    exact fits_bytes k vs (fun v hv => h v (by simp [hv]))
theorem fits_split {ks ks' : List Ck} {vs : List Value} (h : fits (ks ++ ks') vs = true) : fits ks (vs.take ks.length) = true ∧ fits ks' (vs.drop ks.length) = true := by
  induction ks generalizing vs with
  | nil => exact ⟨rfl, by simpa using h⟩
  | cons c cs ih =>
    cases vs with
    | nil => cases h
    | cons v vs =>
      simp only [List.cons_append, fits, Bool.and_eq_true] at h
      obtain ⟨h1, h2⟩ := ih h.2
      simp [fits, h.1, h1, h2]

/-- The cells of a type, where all of them are compared one by one. -/
def flatFs (P : Program) (rec : TypeId → Option (List Ck)) : Nat → List Field → Option (List Ck)
  | _, [] => some []
  | off, f :: fs => if f.name = "_" ∨ f.offset ≠ off then none else
    match rec f.type with
    | none => none
    | some ks => if ks.length = P.cellsOf f.type then (flatFs P rec (off + ks.length) fs).map (ks ++ ·) else none
def flat (P : Program) : Nat → TypeId → Option (List Ck)
  | 0, _ => none
  | d + 1, t =>
    match P.underlying t with
    | some .bool => some [.b]
    | some (.int k) => some [.i k]
    | some .string => some [.s]
    | some (.array n e) =>
      match flat P d e with
      | none => none
      | some ks => if ks.length = P.cellsOf e then some (List.replicate n ks).flatten else none
    | some (.struct fs) => if P.stoodInHeld t then none else flatFs P (flat P d) 0 fs.toList
    | _ => none
open Classical in
def EqFlat (P : Program) (D : Nat) (t : TypeId) (ks : List Ck) : Prop :=
  ∀ (w : World) (xs ys : Array Value) (off : Nat), fits ks ((xs.toList.drop off).take ks.length) = true → fits ks ((ys.toList.drop off).take ks.length) = true →
    ∃ a b, (part t xs off).run P w = .ok a w ∧ (part t ys off).run P w = .ok b w ∧
      (Op.equalIn D t a b).run P w = .ok (decide ((xs.toList.drop off).take ks.length = (ys.toList.drop off).take ks.length)) w
theorem fit_int {k : IntKind} {v : Value} (h : (Ck.i k).fit v = true) : ∃ m, v = .int k m := by
  cases v <;> simp [Ck.fit] at h
  subst h; exact ⟨_, rfl⟩
theorem fit_str {v : Value} (h : Ck.s.fit v = true) : ∃ s, v = .string s := by
  cases v <;> simp [Ck.fit] at h
  exact ⟨_, rfl⟩
theorem fit_bool {v : Value} (h : Ck.b.fit v = true) : ∃ s, v = .bool s := by
  cases v <;> simp [Ck.fit] at h
  exact ⟨_, rfl⟩
theorem one_cell {k : Ck} {l : List Value} (h : fits [k] (l.take 1) = true) : ∃ v, l.take 1 = [v] ∧ k.fit v = true := by
  cases l with
  | nil => cases h
  | cons v l => exact ⟨v, by simp, by simpa [fits] using h⟩
theorem part_one {P : Program} {w : World} {t : TypeId} {ds : TypeDesc} {xs : Array Value} {off : Nat} {v : Value} (ht : P.underlying t = some ds) (ha : aggB ds = false) (h : (xs.toList.drop off).take 1 = [v]) : (part t xs off).run P w = .ok v w := by
  have hx : xs[off]? = some v := by
    have := congrArg (·[0]?) h
    simpa [List.getElem?_take] using this
  simp [part, isAgg_run ht, ha, hx]
theorem part_agg {P : Program} {w : World} {t : TypeId} {ds : TypeDesc} {xs : Array Value} {off : Nat} (ht : P.underlying t = some ds) (ha : aggB ds = true) {m : Nat} (hm : P.cellsOf t = m) : (part t xs off).run P w = .ok (.agg ((xs.toList.drop off).take m).toArray) w := by
  obtain ⟨ti, hi⟩ := info_of_underlying ht
  subst hm
  have e : xs.extract off (off + P.cellsOf t) = ((xs.toList.drop off).take (P.cellsOf t)).toArray := by
    apply Array.ext'
    simp [Array.toList_extract]
  simp only [part, Sem.run_bind, isAgg_run ht, Result.andThen_ok, ha, if_true, run_sizeOf w hi, Sem.run_pure, e]
open Classical in
theorem eq_fields {P : Program} {rec : TypeId → Option (List Ck)} {D : Nat} (w : World) (hrec : ∀ t ks, rec t = some ks → P.cellsOf t = ks.length → EqFlat P D t ks) (xs ys : Array Value) : ∀ (fs : List Field) (off : Nat) (ks : List Ck), flatFs P rec off fs = some ks →
    fits ks ((xs.toList.drop off).take ks.length) = true → fits ks ((ys.toList.drop off).take ks.length) = true →
    (Op.eqFields D xs ys fs).run P w = .ok (decide ((xs.toList.drop off).take ks.length = (ys.toList.drop off).take ks.length)) w
  | [], off, ks, h, _, _ => by
    simp only [flatFs, Option.some.injEq] at h
    subst h
    simp [Op.eqFields]
  | f :: fs, off, ks, h, hx, hy => by
    simp only [flatFs] at h
    split at h
    · cases h
    · rename_i hn
      split at h
      · cases h
      · rename_i ks1 h1
        split at h
        · rename_i hl
          cases h2 : flatFs P rec (off + ks1.length) fs with
          | none => rw [h2] at h; cases h
          | some ks2 =>
            rw [h2] at h
            simp only [Option.map_some, Option.some.injEq] at h
            subst h
            have hn1 : f.name ≠ "_" := fun e => hn (.inl e)
            have hn2 : f.offset = off := by
              rcases Nat.lt_trichotomy f.offset off with h | h | h
              · exact absurd (.inr (by omega)) hn
              · exact h
              · exact absurd (.inr (by omega)) hn
            have sx := fits_split hx
            have sy := fits_split hy
            have tt : ∀ zs : List Value, ((zs.drop off).take (ks1 ++ ks2).length).take ks1.length = (zs.drop off).take ks1.length := fun zs => by
              rw [List.take_take, List.length_append, Nat.min_eq_left (by omega)]
            have td : ∀ zs : List Value, ((zs.drop off).take (ks1 ++ ks2).length).drop ks1.length = (zs.drop (off + ks1.length)).take ks2.length := fun zs => by
              rw [List.drop_take, List.drop_drop, List.length_append, Nat.add_sub_cancel_left]
            have tj : ∀ zs : List Value, (zs.drop off).take (ks1 ++ ks2).length = (zs.drop off).take ks1.length ++ (zs.drop (off + ks1.length)).take ks2.length := fun zs => by
              rw [← td, ← tt, List.take_append_drop]
            rw [tt, td] at sx sy
            obtain ⟨a, b, p1, p2, p3⟩ := hrec _ _ h1 hl.symm w xs ys off sx.1 sy.1
            have ih := eq_fields w hrec xs ys fs (off + ks1.length) ks2 h2 sx.2 sy.2
            simp only [Op.eqFields, hn1, ne_eq, not_false_eq_true, if_true, Sem.run_bind, hn2, p1, p2, p3, Result.andThen_ok]
            have l1 := fits_length sx.1
            have l2 := fits_length sy.1
            rw [tj, tj]
            by_cases e : (xs.toList.drop off).take ks1.length = (ys.toList.drop off).take ks1.length
            · simp only [e, decide_true, Bool.not_true, Bool.false_eq_true, if_false, ih, List.append_cancel_left_eq]
            · have ne : ¬ ((xs.toList.drop off).take ks1.length ++ (xs.toList.drop (off + ks1.length)).take ks2.length = (ys.toList.drop off).take ks1.length ++ (ys.toList.drop (off + ks1.length)).take ks2.length) := fun h => e (List.append_inj_left h (by omega))
              simp [e, ne]
        · cases h
open Classical in
theorem eq_items {P : Program} {e : TypeId} {ks1 : List Ck} {D : Nat} (w : World) (hrec : EqFlat P D e ks1) (xs ys : Array Value) : ∀ (m i : Nat) , fits (List.replicate m ks1).flatten ((xs.toList.drop (i * ks1.length)).take (m * ks1.length)) = true → fits (List.replicate m ks1).flatten ((ys.toList.drop (i * ks1.length)).take (m * ks1.length)) = true →
    (Op.eqItems D e ks1.length xs ys (List.range' i m)).run P w = .ok (decide ((xs.toList.drop (i * ks1.length)).take (m * ks1.length) = (ys.toList.drop (i * ks1.length)).take (m * ks1.length))) w
  | 0, i, _, _ => by simp [Op.eqItems]
  | m + 1, i, hx, hy => by
    have sx := fits_split (ks := ks1) (ks' := (List.replicate m ks1).flatten) (by simpa [List.replicate_succ] using hx)
    have sy := fits_split (ks := ks1) (ks' := (List.replicate m ks1).flatten) (by simpa [List.replicate_succ] using hy)
    have e1 : (m + 1) * ks1.length = ks1.length + m * ks1.length := by rw [Nat.add_mul]; omega
    have tt : ∀ zs : List Value, ((zs.drop (i * ks1.length)).take ((m + 1) * ks1.length)).take ks1.length = (zs.drop (i * ks1.length)).take ks1.length := fun zs => by
      rw [List.take_take, e1, Nat.min_eq_left (by omega)]
    have td : ∀ zs : List Value, ((zs.drop (i * ks1.length)).take ((m + 1) * ks1.length)).drop ks1.length = (zs.drop ((i + 1) * ks1.length)).take (m * ks1.length) := fun zs => by
      rw [List.drop_take, List.drop_drop, e1, Nat.add_sub_cancel_left, Nat.add_mul, Nat.one_mul]
    have tj : ∀ zs : List Value, (zs.drop (i * ks1.length)).take ((m + 1) * ks1.length) = (zs.drop (i * ks1.length)).take ks1.length ++ (zs.drop ((i + 1) * ks1.length)).take (m * ks1.length) := fun zs => by
      rw [← td, ← tt, List.take_append_drop]
    rw [tt, td] at sx sy
    obtain ⟨a, b, p1, p2, p3⟩ := hrec w xs ys (i * ks1.length) sx.1 sy.1
    have ih := eq_items w hrec xs ys m (i + 1) sx.2 sy.2
    rw [List.range'_succ]
    simp only [Op.eqItems, Sem.run_bind, p1, p2, p3, Result.andThen_ok]
    have l1 := fits_length sx.1
    have l2 := fits_length sy.1
    rw [tj, tj]
    by_cases h : (xs.toList.drop (i * ks1.length)).take ks1.length = (ys.toList.drop (i * ks1.length)).take ks1.length
    · simp only [h, decide_true, Bool.not_true, Bool.false_eq_true, if_false, ih, List.append_cancel_left_eq]
    · have ne : ¬ ((xs.toList.drop (i * ks1.length)).take ks1.length ++ (xs.toList.drop ((i + 1) * ks1.length)).take (m * ks1.length) = (ys.toList.drop (i * ks1.length)).take ks1.length ++ (ys.toList.drop ((i + 1) * ks1.length)).take (m * ks1.length)) := fun h' => h (List.append_inj_left h' (by omega))
      simp [h, ne]
open Classical in
theorem eq_flat {P : Program} (D : Nat) : ∀ (m : Nat) (t : TypeId) (ks : List Ck), flat P m t = some ks → P.cellsOf t = ks.length → EqFlat P (D + m) t ks
  | 0, _, _, h, _ => by cases h
  | m + 1, t, ks, h, hs => by
    unfold flat at h
    intro w xs ys off hx hy
    split at h
    · rename_i hu
      simp only [Option.some.injEq] at h; subst h
      obtain ⟨a, ea, fa⟩ := one_cell hx
      obtain ⟨b, eb, fb⟩ := one_cell hy
      obtain ⟨p, rfl⟩ := fit_bool fa
      obtain ⟨q, rfl⟩ := fit_bool fb
      refine ⟨_, _, part_one hu rfl ea, part_one hu rfl eb, ?_⟩
      rw [show D + (m + 1) = (D + m) + 1 from rfl, run_equalIn_bool' w (D + m) t p q hu]
      congr 1
      simp only [List.length_cons, List.length_nil, Nat.zero_add, ea, eb]
      rw [Bool.eq_iff_iff]; simp
    · rename_i k hu
      simp only [Option.some.injEq] at h; subst h
      obtain ⟨a, ea, fa⟩ := one_cell hx
      obtain ⟨b, eb, fb⟩ := one_cell hy
      obtain ⟨p, rfl⟩ := fit_int fa
      obtain ⟨q, rfl⟩ := fit_int fb
      refine ⟨_, _, part_one hu rfl ea, part_one hu rfl eb, ?_⟩
      rw [show D + (m + 1) = (D + m) + 1 from rfl, run_equalIn_int w (D + m) t k k p q hu]
      congr 1
      simp only [List.length_cons, List.length_nil, Nat.zero_add, ea, eb]
      rw [Bool.eq_iff_iff]; simp
    · rename_i hu
      simp only [Option.some.injEq] at h; subst h
      obtain ⟨a, ea, fa⟩ := one_cell hx
      obtain ⟨b, eb, fb⟩ := one_cell hy
      obtain ⟨p, rfl⟩ := fit_str fa
      obtain ⟨q, rfl⟩ := fit_str fb
      refine ⟨_, _, part_one hu rfl ea, part_one hu rfl eb, ?_⟩
      rw [show D + (m + 1) = (D + m) + 1 from rfl, run_equalIn_string w (D + m) t p q hu]
      congr 1
      simp only [List.length_cons, List.length_nil, Nat.zero_add, ea, eb]
      rw [Bool.eq_iff_iff]
      simp [ByteArray.toList_eq, ByteArray.ext_iff]
    · rename_i nn e hu
      split at h
      · cases h
      · rename_i ks1 h1
        split at h
        · rename_i hl
          simp only [Option.some.injEq] at h; subst h
          have ih := eq_flat D m e ks1 h1 hl.symm
          have hlen : (List.replicate nn ks1).flatten.length = nn * ks1.length := by simp
          refine ⟨_, _, part_agg hu rfl hs, part_agg hu rfl hs, ?_⟩
          obtain ⟨ti, hi⟩ : ∃ ti, P.info? e = some ti := by
            cases hq : P.info? e with
            | some ti => exact ⟨ti, rfl⟩
            | none =>
              exfalso
              cases m with
              | zero => cases h1
              | succ m =>
                have : P.underlying e = none := by simp [Program.underlying, hq]
                simp [flat, this] at h1
          rw [show D + (m + 1) = (D + m) + 1 from rfl, run_equalIn_array w (D + m) _ _ hu hi, ← hl, List.range_eq_range']
          have hz := eq_items w ih ((xs.toList.drop off).take (List.replicate nn ks1).flatten.length).toArray ((ys.toList.drop off).take (List.replicate nn ks1).flatten.length).toArray nn 0
          simp only [Nat.zero_mul, List.drop_zero, hlen, List.take_take, Nat.min_self] at hz hx hy ⊢
          exact hz hx hy
        · cases h
    · rename_i fs hu
      split at h
      · cases h
      · rename_i hst
        refine ⟨_, _, part_agg hu rfl hs, part_agg hu rfl hs, ?_⟩
        have hu' : P.underlying t = some (.struct (P.fieldsOf t)) := by simp [Program.fieldsOf, hu]
        have hf : P.fieldsOf t = fs := by simp [Program.fieldsOf, hu]
        rw [show D + (m + 1) = (D + m) + 1 from rfl, run_equalIn_struct w (D + m) t _ _ hu' (by simpa using hst), hf]
        have hz := eq_fields (rec := flat P m) (D := D + m) w (fun t' ks' ht' hc' => eq_flat D m t' ks' ht' hc') ((xs.toList.drop off).take ks.length).toArray ((ys.toList.drop off).take ks.length).toArray fs.toList 0 ks h
        simp only [List.drop_zero, List.take_take, Nat.min_self] at hz
        exact hz hx hy
    · cases h

section
variable {P : Program} {l : List (Nat × Value)} {C : World → Prop} {dst : Option Nat} {t u ty : TypeId} {pos : String} {af : Array Edge} {gd : Option (Nat × Bool)} {x y : Operand}
open Classical in
theorem eq_agg {m : Nat} {ks : List Ck} {ds : TypeDesc} {xs ys : List Value} {b : Bool} (hf : flat P m t = some ks) (hm : m ≤ 10000) (hs : P.cellsOf t = ks.length) (ht : P.underlying t = some ds) (ha : aggB ds = true) (fx : fits ks xs = true) (fy : fits ks ys = true) (hb : b = true ↔ xs = ys) (w : World) :
    (Op.equalIn 10000 t (.agg xs.toArray) (.agg ys.toArray)).run P w = .ok b w := by
  have lx := fits_length fx
  have ly := fits_length fy
  obtain ⟨a, c, p1, p2, p3⟩ := eq_flat (10000 - m) m t ks hf hs w xs.toArray ys.toArray 0 (by simpa [List.take_of_length_le (Nat.le_of_eq lx.symm)] using fx) (by simpa [List.take_of_length_le (Nat.le_of_eq ly.symm)] using fy)
  have q1 := part_agg (P := P) (w := w) (xs := xs.toArray) (off := 0) ht ha hs
  have q2 := part_agg (P := P) (w := w) (xs := ys.toArray) (off := 0) ht ha hs
  have key : (List.take ks.length (List.drop 0 xs) = List.take ks.length (List.drop 0 ys)) ↔ xs = ys := by
    rw [List.drop_zero, List.drop_zero, List.take_of_length_le (Nat.le_of_eq lx.symm), List.take_of_length_le (Nat.le_of_eq ly.symm)]
  simp only [List.drop_zero] at q1 q2
  rw [List.take_of_length_le (Nat.le_of_eq lx.symm)] at q1
  rw [List.take_of_length_le (Nat.le_of_eq ly.symm)] at q2
  rw [p1] at q1
  rw [p2] at q2
  injection q1 with q1
  injection q2 with q2
  subst q1
  subst q2
  rw [show 10000 - m + m = 10000 from by omega] at p3
  rw [p3]
  congr 1
  rw [Bool.eq_iff_iff, hb]
  exact ⟨fun h => key.1 (of_decide_eq_true h), fun h => decide_eq_true (key.2 h)⟩
theorem y_eqA {m : Nat} {ks : List Ck} {ds : TypeDesc} {xs ys : List Value} {b : Bool} (hx : opv l x = some (.agg xs.toArray)) (hy : opv l y = some (.agg ys.toArray)) (hg : P.eqGuardType P.depth t = false) (hf : flat P m t = some ks) (hm : m ≤ 10000) (hs : P.cellsOf t = ks.length) (ht : P.underlying t = some ds) (ha : aggB ds = true) (fx : fits ks xs = true) (fy : fits ks ys = true) (hb : b = true ↔ xs = ys) :
    Y P C l ⟨dst, .binOp .eql t x y u, ty, pos, af, gd⟩ (.bool b) :=
  y_binR hx hy (fun w => run_eqGuard_agg w .eql t x y _ _ hg) (fun w => by rw [run_eql_struct, eq_agg hf hm hs ht ha fx fy hb w]; rfl)
theorem y_neA {m : Nat} {ks : List Ck} {ds : TypeDesc} {xs ys : List Value} {b : Bool} (hx : opv l x = some (.agg xs.toArray)) (hy : opv l y = some (.agg ys.toArray)) (hg : P.eqGuardType P.depth t = false) (hf : flat P m t = some ks) (hm : m ≤ 10000) (hs : P.cellsOf t = ks.length) (ht : P.underlying t = some ds) (ha : aggB ds = true) (fx : fits ks xs = true) (fy : fits ks ys = true) (hb : b = true ↔ xs = ys) :
    Y P C l ⟨dst, .binOp .neq t x y u, ty, pos, af, gd⟩ (.bool !b) :=
  y_binR hx hy (fun w => run_eqGuard_agg w .neq t x y _ _ hg) (fun w => by rw [run_neq_struct, eq_agg hf hm hs ht ha fx fy hb w]; rfl)
end
end Go.Proofs.YtehfgmagmnjffaaGreatDoor.E
