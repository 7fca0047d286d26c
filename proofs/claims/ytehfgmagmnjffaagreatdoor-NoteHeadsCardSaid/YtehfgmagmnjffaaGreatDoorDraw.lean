/-
  The engine's regions that draw their order, and guarded operations. Nothing of a program stands in it.
-/
import Derived.Test.YtehfgmagmnjffaaGreatDoorOps
import Derived.KernelRfl
namespace Go.Proofs.YtehfgmagmnjffaaGreatDoor.E
open Go Go.RowKit Go.BigFrame Go.Lib

section
variable {P : Program} {fn : Func} {R : Ending → World → Prop} {n : Nat} {ks : List Kt} {l : List (Nat × Value)} {w : World} {ops : Array Oper}
variable {C : World → Prop} {dst : Option Nat} {ty : TypeId} {pos : String} {af : Array Edge} {gd : Option (Nat × Bool)} {x y z : Operand} {t u : TypeId} {rest : List Oper} {d : Nat} {op : Op}

/-! ### guards -/
/-- What a guarded operation leaves: its value where the guard says yes. -/
def gv (b : Bool) (v : Value) : Value := if b then v else undef
theorem gv_t {b : Bool} {v : Value} (h : b = true) : gv b v = v := by simp [gv, h]
theorem gv_f {b : Bool} {v : Value} (h : b = false) : gv b v = undef := by simp [gv, h]
/-- An operand under its guard. -/
theorem og {b : Bool} {v : Value} (hx : opv l x = some (gv b v)) (h : b = true) : opv l x = some v := by rw [hx, gv_t h]
theorem a1 {a b : Bool} (h : (a && b) = true) : a = true := by simp at h; exact h.1
theorem a2 {a b : Bool} (h : (a && b) = true) : b = true := by simp at h; exact h.2
theorem n2 {b : Bool} (h : (!b) = true) : b = false := by simpa using h
theorem i2 {a b : Bool} (h : a = true) (k : b = true) : (a && b) = true := by simp [h, k]
theorem nt {b : Bool} (h : b = false) : (!b) = true := by simp [h]

/-- The guard of number j, by what its slot holds: the Bool c says whether the operation is wanted. -/
def Gd (ops : Array Oper) (l : List (Nat × Value)) (j : Nat) (want c : Bool) : Prop := ∀ a : Act, (∀ t v, look l t = some v → a.tmps[t]? = some v) → (yielded ops a.tmps j == some want) = c
theorem gd_t {j dj : Nat} {v : Bool} (hj : (ops[j]?).bind (·.dst) = some dj) (hv : look l dj = some (.bool v)) : Gd ops l j true v := by
  intro a ha
  have h := ha dj _ hv
  have : yielded ops a.tmps j = some v := by simp [yielded, hj, h]
  rw [this]; cases v <;> rfl
theorem gd_f {j dj : Nat} {v : Bool} (hj : (ops[j]?).bind (·.dst) = some dj) (hv : look l dj = some (.bool v)) : Gd ops l j false (!v) := by
  intro a ha
  have h := ha dj _ hv
  have : yielded ops a.tmps j = some v := by simp [yielded, hj, h]
  rw [this]; cases v <;> rfl
theorem gd_tg {j dj : Nat} {g v : Bool} (hj : (ops[j]?).bind (·.dst) = some dj) (hv : look l dj = some (gv g (.bool v))) : Gd ops l j true (g && v) := by
  intro a ha
  have h := ha dj _ hv
  cases g
  · have : yielded ops a.tmps j = none := by simp [yielded, hj, h, gv, undef]
    rw [this]; rfl
  · have : yielded ops a.tmps j = some v := by simp [yielded, hj, h, gv]
    rw [this]; cases v <;> rfl
theorem gd_fg {j dj : Nat} {g v : Bool} (hj : (ops[j]?).bind (·.dst) = some dj) (hv : look l dj = some (gv g (.bool v))) : Gd ops l j false (g && !v) := by
  intro a ha
  have h := ha dj _ hv
  cases g
  · have : yielded ops a.tmps j = none := by simp [yielded, hj, h, gv, undef]
    rw [this]; rfl
  · have : yielded ops a.tmps j = some v := by simp [yielded, hj, h, gv]
    rw [this]; cases v <;> rfl
theorem wanted_gd {o : Oper} {j : Nat} {want c : Bool} (hg : o.guard = some (j, want)) (h : Gd ops l j want c) {a : Act} (ha : Fr n l a) : Region.wanted o (yielded ops a.tmps) = c := by
  simp only [Region.wanted, hg]
  exact h a ha.at_

/-- A guarded operation that yields. -/
theorem l_g {j : Nat} {want c : Bool} {v : Value} (hg : Gd ops l j want c) (hy : c = true → Y P (· = w) l ⟨some d, op, ty, pos, af, some (j, want)⟩ v) (hd : Nat.blt d n = true)
    (h : L P fn R n ops rest ks ((d, gv c v) :: l) w) : L P fn R n ops (⟨some d, op, ty, pos, af, some (j, want)⟩ :: rest) ks l w :=
  fun a ha => by
    have hw := wanted_gd (o := ⟨some d, op, ty, pos, af, some (j, want)⟩) rfl hg ha
    cases hc : c with
    | false =>
      rw [hc] at hw
      refine wpList_step fun K hK => ?_
      rw [hw, if_neg (by simp)]
      have h' := h _ (ha.put hd (gv c v))
      rw [gv_f hc] at h'
      exact hK _ _ h'
    | true =>
      rw [hc] at hw
      refine wpList_step fun K hK => ?_
      rw [hw, if_pos rfl]
      unfold Oper.wp
      rw [hy hc a.eval (fun _ _ hx => ha.eval hx) w rfl]
      have h' := h _ (ha.put hd (gv c v))
      rw [gv_t hc] at h'
      exact hK _ _ h'
/-- A guarded call that comes to one value and only lets the world grow. -/
theorem l_gcall {j : Nat} {want c : Bool} {v : Value} {f : Operand} {g : FuncId} {xs : List Operand} {cap : Array Value} {vs : List Value} {ats : Array TypeId} (hg : Gd ops l j want c) (hf : opv l f = some (.func (.func g) #[] cap)) (hx : c = true → opvs l xs = some vs) (he : Enters P g)
    (hc : c = true → Calls P g (vs.toArray ++ cap) w fun e w' => e = .returned v ∧ Gr w w') (hd : Nat.blt d n = true) (h : ∀ w', Gr w w' → L P fn R n ops rest ks ((d, gv c v) :: l) w') :
    L P fn R n ops (⟨some d, .call { callee := .value f, args := xs.toArray, argTypes := ats }, ty, pos, af, some (j, want)⟩ :: rest) ks l w :=
  fun a ha => by
    have hw := wanted_gd (o := ⟨some d, .call { callee := .value f, args := xs.toArray, argTypes := ats }, ty, pos, af, some (j, want)⟩) rfl hg ha
    cases hcc : c with
    | false =>
      rw [hcc] at hw
      refine wpList_step fun K hK => ?_
      rw [hw, if_neg (by simp)]
      have h' := h w (Gr.rf w) _ (ha.put hd (gv c v))
      rw [gv_f hcc] at h'
      exact hK _ _ h'
    | true =>
      rw [hcc] at hw
      refine wpList_step fun K hK => ?_
      rw [hw, if_pos rfl]
      unfold Oper.wp
      have hm := opvs_map (fun _ _ hx => ha.eval hx) (hx hcc)
      have hr : (execOp a.eval ⟨some d, .call { callee := .value f, args := xs.toArray, argTypes := ats }, ty, pos, af, some (j, want)⟩).run P w = .ok (.enter g (vs.toArray ++ cap)) w := by
        simp only [execOp, resolve, List.map_toArray, hm, ha.eval hf, Deferred.ofValue, Sem.run_bind, Sem.run_pure, Result.andThen_ok, invoke, Array.empty_append]
        simpa using he (vs.toArray ++ cap) w
      rw [hr]
      refine (hc hcc).mono ?_
      rintro e w' ⟨rfl, hgr⟩
      have h' := h w' hgr _ (ha.put hd (gv c v))
      rw [gv_t hcc] at h'
      exact hK _ _ h'
theorem y_pand {c v q : Bool} (hc : opv l x = some (.bool c)) (hx : opv l y = some (gv q (.bool v))) (hq : c = true → q = true) : Y P C l ⟨dst, .pick x y (.const (.bool false)), ty, pos, af, gd⟩ (.bool (c && v)) := by
  cases hcc : c with
  | false =>
    intro ρ hρ w _
    have := hρ x _ hc
    rw [hcc] at this
    simp [execOp, this, asBool, hρ (.const (.bool false)) _ rfl]
  | true =>
    intro ρ hρ w _
    have h1 := hρ x _ hc
    have h2 := hρ y _ hx
    rw [hcc] at h1
    rw [gv_t (hq hcc)] at h2
    simp [execOp, h1, h2, asBool]
theorem y_por {c v q : Bool} (hc : opv l x = some (.bool c)) (hx : opv l y = some (gv q (.bool v))) (hq : c = false → q = true) : Y P C l ⟨dst, .pick x (.const (.bool true)) y, ty, pos, af, gd⟩ (.bool (c || v)) := by
  cases hcc : c with
  | true =>
    intro ρ hρ w _
    have := hρ x _ hc
    rw [hcc] at this
    simp [execOp, this, asBool, hρ (.const (.bool true)) _ rfl]
  | false =>
    intro ρ hρ w _
    have h1 := hρ x _ hc
    have h2 := hρ y _ hx
    rw [hcc] at h1
    rw [gv_t (hq hcc)] at h2
    simp [execOp, h1, h2, asBool]

/-! ### regions that draw -/
theorem qk_panic {c : List PanicEntry} {a : Act} {w : World} : ∀ {ks : List Kt}, QK P fn R ks (.panic c) a w ↔ (a.defers = [] ∧ R (.panicked c) w)
  | [] => Iff.rfl
  | .code _ :: ks => qk_panic (ks := ks)
  | .blk _ :: ks => qk_panic (ks := ks)
  | .lp _ :: ks => qk_panic (ks := ks)
  | .sc :: ks => qk_panic (ks := ks)
/-- The game of the orders: li says which have come up; S holds of all worlds that come. -/
def H (P : Program) (fn : Func) (R : Ending → World → Prop) (n : Nat) (ops : Array Oper) (S : World → Prop) (fuel : Nat) (li : List Bool) (ks : List Kt) (l : List (Nat × Value)) (w : World) : Prop :=
  S w ∧ ∀ a, Fr n l a → wpAnyH P .any ops (QK P fn R ks) S fuel li.toArray a w
theorem g_draw (S : World → World → Prop) {id : Nat} {os : List Oper} (hm : P.follows .mixedOrders = true) (h : ∀ w', Gr w w' → w'.heap = w.heap → H P fn R n os.toArray (S w') os.length (List.replicate os.length false) ks l w') : G P fn R n (.code (.region id os.toArray true) :: ks) l w :=
  fun a ha => wp_region_held (S := S w.drew) hm (by
    have h1 := (h w.drew (gr_drew w) rfl).2 a ha
    have e : (Array.replicate os.toArray.size false) = (List.replicate os.length false).toArray := by simp
    have e2 : os.toArray.size = os.length := by simp
    rw [e, e2]
    exact h1)
theorem set_arr (li : List Bool) (i : Nat) : li.toArray.setIfInBounds i true = (li.set i true).toArray := by simp
def takeB (ops : Array Oper) (li : List Bool) (i : Nat) : Bool := Region.noSelect ops && Region.free .any ops li.toArray i && (Region.ready .any ops li.toArray).contains i
variable {S : World → Prop} {fuel : Nat} {li : List Bool}
theorem h_take (i : Nat) {v : Value} (hi : ops[i]? = some ⟨some d, op, ty, pos, af, none⟩) (hb : takeB ops li i = true) (hy : Y P S l ⟨some d, op, ty, pos, af, none⟩ v) (hd : Nat.blt d n = true)
    (hg : S w) (h : H P fn R n ops S fuel (li.set i true) ks ((d, v) :: l) w) : H P fn R n ops S (fuel + 1) li ks l w := by
  refine ⟨hg, fun a ha => ?_⟩
  simp only [takeB, Bool.and_eq_true] at hb
  refine wpAnyH_take (v := v) hi hb.1.1 hb.1.2 hb.2 ?_ (.inl ⟨wanted_none rfl a, fun w hw => hy a.eval (fun _ _ hx => ha.eval hx) w hw⟩) hg ?_
  · intro c a w hq
    rw [qk_panic] at hq ⊢
    simpa [Act.put] using hq
  · rw [set_arr]; exact h.2 _ (ha.put hd v)
theorem h_takeg (i : Nat) {j : Nat} {want c : Bool} {v : Value} (hi : ops[i]? = some ⟨some d, op, ty, pos, af, some (j, want)⟩) (hb : takeB ops li i = true) (hgd : Gd ops l j want c) (hy : c = true → Y P S l ⟨some d, op, ty, pos, af, some (j, want)⟩ v) (hd : Nat.blt d n = true)
    (hg : S w) (h : H P fn R n ops S fuel (li.set i true) ks ((d, gv c v) :: l) w) : H P fn R n ops S (fuel + 1) li ks l w := by
  refine ⟨hg, fun a ha => ?_⟩
  simp only [takeB, Bool.and_eq_true] at hb
  have hw := wanted_gd (o := ⟨some d, op, ty, pos, af, some (j, want)⟩) rfl hgd ha
  refine wpAnyH_take (v := gv c v) hi hb.1.1 hb.1.2 hb.2 ?_ ?_ hg ?_
  · intro c a w hq
    rw [qk_panic] at hq ⊢
    simpa [Act.put] using hq
  · cases hc : c with
    | false => rw [hc] at hw; exact .inr ⟨hw, rfl⟩
    | true => rw [hc] at hw; exact .inl ⟨hw, fun w hw => hy hc a.eval (fun _ _ hx => ha.eval hx) w hw⟩
  · rw [set_arr]; exact h.2 _ (ha.put hd (gv c v))
def oneB (ops : Array Oper) (li : List Bool) (i : Nat) : Bool := Region.ready .any ops li.toArray == [i]
theorem h_op (i : Nat) (hb : oneB ops li i = true) (hg : S w) (h : ∀ a, Fr n l a → wpOp P ops (QK P fn R ks) i (fun a' w' => S w' ∧ wpAnyH P .any ops (QK P fn R ks) S fuel (li.set i true).toArray a' w') a w) : H P fn R n ops S (fuel + 1) li ks l w := by
  refine ⟨hg, fun a ha => wpAnyH_all (rs := [i]) (by simpa [oneB] using hb) (by simp) fun j hj => ?_⟩
  simp only [List.mem_singleton] at hj
  subst hj
  rw [set_arr]; exact h a ha
/-- The one that can come up yields, in a new world. -/
theorem h_run (i : Nat) {v : Value} {w' : World} (hi : ops[i]? = some ⟨some d, op, ty, pos, af, none⟩) (hb : oneB ops li i = true) (hr : ∀ ρ : Operand → Value, (∀ x u, opv l x = some u → ρ x = u) → (execOp ρ ⟨some d, op, ty, pos, af, none⟩).run P w = .ok (.value v) w') (hd : Nat.blt d n = true)
    (hg : S w) (h : H P fn R n ops S fuel (li.set i true) ks ((d, v) :: l) w') : H P fn R n ops S (fuel + 1) li ks l w :=
  h_op i hb hg fun a ha => by
    unfold wpOp
    simp only [hi, wanted_none (o := ⟨some d, op, ty, pos, af, none⟩) rfl a, if_true, Oper.wp]
    rw [hr a.eval (fun _ _ hx => ha.eval hx)]
    exact .inl ⟨h.1, h.2 _ (ha.put hd v)⟩
theorem h_call (i : Nat) {f : Operand} {g : FuncId} {xs : List Operand} {vs : List Value} {ats : Array TypeId} {S' : Ending → World → Prop} {cap : Array Value} (hi : ops[i]? = some ⟨some d, .call { callee := .value f, args := xs.toArray, argTypes := ats }, ty, pos, af, none⟩) (hb : oneB ops li i = true)
    (hf : opv l f = some (.func (.func g) #[] cap)) (hx : opvs l xs = some vs) (he : Enters P g) (hc : Calls P g (vs.toArray ++ cap) w S') (hS : ∀ e w', S' e w' → ∃ v, e = .returned v) (hd : Nat.blt d n = true)
    (hg : S w) (h : ∀ w' v, S' (.returned v) w' → H P fn R n ops S fuel (li.set i true) ks ((d, v) :: l) w') : H P fn R n ops S (fuel + 1) li ks l w :=
  h_op i hb hg fun a ha => by
    unfold wpOp
    simp only [hi, wanted_none (o := ⟨some d, .call { callee := .value f, args := xs.toArray, argTypes := ats }, ty, pos, af, none⟩) rfl a, if_true, Oper.wp]
    have hm := opvs_map (fun _ _ hx => ha.eval hx) hx
    have hr : (execOp a.eval ⟨some d, .call { callee := .value f, args := xs.toArray, argTypes := ats }, ty, pos, af, none⟩).run P w = .ok (.enter g (vs.toArray ++ cap)) w := by
      simp only [execOp, resolve, List.map_toArray, hm, ha.eval hf, Deferred.ofValue, Sem.run_bind, Sem.run_pure, Result.andThen_ok, invoke, Array.empty_append]
      simpa using he (vs.toArray ++ cap) w
    rw [hr]
    refine .inl (hc.mono fun e w' hs => ?_)
    obtain ⟨v, rfl⟩ := hS e w' hs
    have h' := h w' v hs
    exact ⟨h'.1, h'.2 _ (ha.put hd v)⟩
def doneB (ops : Array Oper) (li : List Bool) : Bool := Region.ready .any ops li.toArray == []
theorem h_done (hb : doneB ops li = true) (hg : S w) (h : G P fn R n ks l w) : H P fn R n ops S fuel li ks l w :=
  ⟨hg, fun a ha => wpAnyH_done (by simpa [doneB] using hb) (h a ha) fuel⟩

theorem h_box (i : Nat) {v : Value} (hi : ops[i]? = some ⟨some d, .box t x, ty, pos, af, none⟩) (hb : oneB ops li i = true) (hx : opv l x = some v) (hd : Nat.blt d n = true) (hg : S w)
    (h : ∀ w' g, Gr w w' → w.heap.size ≤ g → Blk w' g t v.cells → H P fn R n ops S fuel (li.set i true) ks ((d, .pointer (some ⟨g, 0, none⟩)) :: l) w') : H P fn R n ops S (fuel + 1) li ks l w :=
  h_run i (v := .pointer (some ⟨w.heap.size, 0, none⟩)) (w' := w.alloc (.cells v.cells t)) hi hb (fun ρ hρ => by simp [execOp, hρ x _ hx, Instr.box, newVar, newRow]) hd hg (h _ _ (gr_alloc w _) (Nat.le_refl _) (Blk.new w t v.cells))
theorem h_alloc (i : Nat) {v : Value} (hi : ops[i]? = some ⟨some d, .alloc t, ty, pos, af, none⟩) (hb : oneB ops li i = true) (hz : ∀ w, (zeroValue t).run P w = .ok v w) (hd : Nat.blt d n = true) (hg : S w)
    (h : ∀ w' g, Gr w w' → w.heap.size ≤ g → Blk w' g t v.cells → H P fn R n ops S fuel (li.set i true) ks ((d, .pointer (some ⟨g, 0, none⟩)) :: l) w') : H P fn R n ops S (fuel + 1) li ks l w :=
  h_run i (v := .pointer (some ⟨w.heap.size, 0, none⟩)) (w' := w.alloc (.cells v.cells t)) hi hb (fun ρ hρ => by simp [execOp, Instr.alloc, hz, newVar, newRow]) hd hg (h _ _ (gr_alloc w _) (Nat.le_refl _) (Blk.new w t v.cells))
theorem h_bsl (i : Nat) {e : TypeId} {ps : List (Nat × Operand)} {vs : List (Nat × Value)} {m size : Nat} {cs : Array Value} (hi : ops[i]? = some ⟨some d, .buildSlice t m ps.toArray, ty, pos, af, none⟩) (hb : oneB ops li i = true) (hp : opvp l ps = some vs) (hm : m ≤ maxLen) (hc : cs.size = m * size)
    (hr : ∀ w : World, (Instr.buildSlice t m vs.toArray).run P w = .ok (.slice (some ⟨w.heap.size, 0, none⟩) m m) (w.alloc (.cells cs e))) (hd : Nat.blt d n = true) (hg : S w)
    (h : ∀ w' v, Gr w w' → Own w' w.heap.size e size v m cs.toList → H P fn R n ops S fuel (li.set i true) ks ((d, v) :: l) w') : H P fn R n ops S (fuel + 1) li ks l w :=
  h_run i (v := .slice (some ⟨w.heap.size, 0, none⟩) m m) (w' := w.alloc (.cells cs e)) hi hb (fun ρ hρ => by
    have h := opvp_map hρ hp
    have e : (ps.toArray.map fun (i, x) => (i, ρ x)) = vs.toArray := by simpa using h
    simp only [execOp, e, Sem.run_bind, hr, Result.andThen_ok, Sem.run_pure]) hd hg (h _ _ (gr_alloc w _) (own_new hm hc))
theorem h_s2b (i : Nat) {e : TypeId} {s : List UInt8} (hi : ops[i]? = some ⟨some d, .convert t u x, ty, pos, af, none⟩) (hb : oneB ops li i = true) (hx : opv l x = some (.string (E.S s))) (hs : P.underlying t = some .string) (hd' : P.underlying u = some (.slice e)) (he : P.underlying e = some (.int .u8)) (hm : s.length ≤ maxLen) (hd : Nat.blt d n = true) (hg : S w)
    (h : ∀ w' v, Gr w w' → Own w' w.heap.size e 1 v s.length (s.map bc) → H P fn R n ops S fuel (li.set i true) ks ((d, v) :: l) w') : H P fn R n ops S (fuel + 1) li ks l w := by
  obtain ⟨v, w', hr, hgr, hown⟩ := run_s2b (P := P) (w := w) t u e s hs hd' he hm
  exact h_run i hi hb (fun ρ hρ => by simp only [execOp, hρ x _ hx, Sem.run_bind, hr, Result.andThen_ok, Sem.run_pure]) hd hg (h w' v hgr hown)
theorem h_app (i : Nat) {e q : TypeId} {ti : TypeInfo} {zv : Value} {size bytes base m m' : Nat} {v : Value} {xs news : List Value} {xv : Value} (hi' : ops[i]? = some ⟨some d, .call { callee := .builtin .append, args := #[x, y], argTypes := #[t, q] }, ty, pos, af, none⟩) (hb : oneB ops li i = true)
    (hx : opv l x = some v) (hy : opv l y = some xv) (hown : Own w base e size v m xs) (hsrc : Src P w q size xv m' news)
    (ht : P.underlying t = some (.slice e)) (hi : P.info? e = some ti) (hz : ti.zero = some zv) (hsize : ti.size = size) (hby : ti.bytes = bytes) (hzs : zv.cells.size = size) (h63 : m + m' ≤ maxLen) (hbytes : (m + m') * bytes ≤ 140737488355328) (hpos : 0 < bytes) (hbase : base ≤ w.heap.size) (hd : Nat.blt d n = true) (hg : S w)
    (h : ∀ w' v', w.grownBy w' v.ownBlock → Own w' base e size v' (m + m') (xs ++ news) → (v'.ownBlock = v.ownBlock ∨ (v'.ownBlock = some w.heap.size ∧ w.grownBy w' none)) → H P fn R n ops S fuel (li.set i true) ks ((d, v') :: l) w') : H P fn R n ops S (fuel + 1) li ks l w := by
  obtain ⟨v', w', hr, ho, hg', hb'⟩ := run_append (P := P) w base t q ty e ti zv size bytes ht hi hz hsize hby hzs v m xs hown xv m' news hsrc h63 hbytes hpos hbase
  exact h_run i hi' hb (fun ρ hρ => by
    simp only [execOp_builtin, builtin_append, List.map_toArray, List.map_cons, List.map_nil, hρ x _ hx, hρ y _ hy, Sem.run_bind, hr, Result.andThen_ok, Sem.run_pure]) hd hg (h w' v' hg' ho hb')
end
end Go.Proofs.YtehfgmagmnjffaaGreatDoor.E
namespace Go.Proofs.YtehfgmagmnjffaaGreatDoor.E
open Go
theorem opvs0 {l : List (Nat × Value)} : opvs l [] = some [] := rfl
theorem opvs1 {l : List (Nat × Value)} {x : Operand} {v : Value} (h : opv l x = some v) : opvs l [x] = some [v] := by simp [opvs, h]
theorem opvs2 {l : List (Nat × Value)} {x y : Operand} {v u : Value} (h : opv l x = some v) (k : opv l y = some u) : opvs l [x, y] = some [v, u] := by simp [opvs, h, k]
theorem opvs3 {l : List (Nat × Value)} {x y z : Operand} {v u t : Value} (h : opv l x = some v) (k : opv l y = some u) (m : opv l z = some t) : opvs l [x, y, z] = some [v, u, t] := by simp [opvs, h, k, m]
end Go.Proofs.YtehfgmagmnjffaaGreatDoor.E
