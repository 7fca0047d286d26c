/-
  The engine's operations on strings, aggregates, memory; calls; a function's door. Nothing of a program stands in it.
-/
import Derived.Test.YtehfgmagmnjffaaGreatDoorMem
import Derived.Shelf.Abstract
import Derived.Laws.Slices
namespace Go.Proofs.YtehfgmagmnjffaaGreatDoor.E
open Go Go.RowKit Go.BigFrame Go.Lib

section
variable {P : Program} {fn : Func} {R : Ending → World → Prop} {n : Nat} {ks : List Kt} {l : List (Nat × Value)} {w : World} {ops : Array Oper}
variable {C : World → Prop} {dst : Option Nat} {ty : TypeId} {pos : String} {af : Array Edge} {gd : Option (Nat × Bool)} {x y z : Operand} {t u : TypeId} {rest : List Oper} {d : Nat}

/-! ### strings -/
theorem y_cat' {s s' : List UInt8} (hx : opv l x = some (.string (S s))) (hy : opv l y = some (.string (S s'))) (hb : s.length + s'.length ≤ 9223372036854775807) : Y P C l ⟨dst, .binOp .add t x y u, ty, pos, af, gd⟩ (.string (S (s ++ s'))) := by
  have := y_cat (P := P) (C := C) (dst := dst) (ty := ty) (pos := pos) (af := af) (gd := gd) (t := t) (u := u) hx hy (by rw [S_size, S_size]; exact hb)
  rwa [S_append] at this
theorem y_seq' {s s' : List UInt8} (hx : opv l x = some (.string (S s))) (hy : opv l y = some (.string (S s'))) : Y P C l ⟨dst, .binOp .eql t x y u, ty, pos, af, gd⟩ (.bool (decide (s = s'))) := by
  have := y_seq (P := P) (C := C) (dst := dst) (ty := ty) (pos := pos) (af := af) (gd := gd) (t := t) (u := u) hx hy
  rw [S_toList, S_toList] at this
  have e : (s == s') = decide (s = s') := by rw [Bool.eq_iff_iff]; simp
  rwa [e] at this
theorem y_sne' {s s' : List UInt8} (hx : opv l x = some (.string (S s))) (hy : opv l y = some (.string (S s'))) : Y P C l ⟨dst, .binOp .neq t x y u, ty, pos, af, gd⟩ (.bool (decide (s ≠ s'))) := by
  have := y_sne (P := P) (C := C) (dst := dst) (ty := ty) (pos := pos) (af := af) (gd := gd) (t := t) (u := u) hx hy
  rw [S_toList, S_toList] at this
  have e : (!(s == s')) = decide (s ≠ s') := by rw [Bool.eq_iff_iff]; simp
  rwa [e] at this
theorem y_len {t : TypeId} {v : Value} {m : Nat} (hx : opv l x = some v) (hr : ∀ w, (Builtin.len_ #[t] ty #[v]).run P w = .ok (.int .i64 m) w) : Y P C l ⟨dst, .call { callee := .builtin .len, args := #[x], argTypes := #[t] }, ty, pos, af, gd⟩ (.int .i64 m) :=
  fun ρ hρ w _ => by
    have h := hρ x _ hx
    simp only [execOp_builtin, builtin_len, List.map_toArray, List.map_cons, List.map_nil, h, Sem.run_bind, hr, Result.andThen_ok, Sem.run_pure]
theorem y_slen {t : TypeId} {s : List UInt8} (hx : opv l x = some (.string (S s))) (ht : P.underlying t = some .string) : Y P C l ⟨dst, .call { callee := .builtin .len, args := #[x], argTypes := #[t] }, ty, pos, af, gd⟩ (.int .i64 (s.length : Nat)) :=
  y_len hx fun w => by rw [run_len_string w t ty _ ht, S_size]; rfl
theorem y_llen {t e : TypeId} {A : Option Addr} {m c : Nat} (hx : opv l x = some (.slice A m c)) (ht : P.underlying t = some (.slice e)) : Y P C l ⟨dst, .call { callee := .builtin .len, args := #[x], argTypes := #[t] }, ty, pos, af, gd⟩ (.int .i64 (m : Nat)) :=
  y_len hx fun w => by simp [Builtin.len_, run_underlying ht, goInt]
theorem y_lenv {t e : TypeId} {v : Value} {m : Nat} (hx : opv l x = some v) (hv : ∃ A c, v = .slice A m c) (ht : P.underlying t = some (.slice e)) : Y P C l ⟨dst, .call { callee := .builtin .len, args := #[x], argTypes := #[t] }, ty, pos, af, gd⟩ (.int .i64 (m : Nat)) := by
  obtain ⟨A, c, rfl⟩ := hv
  exact y_llen hx ht
theorem y_capv {t e : TypeId} {A : Option Addr} {m c : Nat} (hx : opv l x = some (.slice A m c)) (ht : P.underlying t = some (.slice e)) : Y P C l ⟨dst, .call { callee := .builtin .cap, args := #[x], argTypes := #[t] }, ty, pos, af, gd⟩ (.int .i64 (c : Nat)) :=
  fun ρ hρ w _ => by
    have h := hρ x _ hx
    simp only [execOp_builtin, builtin_cap, List.map_toArray, List.map_cons, List.map_nil, h, Sem.run_bind, Sem.run_pure]
    simp [Builtin.cap_, run_underlying ht, goInt]
theorem y_sidx {s : List UInt8} {k : IntKind} {i : Int} {b : UInt8} (hx : opv l x = some (.string (S s))) (hy : opv l y = some (.int k i)) (ht : P.underlying t = some .string) (h0 : 0 ≤ i) (hb : s[i.toNat]? = some b) : Y P C l ⟨dst, .index t x y, ty, pos, af, gd⟩ (bc b) :=
  fun ρ hρ w _ => by
    have hlt : i.toNat < s.length := (List.getElem?_eq_some_iff.1 hb).1
    have hb' : s[i.toNat] = b := (List.getElem?_eq_some_iff.1 hb).2
    have hd : 0 ≤ i ∧ i < ((S s).size : Int) := ⟨h0, by rw [S_size]; omega⟩
    have hr := run_index_string (P := P) w t (S s) k i ht
    rw [dif_pos hd] at hr
    simp only [execOp, hρ x _ hx, hρ y _ hy, Sem.run_bind, hr, Result.andThen_ok, Sem.run_pure]
    have e : (S s)[i.toNat]'(by rw [S_size]; omega) = b := by rw [← hb']; rfl
    rw [e]
theorem sliceAt_string (ht : P.underlying t = some .string) (v : Value) (lo hi mx : Option Value) (w : World) : (Instr.sliceAt t v lo hi mx).run P w = (Instr.slice t v lo hi mx).run P w := by simp [Instr.sliceAt, run_underlying ht]
theorem sliceAt_slice {e : TypeId} (ht : P.underlying t = some (.slice e)) (v : Value) (lo hi mx : Option Value) (w : World) : (Instr.sliceAt t v lo hi mx).run P w = (Instr.slice t v lo hi mx).run P w := by simp [Instr.sliceAt, run_underlying ht]
theorem y_sl {v r : Value} {lo hi mx : Option Operand} {lo' hi' mx' : Option Value} (hx : opv l x = some v) (h1 : lo.bind (opv l) = lo') (h2 : hi.bind (opv l) = hi') (h3 : mx.bind (opv l) = mx') (n1 : lo.isSome = lo'.isSome) (n2 : hi.isSome = hi'.isSome) (n3 : mx.isSome = mx'.isSome)
    (hr : ∀ w, C w → (Instr.sliceAt t v lo' hi' mx').run P w = .ok r w) : Y P C l ⟨dst, .slice t x lo hi mx, ty, pos, af, gd⟩ r :=
  fun ρ hρ w hw => by
    have m : ∀ {o : Option Operand} {o' : Option Value}, o.bind (opv l) = o' → o.isSome = o'.isSome → o.map ρ = o' := by
      intro o o' h hn
      cases o with
      | none => simpa using h
      | some q =>
        simp only [Option.bind_some] at h
        cases o' with
        | none => simp at hn
        | some v => simp [hρ q v h]
    simp only [execOp, hρ x _ hx, m h1 n1, m h2 n2, m h3 n3, Sem.run_bind, hr w hw, Result.andThen_ok, Sem.run_pure]
theorem y_ssl_lh {s : List UInt8} {k k' : IntKind} {i j : Int} {lo hi : Operand} (hx : opv l x = some (.string (S s))) (h1 : opv l lo = some (.int k i)) (h2 : opv l hi = some (.int k' j)) (ht : P.underlying t = some .string) (h0 : 0 ≤ i) (hij : i ≤ j) (hj : j ≤ s.length) :
    Y P C l ⟨dst, .slice t x (some lo) (some hi) none, ty, pos, af, gd⟩ (.string (S ((s.drop i.toNat).take (j.toNat - i.toNat)))) :=
  y_sl (lo' := some _) (hi' := some _) (mx' := none) hx h1 h2 rfl rfl rfl rfl fun w _ => by
    rw [sliceAt_string ht, run_slice_string w t (S s) k k' i j ht h0 hij (by rw [S_size]; exact hj), S_extract]
theorem y_ssl_l {s : List UInt8} {k : IntKind} {i : Int} {lo : Operand} (hx : opv l x = some (.string (S s))) (h1 : opv l lo = some (.int k i)) (ht : P.underlying t = some .string) (h0 : 0 ≤ i) (hj : i ≤ s.length) :
    Y P C l ⟨dst, .slice t x (some lo) none none, ty, pos, af, gd⟩ (.string (S (s.drop i.toNat))) :=
  y_sl (lo' := some _) (hi' := none) (mx' := none) hx h1 rfl rfl rfl rfl rfl fun w _ => by
    rw [sliceAt_string ht, run_slice_string_l w t (S s) ht k i h0 (by rw [S_size]; exact hj), S_extract, S_size, List.take_of_length_le (by simp)]
theorem y_ssl_h {s : List UInt8} {k : IntKind} {j : Int} {hi : Operand} (hx : opv l x = some (.string (S s))) (h2 : opv l hi = some (.int k j)) (ht : P.underlying t = some .string) (h0 : 0 ≤ j) (hj : j ≤ s.length) :
    Y P C l ⟨dst, .slice t x none (some hi) none, ty, pos, af, gd⟩ (.string (S (s.take j.toNat))) :=
  y_sl (lo' := none) (hi' := some _) (mx' := none) hx rfl h2 rfl rfl rfl rfl fun w _ => by
    rw [sliceAt_string ht, run_slice_string_h w t (S s) ht k j h0 (by rw [S_size]; exact hj), S_extract]; simp

/-! ### values -/
theorem y_conv {k : IntKind} {m : Int} {k' : IntKind} {ds : TypeDesc} (hx : opv l x = some (.int k m)) (hs : P.underlying t = some ds) (hd : P.underlying u = some (.int k')) : Y P C l ⟨dst, .convert t u x, ty, pos, af, gd⟩ (.int k' (k'.wrap m)) :=
  fun ρ hρ w _ => by
    have : (convert t u (.int k m)).run P w = .ok (.int k' (k'.wrap m)) w := by simp [convert, run_underlying hs, run_underlying hd, Conv.intToInt]
    simp only [execOp, hρ x _ hx, Sem.run_bind, this, Result.andThen_ok, Sem.run_pure]
theorem y_convN {k : IntKind} {m : Int} {k' : IntKind} {ds : TypeDesc} (hx : opv l x = some (.int k m)) (hs : P.underlying t = some ds) (hd : P.underlying u = some (.int k')) (hw : k'.wrap m = m) : Y P C l ⟨dst, .convert t u x, ty, pos, af, gd⟩ (.int k' m) := by
  have := y_conv (P := P) (C := C) (dst := dst) (ty := ty) (pos := pos) (af := af) (gd := gd) hx hs hd
  rwa [hw] at this
theorem y_convs {s : ByteArray} (hx : opv l x = some (.string s)) (hs : P.underlying t = some .string) (hd : P.underlying u = some .string) : Y P C l ⟨dst, .convert t u x, ty, pos, af, gd⟩ (.string s) :=
  fun ρ hρ w _ => by simp [execOp, hρ x _ hx, convert, run_underlying hs, run_underlying hd]
theorem y_field {c v : Value} {f : Nat} (hx : opv l x = some c) (hr : ∀ w, (Instr.field t c f).run P w = .ok v w) : Y P C l ⟨dst, .field t x f, ty, pos, af, gd⟩ v :=
  fun ρ hρ w _ => by simp only [execOp, hρ x _ hx, Sem.run_bind, hr, Result.andThen_ok, Sem.run_pure]
theorem y_idx {c i v : Value} (hx : opv l x = some c) (hy : opv l y = some i) (hr : ∀ w, (Instr.index t c i).run P w = .ok v w) : Y P C l ⟨dst, .index t x y, ty, pos, af, gd⟩ v :=
  fun ρ hρ w _ => by simp only [execOp, hρ x _ hx, hρ y _ hy, Sem.run_bind, hr, Result.andThen_ok, Sem.run_pure]
theorem y_ext {vs : Array Value} {v : Value} {i : Nat} (hx : opv l x = some (.tuple vs)) (hv : vs[i]? = some v) : Y P C l ⟨dst, .extract x i, ty, pos, af, gd⟩ v :=
  fun ρ hρ w _ => by simp [execOp, hρ x _ hx, Instr.extract, hv]
theorem y_mki {v : Value} {ds : TypeDesc} (hx : opv l x = some v) (hs : P.underlying t = some ds) (hn : (match ds with | .interface _ => true | _ => false) = false) : Y P C l ⟨dst, .makeInterface t x, ty, pos, af, gd⟩ (.iface t v) :=
  fun ρ hρ w _ => by
    cases ds <;> first | (simp at hn; done) | simp [execOp, hρ x _ hx, Instr.makeInterface, run_underlying hs]
theorem y_nilc {v : Value} (hx : opv l x = some v) (hn : (match v with | .pointer none | .nilIface | .nilFunc | .func (.method _) _ _ => true | _ => false) = false) : Y P C l ⟨dst, .nilCheck x, ty, pos, af, gd⟩ v :=
  fun ρ hρ w _ => by
    simp only [execOp, hρ x _ hx]
    split <;> first | (simp at hn; done) | rfl
theorem meth {ms : Array (String × TypeId)} (ht : P.underlying t = some (.interface ms)) : P.underlying t = some (.interface (P.methodsAt t)) := by simp [Program.methodsAt, ht]
/-- err == nil, err != nil -/
theorem y_eqnn {ms : Array (String × TypeId)} {c : Value} (hc : c = .nilIface) (hx : opv l x = some .nilIface) (ht : P.underlying t = some (.interface ms)) : Y P C l ⟨dst, .binOp .eql t x (.const c) u, ty, pos, af, gd⟩ (.bool true) := by
  subst hc
  exact y_bin hx rfl (eqGuard_nil_constR _ _ _ _) fun w => run_eql_nil_nil w t (meth ht)
theorem y_eqni {ms : Array (String × TypeId)} {c v : Value} {q : TypeId} (hc : c = .nilIface) (hx : opv l x = some (.iface q v)) (ht : P.underlying t = some (.interface ms)) : Y P C l ⟨dst, .binOp .eql t x (.const c) u, ty, pos, af, gd⟩ (.bool false) := by
  subst hc
  exact y_bin hx rfl (eqGuard_at_iface _ _ _ _ _ _ _) fun w => run_eql_held_nil w t _ _ (meth ht)
theorem y_nenn {ms : Array (String × TypeId)} {c : Value} (hc : c = .nilIface) (hx : opv l x = some .nilIface) (ht : P.underlying t = some (.interface ms)) : Y P C l ⟨dst, .binOp .neq t x (.const c) u, ty, pos, af, gd⟩ (.bool false) := by
  subst hc
  exact y_bin hx rfl (eqGuard_nil_constR _ _ _ _) fun w => run_neq_nil_nil w t (meth ht)
theorem y_neni {ms : Array (String × TypeId)} {c v : Value} {q : TypeId} (hc : c = .nilIface) (hx : opv l x = some (.iface q v)) (ht : P.underlying t = some (.interface ms)) : Y P C l ⟨dst, .binOp .neq t x (.const c) u, ty, pos, af, gd⟩ (.bool true) := by
  subst hc
  exact y_bin hx rfl (eqGuard_at_iface _ _ _ _ _ _ _) fun w => run_neq_held_nil w t _ _ (meth ht)

theorem y_ta {v : Value} {q : TypeId} {ds : TypeDesc} (hx : opv l x = some (.iface q v)) (hq : P.underlying q = some ds) (hn : (match ds with | .interface _ => true | _ => false) = false) : Y P C l ⟨dst, .typeAssert x t q true, ty, pos, af, gd⟩ (.tuple #[v, .bool true]) :=
  fun ρ hρ w _ => by
    cases ds <;> first | (simp at hn; done) | simp [execOp, hρ x _ hx, Instr.typeAssert, run_underlying hq]
theorem y_taf {v zv : Value} {q q' : TypeId} {ds : TypeDesc} (hx : opv l x = some (.iface q v)) (hne : q ≠ q') (hq : P.underlying q' = some ds) (hn : (match ds with | .interface _ => true | _ => false) = false) (hz : ∀ w, (zeroValue q').run P w = .ok zv w) : Y P C l ⟨dst, .typeAssert x t q' true, ty, pos, af, gd⟩ (.tuple #[zv, .bool false]) :=
  fun ρ hρ w _ => by
    cases ds <;> first | (simp at hn; done) | simp [execOp, hρ x _ hx, Instr.typeAssert, run_underlying hq, hne, hz]

/-- Operands, all told. -/
def opvs (l : List (Nat × Value)) : List Operand → Option (List Value)
  | [] => some []
  | x :: xs => match opv l x, opvs l xs with
    | some v, some vs => some (v :: vs)
    | _, _ => none
theorem opvs_map {ρ : Operand → Value} (hρ : ∀ x u, opv l x = some u → ρ x = u) : ∀ {xs : List Operand} {vs : List Value}, opvs l xs = some vs → xs.map ρ = vs
  | [], vs, h => by simp [opvs] at h; simp [h]
  | x :: xs, vs, h => by
    unfold opvs at h
    split at h
    · rename_i h1 h2
      injection h with h
      subst h
      simp [hρ _ _ h1, opvs_map hρ h2]
    · cases h
def opvp (l : List (Nat × Value)) : List (Nat × Operand) → Option (List (Nat × Value))
  | [] => some []
  | (i, x) :: xs => match opv l x, opvp l xs with
    | some v, some vs => some ((i, v) :: vs)
    | _, _ => none
theorem opvp_map {ρ : Operand → Value} (hρ : ∀ x u, opv l x = some u → ρ x = u) : ∀ {xs : List (Nat × Operand)} {vs : List (Nat × Value)}, opvp l xs = some vs → (xs.map fun p => (p.1, ρ p.2)) = vs
  | [], vs, h => by simp [opvp] at h; simp [h]
  | (i, x) :: xs, vs, h => by
    unfold opvp at h
    split at h
    · rename_i h1 h2
      injection h with h
      subst h
      simp [hρ _ _ h1, opvp_map hρ h2]
    · cases h
theorem y_build {ps : List (Nat × Operand)} {vs : List (Nat × Value)} {v : Value} (hp : opvp l ps = some vs) (hr : ∀ w, (Instr.build t vs.toArray).run P w = .ok v w) : Y P C l ⟨dst, .build t ps.toArray, ty, pos, af, gd⟩ v :=
  fun ρ hρ w _ => by
    have h := opvp_map hρ hp
    have e : (ps.toArray.map fun (i, x) => (i, ρ x)) = vs.toArray := by simpa using h
    simp only [execOp, e, Sem.run_bind, hr, Result.andThen_ok, Sem.run_pure]
theorem y_mkf {f : Fn} {a b : List Operand} {av bv : List Value} (ha : opvs l a = some av) (hb : opvs l b = some bv) : Y P C l ⟨dst, .makeFunc f a.toArray b.toArray, ty, pos, af, gd⟩ (.func f av.toArray bv.toArray) :=
  fun ρ hρ w _ => by
    simp only [execOp, List.map_toArray, opvs_map hρ ha, opvs_map hρ hb]
    rfl

/-! ### memory: addresses and loads -/
theorem y_fa {p v : Value} {f : Nat} (hx : opv l x = some p) (hr : ∀ w, (Instr.fieldAt t p f).run P w = .ok v w) : Y P C l ⟨dst, .fieldAddr t x f, ty, pos, af, gd⟩ v :=
  fun ρ hρ w _ => by simp only [execOp, hρ x _ hx, Sem.run_bind, hr, Result.andThen_ok, Sem.run_pure]
def adOf : Value → Addr
  | .slice (some a) _ _ => a
  | _ => ⟨0, 0, none⟩
theorem Rc.at_ {size m : Nat} {v : Value} {xs : List Value} (h : Rc w size v m xs) {j : Nat} {u : Value} (hu : xs[j]? = some u) : w.cell? ((adOf v).add j) = some u := by
  obtain ⟨A, c, rfl, _, hl, hr⟩ := h
  have hm : 0 < m := by
    have := (List.getElem?_eq_some_iff.1 hu).1
    rcases Nat.eq_zero_or_pos m with h0 | h0
    · rw [hl, h0] at this; omega
    · exact h0
  obtain ⟨ad, rfl, _, hc⟩ := hr hm
  exact hc j u hu
theorem y_ia {e : TypeId} {size m : Nat} {v : Value} {xs : List Value} {k : IntKind} {i : Int} (hx : opv l x = some v) (hy : opv l y = some (.int k i)) (hv : Rc w size v m xs) (ht : P.underlying t = some (.slice e)) (hs : (P.info? e).map (·.size) = some size) (h0 : 0 ≤ i) (h1 : i < m) :
    Y P C l ⟨dst, .indexAddr t x y, ty, pos, af, gd⟩ (.pointer (some ((adOf v).add (i.toNat * size)))) :=
  fun ρ hρ w _ => by
    obtain ⟨A, c, rfl, _, _, hr⟩ := hv
    obtain ⟨ad, rfl, _⟩ := hr (by omega)
    have he : P.elem t = e := by simp [Program.elem, ht]
    have hq := run_indexAt_slice (P := P) w t ad m c k i (by rw [he]; exact ht)
    rw [if_pos ⟨h0, by omega⟩, he] at hq
    have hsz : (sizeOf e).run P w = .ok size w := by
      cases hi : P.info? e with
      | none => simp [hi] at hs
      | some i => simp [hi] at hs; simp [sizeOf, typeInfo, hi, hs]
    rw [hsz] at hq
    simp only [Result.andThen_ok] at hq
    simp only [execOp, hρ x _ hx, hρ y _ hy, Sem.run_bind, hq, Result.andThen_ok, Sem.run_pure, adOf]
def aggB : TypeDesc → Bool
  | .struct _ | .array _ _ => true
  | _ => false
theorem isAgg_run {ds : TypeDesc} (h : P.underlying t = some ds) (w : World) : (isAgg t).run P w = .ok (aggB ds) w := by
  unfold isAgg
  rw [Sem.run_bind, run_underlying h w]
  cases ds <;> rfl
/-- One cell. -/
theorem y_ld {ds : TypeDesc} {p : Addr} {v : Value} (hx : opv l x = some (.pointer (some p))) (ht : P.underlying t = some ds) (ha : aggB ds = false) (hc : ∀ w', C w' → w'.cell? p = some v) : Y P C l ⟨dst, .load t x, ty, pos, af, gd⟩ v :=
  fun ρ hρ w hw => by
    have : (loadVar t p).run P w = .ok v w := by simp [loadVar, isAgg_run ht, ha, hc w hw]
    simp only [execOp, Instr.loadAt, Instr.sureAddr, hρ x _ hx, Sem.run_bind, Sem.run_pure, this, Result.andThen_ok]
/-- Several cells. -/
theorem y_lds {ds : TypeDesc} {p : Addr} {cs : List Value} (hx : opv l x = some (.pointer (some p))) (ht : P.underlying t = some ds) (ha : aggB ds = true) (hs : (P.info? t).map (·.size) = some cs.length) (hc : ∀ w', C w' → ∀ j v, cs[j]? = some v → w'.cell? (p.add j) = some v) :
    Y P C l ⟨dst, .load t x, ty, pos, af, gd⟩ (.agg cs.toArray) :=
  fun ρ hρ w hw => by
    have hl := run_loadCells_list (P := P) w p cs (hc w hw)
    have : (loadVar t p).run P w = .ok (.agg cs.toArray) w := by
      cases hi : P.info? t with
      | none => simp [hi] at hs
      | some i =>
        have hs' : i.size = cs.length := by simpa [hi] using hs
        simp [loadVar, isAgg_run ht, ha, sizeOf, typeInfo, hi, hs', hl]
    simp only [execOp, Instr.loadAt, Instr.sureAddr, hρ x _ hx, Sem.run_bind, Sem.run_pure, this, Result.andThen_ok]
/-- A cell of a block known whole. -/
theorem y_ldb {ds : TypeDesc} {g o : Nat} {bt : TypeId} {cs : Array Value} {v : Value} (hx : opv l x = some (.pointer (some ⟨g, o, none⟩))) (hB : Blk w g bt cs) (hC : ∀ w', C w' → Gr w w') (ht : P.underlying t = some ds) (ha : aggB ds = false) (hv : cs[o]? = some v) : Y P C l ⟨dst, .load t x, ty, pos, af, gd⟩ v :=
  y_ld hx ht ha fun w' hw => by rw [(hB.gr (hC w' hw)).cell]; exact hv
/-- Some cells of a block known whole. -/
theorem y_ldbs {ds : TypeDesc} {g o : Nat} {bt : TypeId} {cs : Array Value} {vs : List Value} (hx : opv l x = some (.pointer (some ⟨g, o, none⟩))) (hB : Blk w g bt cs) (hC : ∀ w', C w' → Gr w w') (ht : P.underlying t = some ds) (ha : aggB ds = true) (hs : (P.info? t).map (·.size) = some vs.length)
    (hv : ∀ j v, vs[j]? = some v → cs[o + j]? = some v) : Y P C l ⟨dst, .load t x, ty, pos, af, gd⟩ (.agg vs.toArray) :=
  y_lds hx ht ha hs fun w' hw j v hj => by
    have hadd : (⟨g, o, none⟩ : Addr).add j = ⟨g, o + j, none⟩ := by unfold Addr.add; split <;> simp_all
    rw [hadd, (hB.gr (hC w' hw)).cell]; exact hv j v hj
theorem plain_gr (w : World) : ∀ w', w' = w → Gr w w' := fun _ h => h ▸ Gr.rf w
theorem y_b2s {e : TypeId} {v : Value} {s : List UInt8} (hx : opv l x = some v) (hv : Rc w 1 v s.length (s.map bc)) (hC : ∀ w', C w' → Gr w w') (hs : P.underlying t = some (.slice e)) (he : P.underlying e = some (.int .u8)) (hd : P.underlying u = some .string) : Y P C l ⟨dst, .convert t u x, ty, pos, af, gd⟩ (.string (S s)) :=
  fun ρ hρ w' hw => by
    have hv' := hv.gr (hC w' hw)
    obtain ⟨A, c, rfl, _, _, hr⟩ := hv'
    have hrun : (convert t u (.slice A s.length c)).run P w' = .ok (.string (S s)) w' := by
      rw [run_convert_bytes_string w' t u e A _ c hs he hd]
      rcases Nat.eq_zero_or_pos s.length with h0 | h0
      · have : s = [] := List.eq_nil_of_length_eq_zero h0
        subst this
        cases A with
        | none => rfl
        | some ad => simp [Conv.bytesToString, loadCells, loadCellsFrom, S, ByteArray.empty, ByteArray.emptyWithCapacity]; rfl
      · obtain ⟨ad, rfl, _, hc⟩ := hr h0
        have hl := run_loadCells_list (P := P) w' ad (s.map bc) hc
        have hm : s.map bc = (s.map fun b => (b.toNat : Int)).map (Value.int .u8) := by simp [bc]
        rw [hm] at hl
        simp only [List.length_map] at hl
        rw [run_bytesToString w' ad s.length c _ hl, foldl_push_bytes]
        have e : (s.map fun b => (b.toNat : Int)).map (fun n => UInt8.ofNat n.toNat) = s := by
          rw [List.map_map]
          exact List.map_id'' (fun b => by simp) s
        rw [e]
        congr 2
        apply ByteArray.ext
        show #[] ++ s.toArray = s.toArray
        simp
    simp only [execOp, hρ x _ hx, Sem.run_bind, hrun, Result.andThen_ok, Sem.run_pure]

/-! ### memory: what makes or writes -/
/-- One operation that comes to v in a new world. -/
theorem l_run {op : Op} {v : Value} {w' : World} (hr : ∀ ρ : Operand → Value, (∀ x u, opv l x = some u → ρ x = u) → (execOp ρ ⟨some d, op, ty, pos, af, none⟩).run P w = .ok (.value v) w') (hd : Nat.blt d n = true)
    (h : L P fn R n ops rest ks ((d, v) :: l) w') : L P fn R n ops (⟨some d, op, ty, pos, af, none⟩ :: rest) ks l w :=
  fun a ha => wpList_run rfl (hr a.eval (fun _ _ hx => ha.eval hx)) (h _ (ha.put hd v))
theorem l_skip {op : Op} {w' : World} (hr : ∀ ρ : Operand → Value, (∀ x u, opv l x = some u → ρ x = u) → (execOp ρ ⟨none, op, ty, pos, af, none⟩).run P w = .ok .skip w')
    (h : L P fn R n ops rest ks l w') : L P fn R n ops (⟨none, op, ty, pos, af, none⟩ :: rest) ks l w :=
  fun a ha => wpList_skip' rfl (hr a.eval (fun _ _ hx => ha.eval hx)) (h _ ha)
theorem l_box {v : Value} (hx : opv l x = some v) (hd : Nat.blt d n = true)
    (h : ∀ w' g, Gr w w' → w.heap.size ≤ g → Blk w' g t v.cells → L P fn R n ops rest ks ((d, .pointer (some ⟨g, 0, none⟩)) :: l) w') : L P fn R n ops (⟨some d, .box t x, ty, pos, af, none⟩ :: rest) ks l w :=
  l_run (v := .pointer (some ⟨w.heap.size, 0, none⟩)) (w' := w.alloc (.cells v.cells t)) (fun ρ hρ => by simp [execOp, hρ x _ hx, Instr.box, newVar, newRow]) hd (h _ _ (gr_alloc w _) (Nat.le_refl _) (Blk.new w t v.cells))
theorem l_alloc {v : Value} (hz : ∀ w, (zeroValue t).run P w = .ok v w) (hd : Nat.blt d n = true)
    (h : ∀ w' g, Gr w w' → w.heap.size ≤ g → Blk w' g t v.cells → L P fn R n ops rest ks ((d, .pointer (some ⟨g, 0, none⟩)) :: l) w') : L P fn R n ops (⟨some d, .alloc t, ty, pos, af, none⟩ :: rest) ks l w :=
  l_run (v := .pointer (some ⟨w.heap.size, 0, none⟩)) (w' := w.alloc (.cells v.cells t)) (fun ρ hρ => by simp [execOp, Instr.alloc, hz, newVar, newRow]) hd (h _ _ (gr_alloc w _) (Nat.le_refl _) (Blk.new w t v.cells))
/-- A literal of a slice type. -/
theorem l_bsl {e : TypeId} {ps : List (Nat × Operand)} {vs : List (Nat × Value)} {m size : Nat} {cs : Array Value} (hp : opvp l ps = some vs) (ht : P.underlying t = some (.slice e)) (hs : (P.info? e).map (·.size) = some size) (hm : m ≤ maxLen) (hc : cs.size = m * size)
    (hr : ∀ w : World, (Instr.buildSlice t m vs.toArray).run P w = .ok (.slice (some ⟨w.heap.size, 0, none⟩) m m) (w.alloc (.cells cs e))) (hd : Nat.blt d n = true)
    (h : ∀ w' v, Gr w w' → Own w' w.heap.size e size v m cs.toList → L P fn R n ops rest ks ((d, v) :: l) w') : L P fn R n ops (⟨some d, .buildSlice t m ps.toArray, ty, pos, af, none⟩ :: rest) ks l w :=
  l_run (v := .slice (some ⟨w.heap.size, 0, none⟩) m m) (w' := w.alloc (.cells cs e)) (fun ρ hρ => by
    have h := opvp_map hρ hp
    have e : (ps.toArray.map fun (i, x) => (i, ρ x)) = vs.toArray := by simpa using h
    simp only [execOp, e, Sem.run_bind, hr, Result.andThen_ok, Sem.run_pure]) hd
    (h _ _ (gr_alloc w _) ⟨by simpa using hc, .inr ⟨w.heap.size, m, cs, (0, 0), rfl, Nat.le_refl _, heap_alloc_new w _, .inl rfl, Nat.le_refl _, hm, hc, by rw [List.take_of_length_le (by simp [hc])]⟩⟩)
theorem own_new {e : TypeId} {m size : Nat} {cs : Array Value} (hm : m ≤ maxLen) (hc : cs.size = m * size) : Own (w.alloc (.cells cs e)) w.heap.size e size (.slice (some ⟨w.heap.size, 0, none⟩) m m) m cs.toList :=
  ⟨by simpa using hc, .inr ⟨w.heap.size, m, cs, (0, 0), rfl, Nat.le_refl _, heap_alloc_new w _, .inl rfl, Nat.le_refl _, hm, hc, by rw [List.take_of_length_le (by simp [hc])]⟩⟩
theorem run_s2b (t u e : TypeId) (s : List UInt8) (hs : P.underlying t = some .string) (hd' : P.underlying u = some (.slice e)) (he : P.underlying e = some (.int .u8)) (hm : s.length ≤ maxLen) :
    ∃ v w', (convert t u (.string (S s))).run P w = .ok v w' ∧ Gr w w' ∧ Own w' w.heap.size e 1 v s.length (s.map bc) := by
  have hge := grownCap_ge w (S s).size 0 e
  have hcm := grownCap_le_maxLen w (S s).size 0 e (by rw [S_size]; exact hm)
  have hsz : (bytesCells w e (S s)).size = grownCap w (S s).size 0 e := by
    rw [S_size] at hge
    simp only [bytesCells, Array.size_append, Array.size_map, Array.size_replicate, S_size]
    simp [S]
    omega
  refine ⟨.slice (some ⟨w.heap.size, 0, none⟩) (S s).size (grownCap w (S s).size 0 e), bytesWorld w e (S s), Go.Lib.run_convert_string_bytes (P := P) w t u e (S s) hs hd' he, ⟨rfl, rfl, rfl, by rw [bytesWorld_size]; omega, fun k hk => bytesWorld_at_old w e (S s) k hk⟩, by simp, .inr ⟨w.heap.size, grownCap w (S s).size 0 e, bytesCells w e (S s), _, ?_, Nat.le_refl _, bytesWorld_at_new w e (S s), .inr (Nat.le_refl _), ?_, hcm, ?_, ?_⟩⟩
  · rw [S_size]
  · rw [S_size] at hge; rw [S_size]; exact hge
  · rw [hsz]; simp
  · simp only [bytesCells, Array.toList_append]
    rw [List.take_append_of_le_length (by simp)]
    simp
    exact List.take_of_length_le (by simp)
theorem l_s2b {e : TypeId} {s : List UInt8} (hx : opv l x = some (.string (S s))) (hs : P.underlying t = some .string) (hd' : P.underlying u = some (.slice e)) (he : P.underlying e = some (.int .u8)) (hm : s.length ≤ maxLen) (hd : Nat.blt d n = true)
    (h : ∀ w' v, Gr w w' → Own w' w.heap.size e 1 v s.length (s.map bc) → L P fn R n ops rest ks ((d, v) :: l) w') : L P fn R n ops (⟨some d, .convert t u x, ty, pos, af, none⟩ :: rest) ks l w := by
  obtain ⟨v, w', hr, hgr, hown⟩ := run_s2b (P := P) (w := w) t u e s hs hd' he hm
  exact l_run (fun ρ hρ => by simp only [execOp, hρ x _ hx, Sem.run_bind, hr, Result.andThen_ok, Sem.run_pure]) hd (h w' v hgr hown)
theorem l_app {e q : TypeId} {i : TypeInfo} {zv : Value} {size bytes base m m' : Nat} {v : Value} {xs news : List Value} {xv : Value} (hx : opv l x = some v) (hy : opv l y = some xv) (hown : Own w base e size v m xs) (hsrc : Src P w q size xv m' news)
    (ht : P.underlying t = some (.slice e)) (hi : P.info? e = some i) (hz : i.zero = some zv) (hsize : i.size = size) (hby : i.bytes = bytes) (hzs : zv.cells.size = size) (h63 : m + m' ≤ maxLen) (hbytes : (m + m') * bytes ≤ 140737488355328) (hpos : 0 < bytes) (hbase : base ≤ w.heap.size) (hd : Nat.blt d n = true)
    (h : ∀ w' v', w.grownBy w' v.ownBlock → Own w' base e size v' (m + m') (xs ++ news) → (v'.ownBlock = v.ownBlock ∨ (v'.ownBlock = some w.heap.size ∧ w.grownBy w' none)) → L P fn R n ops rest ks ((d, v') :: l) w') :
    L P fn R n ops (⟨some d, .call { callee := .builtin .append, args := #[x, y], argTypes := #[t, q] }, ty, pos, af, none⟩ :: rest) ks l w := by
  obtain ⟨v', w', hr, ho, hg, hb⟩ := run_append (P := P) w base t q ty e i zv size bytes ht hi hz hsize hby hzs v m xs hown xv m' news hsrc h63 hbytes hpos hbase
  exact l_run (v := v') (w' := w') (fun ρ hρ => by
    simp only [execOp_builtin, builtin_append, List.map_toArray, List.map_cons, List.map_nil, hρ x _ hx, hρ y _ hy, Sem.run_bind, hr, Result.andThen_ok, Sem.run_pure]) hd (h w' v' hg ho hb)
/-- A store of one cell into a block known whole. -/
theorem l_st {ds : TypeDesc} {g o : Nat} {bt : TypeId} {cs : Array Value} {v : Value} (hx : opv l x = some (.pointer (some ⟨g, o, none⟩))) (hy : opv l y = some v) (hB : Blk w g bt cs) (ho : o < cs.size) (h1 : v.oneCell' = true) (hcell : v.cells = #[v]) (_ht : P.underlying t = some ds) (hs : (P.info? t).map (·.size) = some 1)
    (h : ∀ w', w.grownBy w' (some g) → w'.heap.size = w.heap.size → Blk w' g bt (cs.setIfInBounds o v) → L P fn R n ops rest ks l w') : L P fn R n ops (⟨none, .store t x y, ty, pos, af, none⟩ :: rest) ks l w := by
  have hc : w.cell? ⟨g, o, none⟩ = some cs[o] := by rw [hB.cell]; simp [ho]
  refine l_skip (w' := w.setCell ⟨g, o, none⟩ v) (fun ρ hρ => ?_) (h _ ⟨rfl, rfl, rfl, by simp, fun k _ hk => Below.heap_setCell w _ v k (fun e => hk (by rw [e]))⟩ (by simp) ?_)
  · have hst : (store ⟨g, o, none⟩ v).run P w = .ok () (w.setCell ⟨g, o, none⟩ v) := by rw [run_store P w _ v _ h1, hc]; simp [hB.frozen]
    cases hi : P.info? t with
    | none => simp [hi] at hs
    | some i =>
      have hs' : i.size = 1 := by simpa [hi] using hs
      simp [execOp, hρ x _ hx, hρ y _ hy, Instr.storeAt, Instr.sureAddr, storeVar, sizeOf, typeInfo, hi, hs', hcell, storeCells, Addr.add, hst]
  · unfold Blk at hB ⊢
    simp [World.setCell, Array.getElem?_modify, hB]

/-! ### calls -/
/-- A call of a function that has a body, by its contract. -/
theorem l_call {f : Operand} {g : FuncId} {xs : List Operand} {cap : Array Value} {vs : List Value} {ats : Array TypeId} {S' : Ending → World → Prop} (hf : opv l f = some (.func (.func g) #[] cap)) (hx : opvs l xs = some vs) (he : Enters P g) (hc : Calls P g (vs.toArray ++ cap) w S')
    (hS : ∀ e w', S' e w' → ∃ v, e = .returned v) (hd : Nat.blt d n = true) (h : ∀ w' v, S' (.returned v) w' → L P fn R n ops rest ks ((d, v) :: l) w') :
    L P fn R n ops (⟨some d, .call { callee := .value f, args := xs.toArray, argTypes := ats }, ty, pos, af, none⟩ :: rest) ks l w :=
  fun a ha => by
    refine wpList_enter rfl (S := S') ?_ hc hS (fun v w' hs => h w' v hs _ (ha.put hd v))
    have hm := opvs_map (fun _ _ hx => ha.eval hx) hx
    simp only [execOp, resolve, List.map_toArray, hm, ha.eval hf, Deferred.ofValue, Sem.run_bind, Sem.run_pure, Result.andThen_ok, invoke, Array.empty_append]
    simpa using he (vs.toArray ++ cap) w
theorem l_call0 {f : Operand} {g : FuncId} {xs : List Operand} {vs : List Value} {ats : Array TypeId} {S' : Ending → World → Prop} (hf : opv l f = some (.func (.func g) #[] #[])) (hx : opvs l xs = some vs) (he : Enters P g) (hc : Calls P g vs.toArray w S')
    (hS : ∀ e w', S' e w' → ∃ v, e = .returned v) (hd : Nat.blt d n = true) (h : ∀ w' v, S' (.returned v) w' → L P fn R n ops rest ks ((d, v) :: l) w') :
    L P fn R n ops (⟨some d, .call { callee := .value f, args := xs.toArray, argTypes := ats }, ty, pos, af, none⟩ :: rest) ks l w :=
  l_call hf hx he (by simpa using hc) hS hd h

/-- A function's door. -/
def argl : Nat → List Value → List (Nat × Value)
  | _, [] => []
  | i, v :: vs => (i, v) :: argl (i + 1) vs
theorem look_argl : ∀ (vs : List Value) (i t : Nat) (v : Value), look (argl i vs) t = some v → i ≤ t ∧ vs[t - i]? = some v
  | [], _, _, _, h => by cases h
  | u :: vs, i, t, v, h => by
    unfold argl at h
    rw [look_cons] at h
    by_cases e : i = t
    · subst e
      rw [if_pos rfl] at h
      exact ⟨Nat.le_refl _, by simpa using h⟩
    · rw [if_neg e] at h
      obtain ⟨h1, h2⟩ := look_argl vs (i + 1) t v h
      refine ⟨by omega, ?_⟩
      have : t - i = (t - (i + 1)) + 1 := by omega
      rw [this]
      simpa using h2
theorem enter {f : FuncId} {c : Code} {vs : List Value} (hf : P.funcs[f]? = some fn) (hb : fn.body = some c) (hn : fn.ntmps = n) (hl : Nat.ble vs.length n = true) (h : G P fn R n [.code c] (argl 0 vs) w) : Calls P f vs.toArray w R := by
  have hl' : vs.length ≤ n := by simpa using hl
  refine calls_of_wp hf hb (h _ ⟨?_, rfl, fun t v ht => ?_⟩)
  · simp [hn]; omega
  · obtain ⟨_, h2⟩ := look_argl vs 0 t v ht
    simp only [Nat.sub_zero] at h2
    have : t < vs.length := (List.getElem?_eq_some_iff.1 h2).1
    rw [Array.getElem?_append_left (by simpa using this)]
    simpa using h2
end
end Go.Proofs.YtehfgmagmnjffaaGreatDoor.E
