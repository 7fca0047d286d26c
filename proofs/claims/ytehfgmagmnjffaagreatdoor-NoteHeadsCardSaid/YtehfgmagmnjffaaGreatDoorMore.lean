/-
  More words of the engine: pointers compared, entries without a body, a builder's appends, an array's cells. Nothing of a program stands in it.
-/
import Derived.Test.YtehfgmagmnjffaaGreatDoorDraw
import Derived.Laws.Pointers
import Derived.LaidEqlPtr
import Derived.Lib.Builder
import Derived.Lib.AppendStr
import Derived.Lib.OthersKept
import Derived.Lib.TrimU
import Derived.Laws.Runes
namespace Go.Proofs.YtehfgmagmnjffaaGreatDoor.E
open Go Go.RowKit Go.BigFrame Go.Lib
section
variable {P : Program} {fn : Func} {R : Ending → World → Prop} {n : Nat} {ks : List Kt} {l : List (Nat × Value)} {w : World} {ops : Array Oper} {rest : List Oper}
variable {C : World → Prop} {dst : Option Nat} {d : Nat} {t u ty : TypeId} {pos : String} {af : Array Edge} {gd : Option (Nat × Bool)} {x y : Operand}
theorem pte {e : TypeId} (ht : P.underlying t = some (.pointer e)) : P.underlying t = some (.pointer (P.pointee t)) := by simp [Program.pointee, ht]
theorem y_peqn {p : Option Addr} {e : TypeId} (hx : opv l x = some (.pointer p)) (hy : opv l y = some (.pointer none)) (ht : P.underlying t = some (.pointer e)) : Y P C l ⟨dst, .binOp .eql t x y u, ty, pos, af, gd⟩ (.bool p.isNone) :=
  y_bin hx hy (eqGuard_at_pointer _ _ _ _ _ _) fun w => run_eql_pointer_nil w t p (pte ht)
theorem y_pnen {p : Option Addr} {e : TypeId} (hx : opv l x = some (.pointer p)) (hy : opv l y = some (.pointer none)) (ht : P.underlying t = some (.pointer e)) : Y P C l ⟨dst, .binOp .neq t x y u, ty, pos, af, gd⟩ (.bool !p.isNone) :=
  y_bin hx hy (eqGuard_at_pointer _ _ _ _ _ _) fun w => run_neq_pointer_nil w t p (pte ht)
theorem y_pnes {a : Addr} {e : TypeId} {j : TypeInfo} (hx : opv l x = some (.pointer (some a))) (hy : opv l y = some (.pointer (some a))) (ht : P.underlying t = some (.pointer e)) (hj : P.info? e = some j) : Y P C l ⟨dst, .binOp .neq t x y u, ty, pos, af, gd⟩ (.bool false) :=
  y_bin hx hy (eqGuard_at_pointer _ _ _ _ _ _) fun w => Lib.run_neq_ptr_same w a ht hj
theorem y_as {o : Oper} {v v' : Value} (h : Y P C l o v) (e : v = v') : Y P C l o v' := e ▸ h
/-! ### strings, rune by rune -/
theorem l_rng {s : ByteArray} (hx : opv l x = some (.string s)) (ht : P.underlying t = some .string) (hd : Nat.blt d n = true)
    (h : ∀ w' g, Gr w w' → w.heap.size ≤ g → w'.heap[g]? = some (.stringIter s 0) → L P fn R n ops rest ks ((d, .pointer (some ⟨g, 0, none⟩)) :: l) w') : L P fn R n ops (⟨some d, .range t x, ty, pos, af, none⟩ :: rest) ks l w :=
  l_run (w' := w.iter s 0) (fun ρ hρ => by simp [execOp, hρ x _ hx, run_range_string w t s ht]) hd (h _ _ (gr_alloc w _) (Nat.le_refl _) (World.iter_heap w s 0))
theorem l_nx {g q : Nat} {s : ByteArray} (hx : opv l x = some (.pointer (some ⟨g, 0, none⟩))) (hit : w.heap[g]? = some (.stringIter s q)) (hq : q < s.size) (hd : Nat.blt d n = true)
    (h : ∀ w', w.grownBy w' (some g) → w'.heap.size = w.heap.size → w'.heap[g]? = some (.stringIter s (q + (Utf8.decode s q).2)) → L P fn R n ops rest ks ((d, .tuple #[.bool true, .int .i64 q, .int .i32 (Utf8.decode s q).1]) :: l) w') : L P fn R n ops (⟨some d, .next x true, ty, pos, af, none⟩ :: rest) ks l w :=
  l_run (w' := w.iterAt g s (q + (Utf8.decode s q).2)) (fun ρ hρ => by simp [execOp, hρ x _ hx, Lib.run_next_any_at w g s q ty hit hq]) hd (h _ ⟨rfl, rfl, rfl, by rw [Lib.iterAt_size]; exact Nat.le_refl _, fun k _ hk => Lib.iterAt_other w g k s _ (fun e => hk (by rw [e]))⟩ (Lib.iterAt_size _ _ _ _) (Lib.iterAt_heap w g s q _ hit))
theorem y_nxe {g q : Nat} {s : ByteArray} (hx : opv l x = some (.pointer (some ⟨g, 0, none⟩))) (hit : w.heap[g]? = some (.stringIter s q)) (hq : ¬ q < s.size) : Y P (· = w) l ⟨dst, .next x true, ty, pos, af, gd⟩ (.tuple #[.bool false]) :=
  fun ρ hρ w' hw => by subst hw; simp [execOp, hρ x _ hx, Lib.run_next_end_at w' g s q ty hit hq]
/-- A conversion that is known to yield v in this world. -/
theorem y_cv {v r : Value} (hx : opv l x = some v) (hr : ∀ w, C w → (convert t u v).run P w = .ok r w) : Y P C l ⟨dst, .convert t u x, ty, pos, af, gd⟩ r :=
  fun ρ hρ w hw => by simp only [execOp, hρ x _ hx, Sem.run_bind, hr w hw, Result.andThen_ok, Sem.run_pure]
/-- A call of an entry that has no body and yields v at once. -/
theorem y_ext1 {f : Operand} {g : FuncId} {v r : Value} {ats : Array TypeId} (hf : opv l f = some (.func (.func g) #[] #[])) (hx : opv l x = some v) (hr : ∀ w, C w → (callFunc g #[v]).run P w = .ok (.value r) w) :
    Y P C l ⟨dst, .call { callee := .value f, args := #[x], argTypes := ats }, ty, pos, af, gd⟩ r :=
  fun ρ hρ w hw => by
    simp only [execOp, resolve, List.map_toArray, List.map_cons, List.map_nil, hρ x _ hx, hρ f _ hf, Deferred.ofValue, Sem.run_bind, Sem.run_pure, Result.andThen_ok, invoke, Array.empty_append]
    simpa using hr w hw
theorem and_i64 (a b : Nat) (ha : a < 9223372036854775808) (hb : b < 9223372036854775808) : bits .and .i64 (a : Int) (b : Int) = ((a &&& b : Nat) : Int) := by
  have hx : a &&& b < 2 ^ 63 := Nat.and_lt_two_pow _ (by omega)
  have h1 : (BitVec.ofInt 64 (a : Int)).toNat = a := by rw [BitVec.ofInt_natCast, BitVec.toNat_ofNat]; exact Nat.mod_eq_of_lt (by omega)
  have h2 : (BitVec.ofInt 64 (b : Int)).toNat = b := by rw [BitVec.ofInt_natCast, BitVec.toNat_ofNat]; exact Nat.mod_eq_of_lt (by omega)
  show IntKind.i64.wrap ((BitVec.ofInt 64 (a : Int) &&& BitVec.ofInt 64 (b : Int)).toNat : Int) = _
  rw [BitVec.toNat_and, h1, h2, IntKind.wrap_i64]
  omega
theorem or_i64 (a b : Nat) (ha : a < 9223372036854775808) (hb : b < 9223372036854775808) : bits .or .i64 (a : Int) (b : Int) = ((a ||| b : Nat) : Int) := by
  have hx : a ||| b < 2 ^ 63 := Nat.or_lt_two_pow (by omega) (by omega)
  have h1 : (BitVec.ofInt 64 (a : Int)).toNat = a := by rw [BitVec.ofInt_natCast, BitVec.toNat_ofNat]; exact Nat.mod_eq_of_lt (by omega)
  have h2 : (BitVec.ofInt 64 (b : Int)).toNat = b := by rw [BitVec.ofInt_natCast, BitVec.toNat_ofNat]; exact Nat.mod_eq_of_lt (by omega)
  show IntKind.i64.wrap ((BitVec.ofInt 64 (a : Int) ||| BitVec.ofInt 64 (b : Int)).toNat : Int) = _
  rw [BitVec.toNat_or, h1, h2, IntKind.wrap_i64]
  omega
theorem y_andN {a b : Nat} (hx : opv l x = some (.int .i64 a)) (hy : opv l y = some (.int .i64 b)) (ha : a < 9223372036854775808) (hb : b < 9223372036854775808) : Y P C l ⟨dst, .binOp .and t x y u, ty, pos, af, gd⟩ (.int .i64 ((a &&& b : Nat) : Int)) := by
  have := y_and (P := P) (C := C) (dst := dst) (ty := ty) (pos := pos) (af := af) (gd := gd) (t := t) (u := u) hx hy; rwa [and_i64 a b ha hb] at this
theorem y_orN {a b : Nat} (hx : opv l x = some (.int .i64 a)) (hy : opv l y = some (.int .i64 b)) (ha : a < 9223372036854775808) (hb : b < 9223372036854775808) : Y P C l ⟨dst, .binOp .or t x y u, ty, pos, af, gd⟩ (.int .i64 ((a ||| b : Nat) : Int)) := by
  have := y_or (P := P) (C := C) (dst := dst) (ty := ty) (pos := pos) (af := af) (gd := gd) (t := t) (u := u) hx hy; rwa [or_i64 a b ha hb] at this
theorem y_shlN {k' : IntKind} {a b : Nat} (hx : opv l x = some (.int .i64 a)) (hy : opv l y = some (.int k' b)) (h1 : b ≤ 64) (hb : a * 2 ^ b ≤ 9223372036854775807) : Y P C l ⟨dst, .binOp .shl t x y u, ty, pos, af, gd⟩ (.int .i64 ((a * 2 ^ b : Nat) : Int)) := by
  have := y_shl (P := P) (C := C) (dst := dst) (ty := ty) (pos := pos) (af := af) (gd := gd) (t := t) (u := u) hx hy (by omega) (by show _ ≤ ((64 : Nat) : Int); omega)
  rw [Int.toNat_natCast, show ((a : Int) * 2 ^ b) = ((a * 2 ^ b : Nat) : Int) from by simp, wrap_id (by omega)] at this
  exact this
theorem y_shrN {k' : IntKind} {a b : Nat} (hx : opv l x = some (.int .i64 a)) (hy : opv l y = some (.int k' b)) (h1 : b ≤ 64) : Y P C l ⟨dst, .binOp .shr t x y u, ty, pos, af, gd⟩ (.int .i64 ((a / 2 ^ b : Nat) : Int)) := by
  have := y_shr (P := P) (C := C) (dst := dst) (ty := ty) (pos := pos) (af := af) (gd := gd) (t := t) (u := u) hx hy (by omega) (by show _ ≤ ((64 : Nat) : Int); omega)
  rw [Int.toNat_natCast, show ((a : Int) / 2 ^ b) = ((a / 2 ^ b : Nat) : Int) from by simp] at this
  exact this
theorem y_subM {a b : Nat} (hx : opv l x = some (.int .i64 a)) (hy : opv l y = some (.int .i64 b)) (h : b ≤ a) (hb : a ≤ 9223372036854775807) : Y P C l ⟨dst, .binOp .sub t x y u, ty, pos, af, gd⟩ (.int .i64 ((a - b : Nat) : Int)) := by
  have := y_subN (P := P) (C := C) (dst := dst) (ty := ty) (pos := pos) (af := af) (gd := gd) (t := t) (u := u) hx hy (by omega)
  rwa [show ((a : Int) - b) = ((a - b : Nat) : Int) from by omega] at this
/-- An append to a row that is owned, nothing of it frozen. -/
theorem l_appk {e : TypeId} {i : TypeInfo} {zv : Value} {size bytes base m m' c : Nat} {a : Addr} {v : Value} {xs news : List Value} (hx : opv l x = some v) (hy : opv l y = some (.slice (some a) m' c)) (hown : w.ownsRow base e size v m xs)
    (hl : news.length = m' * size) (hnews : ∀ j u, news[j]? = some u → w.cell? (a.add j) = some u) (h1 : ∀ u ∈ news, u.oneCell' = true)
    (ht : P.underlying t = some (.slice e)) (hi : P.info? e = some i) (hz : i.zero = some zv) (hsize : i.size = size) (hby : i.bytes = bytes) (hzs : zv.cells.size = size) (hsz : 0 < size) (h63 : m + m' ≤ maxLen) (hbytes : (m + m') * bytes ≤ 140737488355328) (hbase : base ≤ w.heap.size) (hd : Nat.blt d n = true)
    (h : ∀ w' v', w.grownBy w' v.ownBlock → w'.ownsRow base e size v' (m + m') (xs ++ news) → L P fn R n ops rest ks ((d, v') :: l) w') :
    L P fn R n ops (⟨some d, .call { callee := .builtin .append, args := #[x, y], argTypes := #[t, t] }, ty, pos, af, none⟩ :: rest) ks l w := by
  obtain ⟨v', w', hr, ho, hg, _⟩ := Go.run_append_own (P := P) w base t ty e i zv size bytes ht hi hz hsize hby hzs hsz v m xs hown a m' c news hl hnews h1 h63 hbytes hbase
  exact l_run (v := v') (w' := w') (fun ρ hρ => by
    simp only [execOp_builtin, builtin_append, List.map_toArray, List.map_cons, List.map_nil, hρ x _ hx, hρ y _ hy, Sem.run_bind, hr, Result.andThen_ok, Sem.run_pure]) hd (h w' v' hg ho)
theorem l_apps {e q : TypeId} {i : TypeInfo} {base m : Nat} {v : Value} {xs : List Value} {s : ByteArray} (hx : opv l x = some v) (hy : opv l y = some (.string s)) (hown : w.ownsRow base e 1 v m xs)
    (ht : P.underlying t = some (.slice e)) (hu : P.underlying q = some .string) (hi : P.info? e = some i) (hz : i.zero = some (.int .u8 0)) (hsize : i.size = 1) (hby : i.bytes = 1) (h63 : m + s.size ≤ maxLen) (hbytes : m + s.size ≤ 140737488355328) (hbase : base ≤ w.heap.size) (hd : Nat.blt d n = true)
    (h : ∀ w' v', w.grownBy w' v.ownBlock → w'.ownsRow base e 1 v' (m + s.size) (xs ++ Lib.strCells s) → L P fn R n ops rest ks ((d, v') :: l) w') :
    L P fn R n ops (⟨some d, .call { callee := .builtin .append, args := #[x, y], argTypes := #[t, q] }, ty, pos, af, none⟩ :: rest) ks l w := by
  obtain ⟨v', w', hr, ho, hg, _⟩ := Lib.run_append_own_string (P := P) w base t q ty e i ht hu hi hz hsize hby v m xs hown s h63 hbytes hbase
  exact l_run (v := v') (w' := w') (fun ρ hρ => by
    simp only [execOp_builtin, builtin_append, List.map_toArray, List.map_cons, List.map_nil, hρ x _ hx, hρ y _ hy, Sem.run_bind, hr, Result.andThen_ok, Sem.run_pure]) hd (h w' v' hg ho)
end
section
variable {w w' : World} {base : Nat} {e : TypeId} {size n : Nat} {v : Value} {xs : List Value}
theorem _root_.Go.World.ownsRow.of_gr (h : w.ownsRow base e size v n xs) (k : Gr w w') : w'.ownsRow base e size v n xs := by
  refine ⟨h.1, ?_⟩
  rcases h.2 with h | ⟨g, cap, cur, rfl, hb, hh, rest⟩
  · exact .inl h
  · exact .inr ⟨g, cap, cur, rfl, hb, k.block hh, rest⟩
theorem _root_.Go.Lib.IsBuilder.gr {T e : TypeId} {B b : Nat} {bs : List Value} (h : Lib.IsBuilder T e B b bs w) (k : Gr w w') : Lib.IsBuilder T e B b bs w' := by
  rcases h with ⟨hB, v, hb, ho, hn⟩ | ⟨hB, v, hb, ho, hn⟩
  · exact .inl ⟨hB, v, k.block hb, ho.of_gr k, hn⟩
  · exact .inr ⟨hB, v, k.block hb, ho.of_gr k, hn⟩
theorem own_one (h : w.ownsRow base e size v n xs) : v.oneCell' = true := by
  rcases h.2 with ⟨rfl, _⟩ | ⟨g, cap, cur, rfl, _⟩ <;> rfl
theorem own_cells (h : w.ownsRow base e size v n xs) : v.cells = #[v] := by
  rcases h.2 with ⟨rfl, _⟩ | ⟨g, cap, cur, rfl, _⟩ <;> rfl
theorem own_ptr (h : Own w base e size v (n + 1) xs) : ∃ a c, v = .slice (some a) (n + 1) c ∧ ∀ j u, xs[j]? = some u → w.cell? (a.add j) = some u := by
  obtain ⟨A, c, rfl, _, _, hr⟩ := h.rc
  obtain ⟨ad, rfl, _, hc⟩ := hr (Nat.succ_pos _)
  exact ⟨ad, c, rfl, hc⟩
end
theorem Blk.below {B : Nat} {w w' : World} {g : Nat} {t : TypeId} {cs : Array Value} (h : Blk w g t cs) (hg : g < B) (k : Below B w w') : Blk w' g t cs := (k.block g hg).trans h
theorem Blk.eqn {w : World} {g : Nat} {t : TypeId} {cs : Array Value} (h : Blk w g t cs) : w.heap[g]? = some (.cells cs t (0, 0)) := h
theorem of_below {B : Nat} {w w' : World} (h : Below B w w') (hB : w.heap.size ≤ B) : Gr w w' := h.mono hB
end Go.Proofs.YtehfgmagmnjffaaGreatDoor.E
