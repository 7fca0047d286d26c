/-
  The engine: how a function's text is walked, operation by operation, over frames told as lists of slots. Nothing of a program stands in it.
-/
import Derived.WalkKit
import Derived.Deep.QuietTactic
import Derived.OrdersHeld
import Derived.Laws.Rows
import Derived.WalkLawsBesides
import Derived.Scope
namespace Go.Proofs.YtehfgmagmnjffaaGreatDoor.E
open Go Go.RowKit

/-- The newest entry of a slot. -/
def look : List (Nat × Value) → Nat → Option Value
  | [], _ => none
  | (k, v) :: l, t => bif Nat.beq k t then some v else look l t
theorem look_cons (k : Nat) (v : Value) (l : List (Nat × Value)) (t : Nat) : look ((k, v) :: l) t = if k = t then some v else look l t := by
  show (bif Nat.beq k t then some v else look l t) = _
  by_cases h : k = t
  · simp [h]
  · have : Nat.beq k t = false := Bool.eq_false_iff.2 fun h' => h (Nat.eq_of_beq_eq_true h')
    simp [h, this]

def opv (l : List (Nat × Value)) : Operand → Option Value
  | .tmp t => look l t
  | .const v => some v
  | .global g => some (.pointer (some ⟨g, 0, none⟩))
  | .func f => some (.func (.func f) #[] #[])

/-- A frame of n slots, of which just this is known. -/
structure Fr (n : Nat) (l : List (Nat × Value)) (a : Act) : Prop where
  size : a.tmps.size = n
  defers : a.defers = []
  at_ : ∀ t v, look l t = some v → a.tmps[t]? = some v

theorem Fr.eval {n : Nat} {l : List (Nat × Value)} {a : Act} (h : Fr n l a) {x : Operand} {v : Value} (hx : opv l x = some v) : a.eval x = v := by
  cases x with
  | tmp t => have := h.at_ t v hx; simp [Act.eval, this]
  | const u => simpa [opv, Act.eval] using hx
  | global g => simpa [opv, Act.eval] using hx
  | func f => simpa [opv, Act.eval] using hx

theorem Fr.put {n : Nat} {l : List (Nat × Value)} {a : Act} (h : Fr n l a) {d : Nat} (hd : Nat.blt d n = true) (v : Value) : Fr n ((d, v) :: l) (a.put (some d) v) := by
  have hd' : d < n := by simpa [Nat.blt_eq] using hd
  refine ⟨by simp [Act.put, h.size], by simp [Act.put, h.defers], fun t u hu => ?_⟩
  rw [look_cons] at hu
  by_cases e : d = t
  · subst e
    rw [if_pos rfl] at hu
    injection hu with hu
    subst hu
    simp [Act.put, h.size, hd']
  · rw [if_neg e] at hu
    simpa [Act.put, Array.getElem?_setIfInBounds, e] using h.at_ t u hu
theorem Fr.put0 {n : Nat} {l : List (Nat × Value)} {a : Act} (h : Fr n l a) (v : Value) : Fr n l (a.put none v) := h

/-- What is known of a frame, told anew, entry by entry. -/
theorem Fr.nil {n : Nat} {l : List (Nat × Value)} {a : Act} (h : Fr n l a) : Fr n [] a := ⟨h.size, h.defers, fun t v hv => by cases hv⟩
theorem Fr.cons {n : Nat} {l l' : List (Nat × Value)} {a : Act} (h' : Fr n l' a) (h : Fr n l a) {k : Nat} {v : Value} (hk : look l k = some v) : Fr n ((k, v) :: l') a := by
  refine ⟨h.size, h.defers, fun t u hu => ?_⟩
  rw [look_cons] at hu
  by_cases e : k = t
  · subst e
    rw [if_pos rfl] at hu
    injection hu with hu
    subst hu
    exact h.at_ _ _ hk
  · rw [if_neg e] at hu
    exact h'.at_ t u hu
/-- Entry by entry: all of l' is told in l. -/
def Sub (l : List (Nat × Value)) : List (Nat × Value) → Prop
  | [] => True
  | (k, v) :: l' => look l k = some v ∧ Sub l l'
theorem Fr.sub {n : Nat} {l : List (Nat × Value)} {a : Act} (h : Fr n l a) : ∀ {l' : List (Nat × Value)}, Sub l l' → Fr n l' a
  | [], _ => h.nil
  | (_, _) :: _, hs => (h.sub hs.2).cons h hs.1

/-- What stands behind the code at hand. -/
inductive Kt where
  | code (c : Code)
  | blk (id : Nat)
  | lp (I : Act → World → Prop)
  | sc

section
variable {P : Program} {fn : Func} {R : Ending → World → Prop}

def QK (P : Program) (fn : Func) (R : Ending → World → Prop) : List Kt → Exit → Act → World → Prop
  | [] => bodyPost P fn R
  | .code y :: ks => Exit.then (y.wp P (QK P fn R ks)) (QK P fn R ks)
  | .blk id :: ks => Exit.inBlock id (QK P fn R ks)
  | .lp I :: ks => Exit.then I (QK P fn R ks)
  | .sc :: ks => Exit.noGoto (QK P fn R ks)

/-- From every frame of which l is told, in the world w, what stands behind comes to its end, and R holds there. -/
def G (P : Program) (fn : Func) (R : Ending → World → Prop) (n : Nat) (ks : List Kt) (l : List (Nat × Value)) (w : World) : Prop :=
  ∀ a, Fr n l a → QK P fn R ks .normal a w
variable {n : Nat} {ks : List Kt} {l : List (Nat × Value)} {w : World}

theorem g_sub {l' : List (Nat × Value)} (hs : Sub l l') (h : G P fn R n ks l' w) : G P fn R n ks l w := fun a ha => h a (ha.sub hs)
theorem g_seq {x y : Code} (h : G P fn R n (.code x :: .code y :: ks) l w) : G P fn R n (.code (.seq x y) :: ks) l w := fun a ha => wp_seq (h a ha)
theorem g_skip (h : G P fn R n ks l w) : G P fn R n (.code .skip :: ks) l w := fun a ha => wp_skip (h a ha)
theorem g_block {id : Nat} {c : Code} (h : G P fn R n (.code c :: .blk id :: ks) l w) : G P fn R n (.code (.block id c) :: ks) l w := fun a ha => wp_block (h a ha)
theorem g_scope {c : Code} (h : G P fn R n (.code c :: .sc :: ks) l w) : G P fn R n (.code (.scope c) :: ks) l w := fun a ha => wp_scope_straight (h a ha)
theorem g_sc (h : G P fn R n ks l w) : G P fn R n (.sc :: ks) l w := fun a ha => h a ha
theorem g_blk {id : Nat} (h : G P fn R n ks l w) : G P fn R n (.blk id :: ks) l w := fun a ha => h a ha

def popE (id : Nat) : List Kt → Option (List Kt)
  | [] => none
  | .code _ :: ks => popE id ks
  | .blk j :: ks => bif Nat.beq id j then some ks else popE id ks
  | .lp _ :: ks => popE id ks
  | .sc :: ks => popE id ks
theorem qk_exit {id : Nat} {a : Act} : ∀ {ks ks' : List Kt}, popE id ks = some ks' → QK P fn R ks' .normal a w → QK P fn R ks (.exit id) a w
  | [], _, h, _ => by cases h
  | .code _ :: ks, _, h, hq => qk_exit (ks := ks) h hq
  | .lp _ :: ks, _, h, hq => qk_exit (ks := ks) h hq
  | .sc :: ks, _, h, hq => qk_exit (ks := ks) h hq
  | .blk j :: ks, ks', h, hq => by
    unfold popE at h
    by_cases e : id = j
    · subst e
      simp at h
      subst h
      show Exit.inBlock id _ (.exit id) a w
      simp only [Exit.inBlock, if_true]
      exact hq
    · have : Nat.beq id j = false := Bool.eq_false_iff.2 fun h' => e (Nat.eq_of_beq_eq_true h')
      rw [this] at h
      show Exit.inBlock j _ (.exit id) a w
      simp only [Exit.inBlock, if_neg e]
      exact qk_exit (ks := ks) h hq
theorem g_exit {id : Nat} {ks' : List Kt} (hp : popE id ks = some ks') (h : G P fn R n ks' l w) : G P fn R n (.code (.exit id) :: ks) l w :=
  fun a ha => wp_exit (qk_exit hp (h a ha))
theorem qk_ret {a : Act} (h : bodyPost P fn R .ret a w) : ∀ {ks : List Kt}, QK P fn R ks .ret a w
  | [] => h
  | .code _ :: ks => qk_ret h (ks := ks)
  | .blk _ :: ks => qk_ret h (ks := ks)
  | .lp _ :: ks => qk_ret h (ks := ks)
  | .sc :: ks => qk_ret h (ks := ks)

/-- The results, read off what is told. -/
def rvs (l : List (Nat × Value)) : List ResultVar → Option Value
  | [] => some (.tuple #[])
  | [.tmp t] => look l t
  | [.tmp t, .tmp u] => match look l t, look l u with
    | some v, some x => some (.tuple #[v, x])
    | _, _ => none
  | [.tmp t, .tmp u, .tmp s] => match look l t, look l u, look l s with
    | some v, some x, some y => some (.tuple #[v, x, y])
    | _, _, _ => none
  | _ => none
theorem results_of {rs : Array ResultVar} {v : Value} {a : Act} (hr : fn.results = rs) (ha : Fr n l a) (hv : rvs l rs.toList = some v) :
    (results fn a.tmps).run P w = .ok v w := by
  obtain ⟨rs⟩ := rs
  simp only at hv
  unfold rvs at hv
  split at hv
  · simp only [Option.some.injEq] at hv; subst hv; simp [results, hr]
  · simp [results, hr, ha.at_ _ v hv]
  · split at hv
    · rename_i h1 h2; simp only [Option.some.injEq] at hv; subst hv; simp [results, hr, ha.at_ _ _ h1, ha.at_ _ _ h2]
    · cases hv
  · split at hv
    · rename_i h1 h2 h3; simp only [Option.some.injEq] at hv; subst hv; simp [results, hr, ha.at_ _ _ h1, ha.at_ _ _ h2, ha.at_ _ _ h3]
    · cases hv
  · cases hv
theorem g_ret {rs : Array ResultVar} {v : Value} (hr : fn.results = rs) (hv : rvs l rs.toList = some v) (h : R (.returned v) w) :
    G P fn R n (.code .ret :: ks) l w := fun _ ha => wp_ret (qk_ret ⟨ha.defers, _, results_of hr ha hv, h⟩)
theorem g_end {rs : Array ResultVar} {v : Value} (hr : fn.results = rs) (hv : rvs l rs.toList = some v) (h : R (.returned v) w) :
    G P fn R n [] l w := fun _ ha => ⟨ha.defers, _, results_of hr ha hv, h⟩

theorem g_cond {c : Operand} {x y : Code} {b : Bool} (hc : opv l c = some (.bool b)) (ht : b = true → G P fn R n (.code x :: ks) l w) (hf : b = false → G P fn R n (.code y :: ks) l w) :
    G P fn R n (.code (.cond c x y) :: ks) l w := fun a ha => wp_cond_split (ha.eval hc) (fun h => ht h a ha) (fun h => hf h a ha)
theorem g_if {c : Operand} {x y : Code} {p : Prop} [Decidable p] (hc : opv l c = some (.bool (decide p))) (ht : p → G P fn R n (.code x :: ks) l w) (hf : ¬ p → G P fn R n (.code y :: ks) l w) :
    G P fn R n (.code (.cond c x y) :: ks) l w := g_cond hc (fun h => ht (of_decide_eq_true h)) (fun h => hf (of_decide_eq_false h))
theorem g_true {c : Operand} {x y : Code} (hc : opv l c = some (.bool true)) (ht : G P fn R n (.code x :: ks) l w) : G P fn R n (.code (.cond c x y) :: ks) l w := g_cond hc (fun _ => ht) (fun h => by cases h)
theorem g_false {c : Operand} {x y : Code} (hc : opv l c = some (.bool false)) (hf : G P fn R n (.code y :: ks) l w) : G P fn R n (.code (.cond c x y) :: ks) l w := g_cond hc (fun h => by cases h) (fun _ => hf)

/-- A loop: at each round's head some s with J s; each round comes to a smaller one. -/
theorem g_loop {σ : Type} (M : σ → Nat) (fr : σ → List (Nat × Value)) (J : σ → World → Prop) {c : Code} (s0 : σ) (h0 : J s0 w) (hs : Sub l (fr s0))
    (round : ∀ s w, J s w → G P fn R n (.code c :: .lp (fun a' w' => ∃ s', M s' < M s ∧ Fr n (fr s') a' ∧ J s' w') :: ks) (fr s) w) : G P fn R n (.code (.loop c) :: ks) l w := by
  classical
  intro a ha
  let I : Act → World → Prop := fun a w => ∃ s, Fr n (fr s) a ∧ J s w
  let below : Act → World → Nat → Prop := fun a w m => ∃ s, M s = m ∧ Fr n (fr s) a ∧ J s w
  let μ : Act → World → Nat := fun a w => if h : ∃ m, below a w m then Classical.choose (show ∃ m, below a w m ∧ ∀ k, k < m → ¬ below a w k from by
      obtain ⟨m, hm⟩ := h
      induction m using Nat.strongRecOn with
      | _ m ih =>
        by_cases hk : ∃ k, k < m ∧ below a w k
        · obtain ⟨k, hk, hb⟩ := hk; exact ih k hk hb
        · exact ⟨m, hm, fun k h1 h2 => hk ⟨k, h1, h2⟩⟩) else 0
  have hμ : ∀ a w, (∃ m, below a w m) → below a w (μ a w) ∧ ∀ k, k < μ a w → ¬ below a w k := by
    intro a w h
    show below a w (dite _ _ _) ∧ ∀ k, k < dite _ _ _ → _
    rw [dif_pos h]
    exact Classical.choose_spec (p := fun m => below a w m ∧ ∀ k, k < m → ¬ below a w k) _
  refine wp_loop I μ ⟨s0, ha.sub hs, h0⟩ ?_
  rintro a w ⟨s, hf, hj⟩
  obtain ⟨⟨s1, hm1, hf1, hj1⟩, _⟩ := hμ a w ⟨M s, s, rfl, hf, hj⟩
  refine Code.wp_mono ?_ (round s1 w hj1 a hf1)
  intro e a' w' hq
  cases e with
  | normal =>
    obtain ⟨s', hlt, hf', hj'⟩ := hq
    refine ⟨⟨s', hf', hj'⟩, ?_⟩
    obtain ⟨_, hle⟩ := hμ a' w' ⟨M s', s', rfl, hf', hj'⟩
    have : ¬ M s' < μ a' w' := fun h => hle _ h ⟨s', rfl, hf', hj'⟩
    omega
  | exit id => exact hq
  | goto l => exact hq
  | ret => exact hq
  | panic c => exact hq
  | outgrown => exact hq
theorem g_lp {I : Act → World → Prop} (h : ∀ a, Fr n l a → I a w) : G P fn R n (.lp I :: ks) l w := h
end

/-! ### Regions and operations -/
section
variable {P : Program} {fn : Func} {R : Ending → World → Prop} {n : Nat} {ks : List Kt} {l : List (Nat × Value)} {w : World} {ops : Array Oper}

/-- The operations that are left of a region that keeps its order. -/
def L (P : Program) (fn : Func) (R : Ending → World → Prop) (n : Nat) (ops : Array Oper) (rest : List Oper) (ks : List Kt) (l : List (Nat × Value)) (w : World) : Prop :=
  ∀ a, Fr n l a → wpList P ops (QK P fn R ks) rest a w
theorem g_reg {id : Nat} {os : List Oper} (h : L P fn R n os.toArray os ks l w) : G P fn R n (.code (.region id os.toArray false) :: ks) l w := fun a ha => wp_region_lit (h a ha)
theorem l_nil (h : G P fn R n ks l w) : L P fn R n ops [] ks l w := fun a ha => wpList_nil (h a ha)

/-- In every world of C the operation yields v and leaves the world as it is. -/
def Y (P : Program) (C : World → Prop) (l : List (Nat × Value)) (o : Oper) (v : Value) : Prop :=
  ∀ ρ : Operand → Value, (∀ x u, opv l x = some u → ρ x = u) → ∀ w, C w → (execOp ρ o).run P w = .ok (.value v) w

theorem wanted_none {o : Oper} (hg : o.guard = none) (a : Act) : Region.wanted o (yielded ops a.tmps) = true := by simp [Region.wanted, hg]
theorem wpList_run {o : Oper} {rest : List Oper} {a : Act} {Q : Exit → Act → World → Prop} {v : Value} {w' : World} (hg : o.guard = none) (hr : (execOp a.eval o).run P w = .ok (.value v) w')
    (h : wpList P ops Q rest (a.put o.dst v) w') : wpList P ops Q (o :: rest) a w :=
  wpList_plain hg fun K hK => by unfold Oper.wp; rw [hr]; exact hK _ _ h
theorem wpList_skip' {o : Oper} {rest : List Oper} {a : Act} {Q : Exit → Act → World → Prop} {w' : World} (hg : o.guard = none) (hr : (execOp a.eval o).run P w = .ok .skip w')
    (h : wpList P ops Q rest (a.put o.dst undef) w') : wpList P ops Q (o :: rest) a w :=
  wpList_plain hg fun K hK => by unfold Oper.wp; rw [hr]; exact hK _ _ h
theorem wpList_enter {o : Oper} {rest : List Oper} {a : Act} {Q : Exit → Act → World → Prop} {f : FuncId} {args : Array Value} {S : Ending → World → Prop} (hg : o.guard = none)
    (hr : (execOp a.eval o).run P w = .ok (.enter f args) w) (hc : Calls P f args w S) (hS : ∀ e w', S e w' → ∃ v, e = .returned v)
    (h : ∀ v w', S (.returned v) w' → wpList P ops Q rest (a.put o.dst v) w') : wpList P ops Q (o :: rest) a w :=
  wpList_plain hg fun K hK => by
    unfold Oper.wp; rw [hr]
    refine hc.mono fun e w' he => ?_
    obtain ⟨v, rfl⟩ := hS e w' he
    exact hK _ _ (h v w' he)

/-- One operation that yields v. -/
theorem l_y {d : Nat} {op : Op} {ty : TypeId} {pos : String} {af : Array Edge} {rest : List Oper} {v : Value} (hy : Y P (· = w) l ⟨some d, op, ty, pos, af, none⟩ v) (hd : Nat.blt d n = true)
    (h : L P fn R n ops rest ks ((d, v) :: l) w) : L P fn R n ops (⟨some d, op, ty, pos, af, none⟩ :: rest) ks l w :=
  fun a ha => wpList_run rfl (hy a.eval (fun _ _ hx => ha.eval hx) w rfl) (h _ (ha.put hd v))

section ops
variable {C : World → Prop} {dst : Option Nat} {ty : TypeId} {pos : String} {af : Array Edge} {gd : Option (Nat × Bool)} {x y : Operand}
theorem y_move {v : Value} (hx : opv l x = some v) : Y P C l ⟨dst, .move x, ty, pos, af, gd⟩ v := fun ρ hρ w _ => by simp [execOp, hρ x v hx]
theorem y_assign {v : Value} (hx : opv l x = some v) : Y P C l ⟨dst, .assign x, ty, pos, af, gd⟩ v := fun ρ hρ w _ => by simp [execOp, hρ x v hx]
theorem y_pick {b : Bool} {c : Operand} {v u : Value} (hc : opv l c = some (.bool b)) (hx : opv l x = some v) (hy : opv l y = some u) : Y P C l ⟨dst, .pick c x y, ty, pos, af, gd⟩ (if b then v else u) :=
  fun ρ hρ w _ => by cases b <;> simp [execOp, hρ c _ hc, hρ x _ hx, hρ y _ hy, asBool]
theorem y_not {t : TypeId} {b : Bool} (hx : opv l x = some (.bool b)) : Y P C l ⟨dst, .unOp .not t x, ty, pos, af, gd⟩ (.bool !b) := fun ρ hρ w _ => by simp [execOp, hρ x _ hx, Op.unary]
theorem y_neg {t : TypeId} {k : IntKind} {m : Int} (hx : opv l x = some (.int k m)) : Y P C l ⟨dst, .unOp .neg t x, ty, pos, af, gd⟩ (.int k (k.wrap (0 - m))) := fun ρ hρ w _ => by simp [execOp, hρ x _ hx, Op.unary, Op.intArith]

/-- An operation on two values. -/
theorem y_bin {op : BinOp} {t u : TypeId} {v z r : Value} (hx : opv l x = some v) (hy : opv l y = some z) (hg : eqGuard op t x y v z = pure ()) (hr : ∀ w, (binOp op t v z).run P w = .ok r w) : Y P C l ⟨dst, .binOp op t x y u, ty, pos, af, gd⟩ r :=
  fun ρ hρ w _ => by simp [execOp, hρ x _ hx, hρ y _ hy, hg, hr]
variable {t u : TypeId} {k : IntKind} {m m' : Int}
theorem y_add (hx : opv l x = some (.int k m)) (hy : opv l y = some (.int k m')) : Y P C l ⟨dst, .binOp .add t x y u, ty, pos, af, gd⟩ (.int k (k.wrap (m + m'))) := y_bin hx hy rfl fun w => by simp [binOp_add, Op.intArith]
theorem y_sub (hx : opv l x = some (.int k m)) (hy : opv l y = some (.int k m')) : Y P C l ⟨dst, .binOp .sub t x y u, ty, pos, af, gd⟩ (.int k (k.wrap (m - m'))) := y_bin hx hy rfl fun w => by simp [binOp_sub, Op.intArith]
theorem y_mul (hx : opv l x = some (.int k m)) (hy : opv l y = some (.int k m')) : Y P C l ⟨dst, .binOp .mul t x y u, ty, pos, af, gd⟩ (.int k (k.wrap (m * m'))) := y_bin hx hy rfl fun w => by simp [binOp_mul, Op.intArith]
theorem wrap_id {z : Int} (h : -9223372036854775808 ≤ z ∧ z ≤ 9223372036854775807) : IntKind.i64.wrap z = z := by rw [IntKind.wrap_i64]; omega
theorem y_addN (hx : opv l x = some (.int .i64 m)) (hy : opv l y = some (.int .i64 m')) (hb : -9223372036854775808 ≤ m + m' ∧ m + m' ≤ 9223372036854775807) : Y P C l ⟨dst, .binOp .add t x y u, ty, pos, af, gd⟩ (.int .i64 (m + m')) := by
  have := y_add (P := P) (C := C) (dst := dst) (ty := ty) (pos := pos) (af := af) (gd := gd) (t := t) (u := u) hx hy; rwa [wrap_id hb] at this
theorem y_subN (hx : opv l x = some (.int .i64 m)) (hy : opv l y = some (.int .i64 m')) (hb : -9223372036854775808 ≤ m - m' ∧ m - m' ≤ 9223372036854775807) : Y P C l ⟨dst, .binOp .sub t x y u, ty, pos, af, gd⟩ (.int .i64 (m - m')) := by
  have := y_sub (P := P) (C := C) (dst := dst) (ty := ty) (pos := pos) (af := af) (gd := gd) (t := t) (u := u) hx hy; rwa [wrap_id hb] at this
theorem y_mulN (hx : opv l x = some (.int .i64 m)) (hy : opv l y = some (.int .i64 m')) (hb : -9223372036854775808 ≤ m * m' ∧ m * m' ≤ 9223372036854775807) : Y P C l ⟨dst, .binOp .mul t x y u, ty, pos, af, gd⟩ (.int .i64 (m * m')) := by
  have := y_mul (P := P) (C := C) (dst := dst) (ty := ty) (pos := pos) (af := af) (gd := gd) (t := t) (u := u) hx hy; rwa [wrap_id hb] at this
theorem y_quo (hx : opv l x = some (.int k m)) (hy : opv l y = some (.int k m')) (h0 : m' ≠ 0) : Y P C l ⟨dst, .binOp .quo t x y u, ty, pos, af, gd⟩ (.int k (k.wrap (m.tdiv m'))) := y_bin hx hy rfl fun w => by simp [binOp_quo, Op.intDiv, h0]
theorem y_rem (hx : opv l x = some (.int k m)) (hy : opv l y = some (.int k m')) (h0 : m' ≠ 0) : Y P C l ⟨dst, .binOp .rem t x y u, ty, pos, af, gd⟩ (.int k (m.tmod m')) := y_bin hx hy rfl fun w => by simp [binOp_rem, Op.intDiv, h0]
/-- The quotient of numbers that are not negative. -/
theorem y_quoN {k : IntKind} {m m' : Int} (hx : opv l x = some (.int k m)) (hy : opv l y = some (.int k m')) (h0 : 0 ≤ m) (h1 : 0 < m') (hw : k.wrap (m / m') = m / m') : Y P C l ⟨dst, .binOp .quo t x y u, ty, pos, af, gd⟩ (.int k (m / m')) := by
  have := y_quo (P := P) (C := C) (dst := dst) (ty := ty) (pos := pos) (af := af) (gd := gd) (t := t) (u := u) hx hy (by omega)
  rwa [Int.tdiv_eq_ediv_of_nonneg h0, hw] at this
theorem y_remN {k : IntKind} {m m' : Int} (hx : opv l x = some (.int k m)) (hy : opv l y = some (.int k m')) (h0 : 0 ≤ m) (h1 : 0 < m') : Y P C l ⟨dst, .binOp .rem t x y u, ty, pos, af, gd⟩ (.int k (m % m')) := by
  have := y_rem (P := P) (C := C) (dst := dst) (ty := ty) (pos := pos) (af := af) (gd := gd) (t := t) (u := u) hx hy (by omega)
  rwa [Int.tmod_eq_emod_of_nonneg h0] at this
theorem y_and (hx : opv l x = some (.int k m)) (hy : opv l y = some (.int k m')) : Y P C l ⟨dst, .binOp .and t x y u, ty, pos, af, gd⟩ (.int k (bits .and k m m')) := y_bin hx hy rfl fun w => by simp [binOp_and, intBits_and]
theorem y_or (hx : opv l x = some (.int k m)) (hy : opv l y = some (.int k m')) : Y P C l ⟨dst, .binOp .or t x y u, ty, pos, af, gd⟩ (.int k (bits .or k m m')) := y_bin hx hy rfl fun w => by simp [binOp_or, intBits_or]
theorem y_xor (hx : opv l x = some (.int k m)) (hy : opv l y = some (.int k m')) : Y P C l ⟨dst, .binOp .xor t x y u, ty, pos, af, gd⟩ (.int k (bits .xor k m m')) := y_bin hx hy rfl fun w => by simp [binOp_xor, intBits_xor]
theorem y_lss (hx : opv l x = some (.int k m)) (hy : opv l y = some (.int k m')) : Y P C l ⟨dst, .binOp .lss t x y u, ty, pos, af, gd⟩ (.bool (decide (m < m'))) := y_bin hx hy rfl fun w => by simp [binOp_lss]
theorem y_leq (hx : opv l x = some (.int k m)) (hy : opv l y = some (.int k m')) : Y P C l ⟨dst, .binOp .leq t x y u, ty, pos, af, gd⟩ (.bool (decide (m ≤ m'))) := y_bin hx hy rfl fun w => by simp [binOp_leq]
theorem y_gtr (hx : opv l x = some (.int k m)) (hy : opv l y = some (.int k m')) : Y P C l ⟨dst, .binOp .gtr t x y u, ty, pos, af, gd⟩ (.bool (decide (m' < m))) := y_bin hx hy rfl fun w => by simp [binOp_gtr]
theorem y_geq (hx : opv l x = some (.int k m)) (hy : opv l y = some (.int k m')) : Y P C l ⟨dst, .binOp .geq t x y u, ty, pos, af, gd⟩ (.bool (decide (m' ≤ m))) := y_bin hx hy rfl fun w => by simp [binOp_geq]
theorem y_eql (hx : opv l x = some (.int k m)) (hy : opv l y = some (.int k m')) : Y P C l ⟨dst, .binOp .eql t x y u, ty, pos, af, gd⟩ (.bool (decide (m = m'))) := y_bin hx hy (eqGuard_at_int _ _ _ _ _ _ _) fun w => by simp only [binOp_eql]; rfl
theorem y_neq (hx : opv l x = some (.int k m)) (hy : opv l y = some (.int k m')) : Y P C l ⟨dst, .binOp .neq t x y u, ty, pos, af, gd⟩ (.bool (decide (m ≠ m'))) := y_bin hx hy (eqGuard_at_int _ _ _ _ _ _ _) fun w => by
  simp only [binOp_neq, Sem.run_pure]
  congr 2
  rw [Bool.eq_iff_iff]; simp
theorem y_shl {k k' : IntKind} (hx : opv l x = some (.int k m)) (hy : opv l y = some (.int k' m')) (h0 : 0 ≤ m') (h1 : m' ≤ k.bits) : Y P C l ⟨dst, .binOp .shl t x y u, ty, pos, af, gd⟩ (.int k (k.wrap (m * 2 ^ m'.toNat))) := y_bin hx hy rfl fun w => by rw [binOp_shl, shift_shl _ _ _ _ h0 h1]; rfl
theorem y_shr {k k' : IntKind} (hx : opv l x = some (.int k m)) (hy : opv l y = some (.int k' m')) (h0 : 0 ≤ m') (h1 : m' ≤ k.bits) : Y P C l ⟨dst, .binOp .shr t x y u, ty, pos, af, gd⟩ (.int k (m / 2 ^ m'.toNat)) := y_bin hx hy rfl fun w => by rw [binOp_shr, shift_shr _ _ _ _ h0 h1]; rfl

variable {s s' : ByteArray}
theorem y_cat (hx : opv l x = some (.string s)) (hy : opv l y = some (.string s')) (hb : s.size + s'.size ≤ 9223372036854775807) : Y P C l ⟨dst, .binOp .add t x y u, ty, pos, af, gd⟩ (.string (s ++ s')) := y_bin hx hy rfl fun w => by
  have : ¬ ((s.size + s'.size : Nat) : Int) > IntKind.i64.max := by rw [IntKind.max_i64]; omega
  simp only [binOp, Op.stringOp]; rw [if_neg this]; rfl
theorem y_seq (hx : opv l x = some (.string s)) (hy : opv l y = some (.string s')) : Y P C l ⟨dst, .binOp .eql t x y u, ty, pos, af, gd⟩ (.bool (s.toList == s'.toList)) := y_bin hx hy (eqGuard_at_string _ _ _ _ _ _) fun _ => rfl
theorem y_sne (hx : opv l x = some (.string s)) (hy : opv l y = some (.string s')) : Y P C l ⟨dst, .binOp .neq t x y u, ty, pos, af, gd⟩ (.bool !(s.toList == s'.toList)) := y_bin hx hy (eqGuard_at_string _ _ _ _ _ _) fun _ => rfl
theorem y_slt (hx : opv l x = some (.string s)) (hy : opv l y = some (.string s')) : Y P C l ⟨dst, .binOp .lss t x y u, ty, pos, af, gd⟩ (.bool (Op.bytesLess s.toList s'.toList)) := y_bin hx hy rfl fun _ => rfl
theorem y_sle (hx : opv l x = some (.string s)) (hy : opv l y = some (.string s')) : Y P C l ⟨dst, .binOp .leq t x y u, ty, pos, af, gd⟩ (.bool (Op.bytesLess s.toList s'.toList || s.toList == s'.toList)) := y_bin hx hy rfl fun _ => rfl
theorem y_sge (hx : opv l x = some (.string s)) (hy : opv l y = some (.string s')) : Y P C l ⟨dst, .binOp .geq t x y u, ty, pos, af, gd⟩ (.bool !(Op.bytesLess s.toList s'.toList)) := y_bin hx hy rfl fun _ => rfl
end ops
end
end Go.Proofs.YtehfgmagmnjffaaGreatDoor.E
