/-
  Walks of functions: what each call comes to.
-/
import Derived.Test.YtehfgmagmnjffaaGreatDoorHeads
import Derived.Test.YtehfgmagmnjffaaGreatDoorRows
import Derived.Test.YtehfgmagmnjffaaGreatDoorCards
import Derived.Test.YtehfgmagmnjffaaGreatDoorTie
import Derived.ProofKit
import Derived.OpenShut
import Derived.Deep.DeepWitnessRowRef
import Derived.Lib.LaidTab
import Derived.Lib.LaidIn
import Derived.Lib.LaidU8
import Derived.Stop.LaidErr
import Derived.WideKeyArgs
import Derived.ChangeSame
namespace Go.Proofs.YtehfgmagmnjffaaGreatDoor.RowHeads
open Go Go.RowKit Go.Proofs.YtehfgmagmnjffaaGreatDoor.E Go.Proofs.YtehfgmagmnjffaaGreatDoor.Pl Go.Proofs.YtehfgmagmnjffaaGreatDoor Go.Proofs.YtehfgmagmnjffaaGreatDoor.Env Go.ChangeShapes Go.WideShapes Go.ChangeAt Go.Stop
theorem hmix : Tryz.prog.follows .mixedOrders = true := by kernel_rfl

theorem own : ownKnob Tryz.prog.godebug = none := by kernel_rfl
theorem star : "*" ++ "errors.errorString" = "*errors.errorString" := by decide
theorem rowE (u : TypeId) (h : Tryz.prog.typeName? 3 u = some "*errors.errorString") : u = 217 :=
  typeName_ptr_named (nm := "errors.errorString") (by rw [star]; kernel_rfl) (by kernel_rfl) (by decide) u (by rw [star]; exact h)
theorem laidOut : laidOutB Tryz.prog = true := by kernel_rfl
set_option maxRecDepth 1000000 in
/-- What the laid variables hold gives the walks' premise. -/
theorem env_of {W : World} (hL : laidMetH Tryz.prog Rows.noteHeadsRow.laid W) (hs : W.ShapedOpen Tryz.prog) : Env W := by
  have hL' : laidMet Tryz.prog Rows.noteHeadsRow.laid W := hL
  obtain ⟨a0, t0, hv0, _⟩ := laid_sentinel (g := 2) hL'.tail.tail.tail.tail (by kernel_rfl) (by kernel_rfl) Tryz.underlying31 rowE Tryz.underlying217 Tryz.underlying219 rfl rfl Tryz.underlying9 (by kernel_rfl) (by kernel_rfl)
  obtain ⟨a1, t1, hv1, _⟩ := laid_sentinel (g := 1) hL'.tail.tail.tail.tail.tail (by kernel_rfl) (by kernel_rfl) Tryz.underlying31 rowE Tryz.underlying217 Tryz.underlying219 rfl rfl Tryz.underlying9 (by kernel_rfl) (by kernel_rfl)
  exact ⟨Lib.tabIs_of_head (g := 3) (zs := Lib.pow10Tab) (by kernel_rfl) (by kernel_rfl) Tryz.underlying206 Tryz.underlying165 (by kernel_rfl) (by kernel_rfl) (show laidMet Tryz.prog (("internal/strconv.uint64pow10", Lib.tabData .u64 Lib.pow10Tab) :: _) W from hL'.tail.tail), ⟨_, _, hv1⟩, ⟨_, _, hv0⟩, Tryz.laysM146.s1_3 W hs⟩
set_option maxRecDepth 1000000 in
theorem ctHd : Tryz.prog.cellTypes Tryz.prog.depth 27 = some (9 :: 3 :: 3 :: List.replicate 96 5) := by kernel_rfl
def toB : Value → UInt8
  | .int _ n => UInt8.ofNat n.toNat
  | _ => 0
set_option maxRecDepth 1000000 in
theorem cell_u8 {w : World} {base : Nat} {v : Value} (h : Cell.okWide Tryz.prog w .any base 5 v) : v = bc (toB v) := by
  simp only [Cell.okWide, Tryz.underlying5] at h
  cases v <;> simp [Cell.ok, Tryz.underlying5] at h
  obtain ⟨rfl, h1⟩ := h
  rename_i n
  have e1 : IntKind.u8.min = 0 := rfl
  have e2 : IntKind.u8.max = 255 := rfl
  have h2 : 0 ≤ n ∧ n ≤ 255 := by
    obtain ⟨ha, hb⟩ : IntKind.u8.min ≤ n ∧ n ≤ IntKind.u8.max := by simpa [IntKind.has] using h1
    omega
  show Value.int .u8 n = Value.int .u8 _
  congr 1
  show n = ((UInt8.ofNat n.toNat).toNat : Int)
  rw [u8_nat (by omega)]; omega
set_option maxRecDepth 1000000 in
theorem cell_int {w : World} {base : Nat} {v : Value} (h : Cell.okWide Tryz.prog w .any base 3 v) : ∃ n, v = .int .i64 n := by
  simp only [Cell.okWide, Tryz.underlying3] at h
  cases v <;> simp [Cell.ok, Tryz.underlying3] at h
  obtain ⟨rfl, _⟩ := h
  exact ⟨_, rfl⟩
set_option maxRecDepth 1000000 in
theorem cell_str {w : World} {base : Nat} {v : Value} (h : Cell.okWide Tryz.prog w .any base 9 v) : ∃ s, v = .string s := by
  simp only [Cell.okWide, Tryz.underlying9] at h
  cases v <;> simp [Cell.ok, Tryz.underlying9] at h
  exact ⟨_, rfl⟩
theorem bytes_of {l : List Value} (h : ∀ v ∈ l, v = bc (toB v)) : l = (l.map toB).map bc := by
  induction l with
  | nil => rfl
  | cons v l ih =>
    rw [List.map_cons, List.map_cons, ← ih (fun u hu => h u (List.mem_cons_of_mem _ hu)), ← h v List.mem_cons_self]
set_option maxRecDepth 1000000 in
theorem hd_cons {w : World} {base : Nat} (a b c : Value) (r : List Value) (hr : r.length = 96) (hc : ∀ (i : Nat) v, (a :: b :: c :: r).toArray[i]? = some v → ∃ u, (9 :: 3 :: 3 :: List.replicate 96 5 : List Nat)[i % (9 :: 3 :: 3 :: List.replicate 96 5 : List Nat).length]? = some u ∧ Cell.okWide Tryz.prog w .any base u v) : ∃ hd : Hd, Value.agg (a :: b :: c :: r).toArray = hd.val := by
  have hlen : (9 :: 3 :: 3 :: List.replicate 96 5 : List Nat).length = 99 := by simp
  obtain ⟨u0, hu0, h0⟩ := hc 0 a (by simp)
  obtain ⟨u1, hu1, h1⟩ := hc 1 b (by simp)
  obtain ⟨u2, hu2, h2⟩ := hc 2 c (by simp)
  rw [hlen] at hu0 hu1 hu2
  injection hu0 with hu0; subst hu0
  injection hu1 with hu1; subst hu1
  injection hu2 with hu2; subst hu2
  obtain ⟨s, rfl⟩ := cell_str h0
  obtain ⟨n1, rfl⟩ := cell_int h1
  obtain ⟨n2, rfl⟩ := cell_int h2
  have hb : ∀ v ∈ r, v = bc (toB v) := by
    intro v hv
    obtain ⟨i, hi, hiv⟩ := List.getElem_of_mem hv
    obtain ⟨u, hu, hk⟩ := hc (i + 3) v (by simp [hi, hiv])
    rw [hlen, Nat.mod_eq_of_lt (by omega)] at hu
    rw [show i + 3 = i + 1 + 1 + 1 from rfl, List.getElem?_cons_succ, List.getElem?_cons_succ, List.getElem?_cons_succ, List.getElem?_replicate, if_pos (by omega)] at hu
    injection hu with hu; subst hu
    exact cell_u8 hk
  have hrb := bytes_of hb
  refine ⟨{ o := s.data.toList, size := n1, time := n2, root := (r.map toB).take 32, sig := (r.map toB).drop 32, hr := by simp [hr], hs := by simp [hr] }, ?_⟩
  show Value.agg _ = Value.agg _
  simp only [Hd.cells]
  rw [← List.map_append, List.take_append_drop, ← hrb, ← S_of]
set_option maxRecDepth 1000000 in
theorem hd_of {w : World} {base : Nat} {v : Value} (h : Value.okWide Tryz.prog w .any base 27 v) : ∃ hd : Hd, v = hd.val := by
  simp only [Value.okWide, Tryz.underlying27] at h
  obtain ⟨cs, rfl, hs, ts, hts, _, hc⟩ := h
  rw [ctHd] at hts
  injection hts with hts
  subst hts
  have hs' : cs.size = 99 := hs.trans (by kernel_rfl)
  obtain ⟨l, rfl⟩ : ∃ l : List Value, cs = l.toArray := ⟨cs.toList, by simp⟩
  have hl : l.length = 99 := by simpa using hs'
  cases l with
  | nil => simp at hl
  | cons a l => cases l with
    | nil => simp at hl
    | cons b l => cases l with
      | nil => simp at hl
      | cons c r => exact hd_cons a b c r (by simpa using hl) hc
set_option maxRecDepth 1000000 in
/-- The law, lifted: whatever the world and the head. -/
theorem contract (H : Type) (enc : TypeId × Value → H) (W : World) (base : Nat) (args : Array Value) (ds gs : List (DataW H)) (before : List MemPlace)
    (hval : ∀ (j : Nat) t v, Tryz.f3.params[j]? = some t → args[j]? = some v → Value.okWide Tryz.prog W .any base t v)
    (hW : DataW.Whole enc Tryz.prog Tryz.f3.params.toList Rows.noteHeadsSpec.vars false W args.toList ds gs before) (hL : laidMetH Tryz.prog Rows.noteHeadsRow.laid W) (hs : W.ShapedOpen Tryz.prog) :
    Calls Tryz.prog 3 args W fun e W' => ∃ v, e = .returned v ∧ Rows.noteHeadsSpec.post enc Tryz.prog Tryz.f3 false true false false W args v W' := by
  have hW' := hW
  obtain ⟨p, q, hA0, hV, rfl, hfz, hnd⟩ := hW
  have hA : DataW.TrodAll enc Tryz.prog W 0 (fun _ => true) true Tryz.f3.params.toList args.toList ds p := hA0
  rw [Tryz.params3] at hA hval
  obtain ⟨v0, d0, rfl, rfl, h0⟩ := trodAll_one hA
  obtain ⟨rfl, rfl⟩ := trodVars_none hV
  obtain ⟨hd, rfl⟩ := hd_of (hval 0 27 v0 rfl rfl)
  have hlt : ∀ x ∈ p, x.block < W.heap.size := fun x hx => hW'.lt x (List.mem_append_left _ hx)
  refine (Heads.heads_any hd W (env_of hL hs)).mono fun e W' h => ?_
  obtain ⟨he, hg⟩ := h
  refine ⟨_, he, ?_⟩
  exact ⟨[d0], [], p ++ [], [], p, [], hW', trodAll_mk1 (shut_bool Tryz.underlying4 _), trodAll_mk1 (WideElems.Trod_stays laidOut (by kernel_rfl) (of_decide_eq_true (by kernel_rfl)) h0 (fun x hx => hg.same (hlt x hx)) (fun x hx => by simpa using hlt x hx)), rfl, hg.frame _, fun h => by cases h⟩

/-- A world for the witness: the variables as their initialisers lay them. -/
noncomputable def laidWorld (os : Os) : World :=
  let N := (World.settled Tryz.prog os).heap.size
  let w0 := World.holding Tryz.prog os ⟨#[.cells #[.string ⟨#[118, 97, 108, 117, 101, 32, 111, 117, 116, 32, 111, 102, 32, 114, 97, 110, 103, 101]⟩] 219, .cells #[.string ⟨#[105, 110, 118, 97, 108, 105, 100, 32, 115, 121, 110, 116, 97, 120]⟩] 219], #[], []⟩
  let put (h : Array Obj) (g : Nat) (cs : Array Value) : Array Obj := h.modify g fun
    | .cells _ t frozen => .cells cs t frozen
    | o => o
  let h0 := put w0.heap 2 #[.iface 217 (.pointer (some ⟨N, 0, none⟩))]
  let h1 := put h0 1 #[.iface 217 (.pointer (some ⟨N + 1, 0, none⟩))]
  let h2 := put h1 6 ([.int .u8 0, .int .u8 1, .int .u8 28, .int .u8 2, .int .u8 29, .int .u8 14, .int .u8 24, .int .u8 3, .int .u8 30, .int .u8 22, .int .u8 20, .int .u8 15, .int .u8 25, .int .u8 17, .int .u8 4, .int .u8 8, .int .u8 31, .int .u8 27, .int .u8 13, .int .u8 23, .int .u8 21, .int .u8 19, .int .u8 16, .int .u8 7, .int .u8 26, .int .u8 12, .int .u8 18, .int .u8 6, .int .u8 11, .int .u8 5, .int .u8 10, .int .u8 9] : List Value).toArray
  let h3 := put h2 7 ([.int .u8 0, .int .u8 1, .int .u8 56, .int .u8 2, .int .u8 57, .int .u8 49, .int .u8 28, .int .u8 3, .int .u8 61, .int .u8 58, .int .u8 42, .int .u8 50, .int .u8 38, .int .u8 29, .int .u8 17, .int .u8 4, .int .u8 62, .int .u8 47, .int .u8 59, .int .u8 36, .int .u8 45, .int .u8 43, .int .u8 51, .int .u8 22, .int .u8 53, .int .u8 39, .int .u8 33, .int .u8 30, .int .u8 24, .int .u8 18, .int .u8 12, .int .u8 5, .int .u8 63, .int .u8 55, .int .u8 48, .int .u8 27, .int .u8 60, .int .u8 41, .int .u8 37, .int .u8 16, .int .u8 46, .int .u8 35, .int .u8 44, .int .u8 21, .int .u8 52, .int .u8 32, .int .u8 23, .int .u8 11, .int .u8 54, .int .u8 26, .int .u8 40, .int .u8 15, .int .u8 34, .int .u8 20, .int .u8 31, .int .u8 10, .int .u8 25, .int .u8 14, .int .u8 19, .int .u8 9, .int .u8 13, .int .u8 8, .int .u8 7, .int .u8 6] : List Value).toArray
  let h4 := put h3 3 ([.int .u64 1, .int .u64 10, .int .u64 100, .int .u64 1000, .int .u64 10000, .int .u64 100000, .int .u64 1000000, .int .u64 10000000, .int .u64 100000000, .int .u64 1000000000, .int .u64 10000000000, .int .u64 100000000000, .int .u64 1000000000000, .int .u64 10000000000000, .int .u64 100000000000000, .int .u64 1000000000000000, .int .u64 10000000000000000, .int .u64 100000000000000000, .int .u64 1000000000000000000, .int .u64 10000000000000000000] : List Value).toArray
  let h5 := put h4 5 ([.int .u8 128, .int .u8 191, .int .u8 160, .int .u8 191, .int .u8 128, .int .u8 159, .int .u8 144, .int .u8 191, .int .u8 128, .int .u8 143, .int .u8 0, .int .u8 0, .int .u8 0, .int .u8 0, .int .u8 0, .int .u8 0, .int .u8 0, .int .u8 0, .int .u8 0, .int .u8 0, .int .u8 0, .int .u8 0, .int .u8 0, .int .u8 0, .int .u8 0, .int .u8 0, .int .u8 0, .int .u8 0, .int .u8 0, .int .u8 0, .int .u8 0, .int .u8 0] : List Value).toArray
  let h6 := put h5 4 (Go.Pinned.utf8FirstZ.map fun (z : Nat) => Value.int .u8 (z : Int)).toArray
  { w0 with heap := h6 }
noncomputable abbrev N0 : Nat := (World.settled Tryz.prog default).heap.size
set_option maxRecDepth 1000000 in
theorem laid_in (os : Os) (args : Array Value) : LaidIn Tryz.prog ((laidWorld os).forCall (fun _ _ => 0) ⟨#[], args, []⟩).memory Rows.noteHeadsRow.laid [6, 7, 3, 5, 2, N0, 1, N0 + 1, 4] :=
  LaidIn.of_run _ 8 (by kernel_rfl) (by kernel_rfl) (by kernel_rfl) (by kernel_rfl)
def arg0 : Value := (Parse.hd0 []).val
set_option maxRecDepth 1000000 in
theorem witness_row (os : Os) {H : Type} (enc : TypeId × Value → H) :
    (OpenSpec.ofChange Rows.noteHeadsSpec).preRow enc Tryz.prog Tryz.f3 Rows.noteHeadsRow.domain false Rows.noteHeadsRow.laid ((laidWorld os).forCall (fun _ _ => 0) ⟨#[], #[arg0], []⟩).memory #[arg0] := by
  have hw : (DataW.whole enc Tryz.prog ((laidWorld os).forCall (fun _ _ => 0) ⟨#[], #[arg0], []⟩).memory Tryz.f3.params.toList Rows.noteHeadsSpec.vars false #[arg0].toList 8).map (fun x => (x.1, x.2.1)) =
      some ([.agg [.lit (.string []), .lit (.int .i64 0), .lit (.int .i64 0), .agg (List.replicate 32 (.lit (.int .u8 0))), .agg (List.replicate 64 (.lit (.int .u8 0)))]], []) := by kernel_rfl
  obtain ⟨⟨x1, x2, x3⟩, hx, hx1⟩ := Option.map_eq_some_iff.1 hw
  simp only [Prod.mk.injEq] at hx1
  obtain ⟨rfl, rfl⟩ := hx1
  exact OpenSpec.preRow_of_cond 8 hx (by kernel_rfl) (fun k hk => by cases hk) (by kernel_rfl) (laid_in os _).met
set_option maxRecDepth 1000000 in
theorem lifted (os : Os) (started : os.Started) (H : Type) (enc : TypeId × Value → H) (F : Stop.Interp) :
    ReturnsInHanded {} Tryz.checked os 3 .any ((OpenSpec.ofChange Rows.noteHeadsSpec).preRow enc Tryz.prog Tryz.f3 Rows.noteHeadsRow.domain false Rows.noteHeadsRow.laid) (((OpenSpec.ofChange Rows.noteHeadsSpec).at F).post enc Tryz.prog Tryz.f3 false true false false) := by
  refine returnsInHanded_of_row (C := Tryz.checked) (s := OpenSpec.ofChange Rows.noteHeadsSpec) own started (by kernel_rfl) Tryz.func3
    (witness_row_atRef (enc := enc) (C := Tryz.checked) false (laidWorld os) #[arg0] rfl (by kernel_rfl) (by kernel_rfl) (by kernel_rfl) (witness_row os enc)) ?_
  intro W base args ds gs before hval hW _ _ _ hL hs _
  exact contract H enc W base args ds gs before hval hW hL hs
set_option maxRecDepth 1000000 in
theorem said : Rows.NoteHeadsSaid :=
  OpenClaim.holds_of_cond 3 Tryz.f3 rfl rfl rfl rfl rfl rfl rfl ⟨rfl, rfl, rfl, rfl, rfl⟩ rfl rfl rfl rfl rfl (by kernel_rfl) Tryz.func3 (by kernel_rfl)
    (of_decide_eq_true (by kernel_rfl)) (by unfold Func.isWrapper; first | (rw [if_pos (by decide +kernel)]; kernel_rfl) | (rw [if_neg (by decide +kernel)]; exact ⟨rfl, rfl⟩))
    (fun os started H enc _ F => by rw [OpenClaim.pre_eq_preRow]; exact lifted os started H enc F)
theorem plain (f : FuncId) (fn : Func) (hf : Tryz.pinned.checked.prog.funcNamed "cachet/cachetlaw21.NoteHeads" = some f) (hfn : Tryz.pinned.checked.prog.funcs[f]? = some fn) :
    true = Tryz.pinned.checked.prog.looks [] ∧ ∀ (j : Nat) t, fn.params[j]? = some t → Tryz.pinned.checked.prog.wantsStandIn t = false := by
  obtain rfl : f = 3 := Option.some.inj ((show Tryz.prog.funcNamed "cachet/cachetlaw21.NoteHeads" = some 3 by kernel_rfl).symm.trans hf) |>.symm
  obtain rfl : fn = Tryz.f3 := (Option.some.inj (Tryz.func3.symm.trans hfn)).symm
  refine ⟨by kernel_rfl, fun j t ht => ?_⟩
  rw [Tryz.params3] at ht
  obtain rfl : t = 27 := by simpa using Array.mem_of_getElem? ht
  exact (show Tryz.prog.wantsStandIn 27 = false by kernel_rfl)
/-- The card. -/
theorem card : Rows.NoteHeadsCardSaid :=
  Claim7.holds_tied_plain_at .later [] _ _ _ _ said (fun _ h => by cases h) (by kernel_rfl) (fun _ h => by cases h) noteHeads_row_tie rfl ⟨rfl, rfl⟩ (by kernel_rfl) rfl plain (by kernel_rfl)

end Go.Proofs.YtehfgmagmnjffaaGreatDoor.RowHeads
