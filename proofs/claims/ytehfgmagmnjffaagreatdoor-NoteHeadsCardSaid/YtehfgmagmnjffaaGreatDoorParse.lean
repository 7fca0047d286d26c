/-
  Walks of functions: what each call comes to.
-/
import Derived.Test.YtehfgmagmnjffaaGreatDoorNote
import Derived.Test.YtehfgmagmnjffaaGreatDoorDecode
import Derived.Test.YtehfgmagmnjffaaGreatDoorText
namespace Go.Proofs.YtehfgmagmnjffaaGreatDoor.Parse
open Go Go.RowKit Go.Proofs.YtehfgmagmnjffaaGreatDoor.E Go.Proofs.YtehfgmagmnjffaaGreatDoor.Pl Go.Proofs.YtehfgmagmnjffaaGreatDoor.Name Go.Proofs.YtehfgmagmnjffaaGreatDoor.Entry Go.Proofs.YtehfgmagmnjffaaGreatDoor.Num Go.Proofs.YtehfgmagmnjffaaGreatDoor.Check Go.Proofs.YtehfgmagmnjffaaGreatDoor.Coder Go.Proofs.YtehfgmagmnjffaaGreatDoor.Env Go.Proofs.YtehfgmagmnjffaaGreatDoor.Note Go.Proofs.YtehfgmagmnjffaaGreatDoor.Decode
theorem hmix : Tryz.prog.follows .mixedOrders = true := by kernel_rfl
theorem en8 : Enters Tryz.prog 8 := enters_of Tryz.func8 (by kernel_rfl) rfl
theorem en36 : Enters Tryz.prog 36 := enters_of Tryz.func36 (by kernel_rfl) rfl
theorem en37 : Enters Tryz.prog 37 := enters_of Tryz.func37 (by kernel_rfl) rfl
theorem en38 : Enters Tryz.prog 38 := enters_of Tryz.func38 (by kernel_rfl) rfl
theorem en39 : Enters Tryz.prog 39 := enters_of Tryz.func39 (by kernel_rfl) rfl
theorem en40 : Enters Tryz.prog 40 := enters_of Tryz.func40 (by kernel_rfl) rfl
theorem en41 : Enters Tryz.prog 41 := enters_of Tryz.func41 (by kernel_rfl) rfl
theorem szT3 : (Tryz.prog.info? 3).map (·.size) = some 1 := by kernel_rfl
theorem szT9 : (Tryz.prog.info? 9).map (·.size) = some 1 := by kernel_rfl
theorem szT23 : (Tryz.prog.info? 23).map (·.size) = some 32 := by kernel_rfl
theorem szT25 : (Tryz.prog.info? 25).map (·.size) = some 64 := by kernel_rfl
theorem szT27 : (Tryz.prog.info? 27).map (·.size) = some 99 := by kernel_rfl
theorem szT31 : (Tryz.prog.info? 31).map (·.size) = some 1 := by kernel_rfl
theorem szT68 : (Tryz.prog.info? 68).map (·.size) = some 4 := by kernel_rfl
theorem zT27 : ∀ w, (zeroValue 27).run Tryz.prog w = .ok (Value.agg (([Value.string ⟨#[]⟩] ++ [Value.int .i64 0] ++ [Value.int .i64 0] ++ (List.replicate 32 (Value.int .u8 0)) ++ (List.replicate 64 (Value.int .u8 0)))).toArray) w := fun _ => by kernel_rfl
theorem zT68 : ∀ w, (zeroValue 68).run Tryz.prog w = .ok (Value.agg ((List.replicate 4 (Value.nilIface))).toArray) w := fun _ => by kernel_rfl

def strs (l : List Bs) : List Value := l.map fun p => .string (S p)
theorem split_any (s : Bs) (w : World) (he : Env w) (hs : s.length ≤ 1000000) : Calls Tryz.prog 36 #[.string (S s), .string ⟨#[10]⟩] w fun e w' => ∃ v, e = .returned v ∧ Own w' w.heap.size 9 1 v (Lib.split s [10]).length (strs (Lib.split s [10])) ∧ Gr w w' := by
  obtain ⟨m, hm⟩ := he.most
  refine (Tryz.strings_Split (S s) ⟨#[10]⟩ m w (by rw [S_size]; omega) hm (by decide)).mono fun e w' h => ?_
  have hlen := Lib.splitB_all ⟨#[10]⟩ (by decide) 0 _ (S s) rfl
  have hdat := Lib.splitB_data ⟨#[10]⟩ 0 (Lib.countB (S s) ⟨#[10]⟩) (S s)
  have hsp : (Lib.splitB ⟨#[10]⟩ 0 (Lib.countB (S s) ⟨#[10]⟩) (S s)).map (·.data.toList) = Lib.split s [10] := by
    rw [hdat]; rfl
  have hcs : (Lib.splitB ⟨#[10]⟩ 0 (Lib.countB (S s) ⟨#[10]⟩) (S s)).map Value.string = strs (Lib.split s [10]) := by
    rw [← hsp]; simp [strs, S]
  have hl : Lib.countB (S s) ⟨#[10]⟩ + 1 = (Lib.split s [10]).length := by rw [← hsp, List.length_map, hlen]
  have hls : (strs (Lib.split s [10])).length = (Lib.split s [10]).length := by simp [strs]
  have hmx : (Lib.split s [10]).length ≤ maxLen := by
    rw [← hl]
    have := Lib.countB_le ⟨#[10]⟩ (by decide) _ (S s) (Nat.le_refl _)
    rw [S_size] at this
    simp only [maxLen]; omega
  rw [hl, hcs] at h
  obtain ⟨h1, rfl⟩ := h
  refine ⟨_, h1, ?_, gr_alloc w _⟩
  have := own_new (w := w) (e := 9) (m := (Lib.split s [10]).length) (size := 1) (cs := (strs (Lib.split s [10])).toArray) hmx (by simp [hls])
  simpa using this
theorem cut_any (s : Bs) (w : World) (he : Env w) (hs : s.length ≤ 1000000) : Calls Tryz.prog 37 #[.string (S s), .string ⟨#[32]⟩] w fun e w' => e = .returned (.tuple #[.string (S (Lib.cut s [32]).1), .string (S (Lib.cut s [32]).2.1), .bool (Lib.cut s [32]).2.2]) ∧ Gr w w' := by
  obtain ⟨m, hm⟩ := he.most
  refine (Tryz.strings_Cut (S s) ⟨#[32]⟩ m w (by rw [S_size]; omega) hm).mono fun e w' h => ⟨h.1, ?_⟩
  obtain ⟨_, n, rfl⟩ := h
  exact gr_drewN w n
theorem gr_bytes (w : World) (e : TypeId) (t : ByteArray) : Gr w (Lib.bytesWorld w e t) :=
  ⟨rfl, rfl, rfl, by rw [Lib.bytesWorld_size]; omega, fun k hk => Lib.bytesWorld_at_old w e t k hk⟩
theorem atoi_num (n : Nat) (hl : (number n).length ≤ 18) (w : World) : Calls Tryz.prog 38 #[.string (S (number n))] w fun e w' => e = .returned (.tuple #[.int .i64 n, .nilIface]) ∧ Gr w w' :=
  (Tryz.strconv_Atoi (S (number n)) n (by rw [S_size]; omega) (by
    have e1 : (S (number n)).data.toList = number n := by simp [S]
    rw [e1, atoi_number]) w).mono fun e w' h => ⟨h.1, by obtain ⟨_, t, rfl⟩ := h; exact gr_bytes _ _ _⟩
theorem str_at {w : World} {base : Nat} {v : Value} {l : List Bs} (h : Own w base 9 1 v l.length (strs l)) {k : Nat} {p : Bs} (hk : l[k]? = some p) : w.cell? ((adOf v).add ((k : Int).toNat * 1)) = some (.string (S p)) :=
  h.rc.at_ (by rw [show (k : Int).toNat * 1 = k from by simp]; simp [strs, hk])
/-- A head of a few fields. -/
def hd0 (o : Bs) : Hd := { o := o, size := 0, time := 0, root := zero32, sig := zero64, hr := zero32_len, hs := by simp [zero64] }
theorem Hd.one (h : Hd) : h.cells.all (·.oneCell') = true := by
  simp only [Hd.cells, List.all_cons, List.all_append, Decode.bytes_one, Bool.and_true]
  rfl
theorem Hd.set1 (h : Hd) (z : Int) : h.cells.toArray.setIfInBounds 1 (.int .i64 z) = ({ h with size := z } : Hd).cells.toArray := rfl
theorem Hd.set2 (h : Hd) (z : Int) : h.cells.toArray.setIfInBounds 2 (.int .i64 z) = ({ h with time := z } : Hd).cells.toArray := rfl
theorem Hd.setRoot (h : Hd) (r : Bs) (hr : r.length = 32) : (h.cells.toArray.toList.take 3 ++ r.map bc ++ h.cells.toArray.toList.drop (3 + (r.map bc).length)).toArray = ({ h with root := r, hr := hr } : Hd).cells.toArray := by
  apply Array.ext'
  show (Value.string (S h.o) :: .int .i64 h.size :: .int .i64 h.time :: (h.root.map bc ++ h.sig.map bc)).take 3 ++ r.map bc ++ (Value.string (S h.o) :: .int .i64 h.size :: .int .i64 h.time :: (h.root.map bc ++ h.sig.map bc)).drop (3 + (r.map bc).length) = Value.string (S h.o) :: .int .i64 h.size :: .int .i64 h.time :: (r.map bc ++ h.sig.map bc)
  have h2 : (h.root.map bc).drop 32 = [] := List.drop_of_length_le (by simp [h.hr])
  simp [List.take_append, List.drop_append, h.hr, hr, h2]
theorem Hd.setSig (h : Hd) (r : Bs) (hr : r.length = 64) : (h.cells.toArray.toList.take 35 ++ r.map bc ++ h.cells.toArray.toList.drop (35 + (r.map bc).length)).toArray = ({ h with sig := r, hs := hr } : Hd).cells.toArray := by
  apply Array.ext'
  show (Value.string (S h.o) :: .int .i64 h.size :: .int .i64 h.time :: (h.root.map bc ++ h.sig.map bc)).take 35 ++ r.map bc ++ (Value.string (S h.o) :: .int .i64 h.size :: .int .i64 h.time :: (h.root.map bc ++ h.sig.map bc)).drop (35 + (r.map bc).length) = Value.string (S h.o) :: .int .i64 h.size :: .int .i64 h.time :: (h.root.map bc ++ r.map bc)
  have h1 : (h.root.map bc).take 32 = h.root.map bc := List.take_of_length_le (by simp [h.hr])
  have h2 : (h.root.map bc).drop 96 = [] := List.drop_of_length_le (by simp [h.hr])
  have h3 : (h.sig.map bc).drop 64 = [] := List.drop_of_length_le (by simp [h.hs])
  simp [List.take_append, List.drop_append, h.hr, hr, h1, h2, h3]

theorem ix4 : ∀ (i : Nat), i < 4 → ∀ w : World, (Instr.index 68 (.agg #[.nilIface, .nilIface, .nilIface, .nilIface]) (.int .i64 (i : Nat))).run Tryz.prog w = .ok .nilIface w
  | 0, _ => fun _ => by kernel_rfl
  | 1, _ => fun _ => by kernel_rfl
  | 2, _ => fun _ => by kernel_rfl
  | 3, _ => fun _ => by kernel_rfl
  | k + 4, h => absurd h (by omega)
theorem Hd.made {h : Hd} (hg : h.Good) : ({ ({ ({ ({ hd0 h.o with size := (h.size.toNat : Int) } : Hd) with time := (h.time.toNat : Int) } : Hd) with root := h.root, hr := h.hr } : Hd) with sig := h.sig, hs := h.hs } : Hd) = h := by
  have h1 := Int.toNat_of_nonneg hg.s0
  have h2 := Int.toNat_of_nonneg hg.t0
  obtain ⟨o, size, time, root, sig, hr, hs⟩ := h
  simp only [hd0, Hd.mk.injEq, true_and, and_true]
  exact ⟨h1, h2⟩
theorem eqb_is (v u : Value) (s s' : Bs) {b : Bool} (hb : decide (s = s') = b) (w : World) (hv : Rc w 1 v s.length (s.map bc)) (hu : Rc w 1 u s'.length (s'.map bc)) (hs : s.length ≤ 1000000) : Calls Tryz.prog 41 #[v, u] w fun e w' => e = .returned (.bool b) ∧ Gr w w' :=
  (eqb_any v u s s' w hv hu hs).mono fun _ _ h => ⟨by rw [h.1, hb], h.2⟩
theorem parse_good (h : Hd) (v : Value) (w : World) (hb : h.good = true) (hg : h.Good) (he : Env w) (hv : Rc w 1 v h.text.length (h.text.map bc)) : Calls Tryz.prog 14 #[v] w fun e w' => e = .returned (.tuple #[h.val, .nilIface]) ∧ Gr w w' := by
  refine enter (vs := [v]) Tryz.func14 rfl Tryz.ntmps14 rfl ?_
  refine g_seq ?_
  refine g_reg ?_
  refine l_alloc zT27 rfl (fun w1 g1 hk1 hg1 hB1 => ?_)
  have hl1 : w.heap.size ≤ g1 := hg1
  have hgr := hk1
  refine l_y (y_assign rfl) rfl ?_
  refine l_nil ?_
  refine g_seq ?_
  have htl := Hd.text_length hg
  have hgl := hg.ls
  have hgt := hg.lt
  have hgo := hg.o
  refine g_reg ?_
  refine l_y (y_move rfl) rfl ?_
  refine l_y (y_b2s rfl (hv.gr hgr) (plain_gr _) Tryz.underlying29 Tryz.underlying5 Tryz.underlying9) rfl ?_
  refine l_call0 rfl rfl en36 (split_any _ _ (he.gr hgr) (by omega)) (fun _ _ h => by obtain ⟨v, h, _⟩ := h; exact ⟨_, h⟩) rfl (fun w2 v2 h2 => ?_)
  obtain ⟨vl, h2, hown, hk2⟩ := h2
  cases h2
  have hB1 := hB1.gr hk2
  have hgr := hgr.tr hk2
  rw [Hd.split hg] at hown
  refine l_y (y_assign rfl) rfl ?_
  refine l_nil ?_
  refine g_seq ?_
  refine g_seq ?_
  refine g_reg ?_
  refine l_y (y_move rfl) rfl ?_
  refine l_y (y_lenv rfl hown.rc.form Tryz.underlying62) rfl ?_
  refine l_y (y_neq rfl rfl) rfl ?_
  refine l_nil ?_
  refine g_false rfl ?_
  refine g_skip ?_
  refine g_seq ?_
  refine g_reg ?_
  refine l_y (y_move rfl) rfl ?_
  refine l_y (y_ia rfl rfl hown.rc Tryz.underlying62 szT9 (by decide) (by show (2 : Int) < ((7 : Nat) : Int); decide)) rfl ?_
  refine l_y (y_ld rfl Tryz.underlying9 rfl (fun w' hw => (str_at (hown.gr (plain_gr _ _ hw)) (k := 2) (p := h.line) rfl))) rfl ?_
  refine l_call0 rfl rfl en37 (cut_any h.line _ (he.gr hgr) (by simp [Hd.line]; omega)) (fun _ _ h => ⟨_, h.1⟩) rfl (fun w3 v3 h3 => ?_)
  obtain ⟨h3, hk3⟩ := h3
  cases h3
  have hB1 := hB1.gr hk3
  have hown := hown.gr hk3
  have hgr := hgr.tr hk3
  rw [Hd.cut]
  refine l_y (y_move rfl) rfl ?_
  refine l_y (y_ext rfl rfl) rfl ?_
  refine l_y (y_ext rfl rfl) rfl ?_
  refine l_y (y_ext rfl rfl) rfl ?_
  refine l_y (y_assign rfl) rfl ?_
  refine l_y (y_assign rfl) rfl ?_
  refine l_y (y_assign rfl) rfl ?_
  refine l_nil ?_
  refine g_seq ?_
  refine g_reg ?_
  refine l_y (y_move rfl) rfl ?_
  refine l_y (y_ia rfl rfl hown.rc Tryz.underlying62 szT9 (by decide) (by show (1 : Int) < ((7 : Nat) : Int); decide)) rfl ?_
  refine l_y (y_ld rfl Tryz.underlying9 rfl (fun w' hw => (str_at (hown.gr (plain_gr _ _ hw)) (k := 1) (p := h.o) rfl))) rfl ?_
  refine l_y (y_build (v := (hd0 h.o).val) rfl (fun _ => by kernel_rfl)) rfl ?_
  refine l_alloc zT27 rfl (fun w4 g4 hk4 hg4 hB4 => ?_)
  have hl4 : w.heap.size ≤ g4 := Nat.le_trans hgr.le hg4
  have hn_g1_g4 : g1 ≠ g4 := by have := hB1.lt; omega
  have hB1 := hB1.gr hk4
  have hown := hown.gr hk4
  have hgr := hgr.tr hk4
  refine l_stm (vs := (hd0 h.o).cells) rfl rfl hB4 rfl (by rw [Hd.len]; decide) (by exact Hd.one _) (by rw [szT27, Hd.len]) (fun w5 hg5 hs5 hS5 => ?_)
  have hB1 := hB1.grown hg5 (fun e => hn_g1_g4 (Option.some.inj e))
  have hown := hown.grown hg5 (.inr (fun e => hown.ne_blk hB4 (by decide) e.symm))
  have hgr0 := hgr
  have hgr : Gr w w5 := hgr.grown hg5 hgr.le (fun k hk => by injection hk with hk; subst hk; exact hl4)
  have hB4 := Blk.whole hS5 (by rw [Hd.len]; rfl)
  refine l_nil ?_
  refine g_seq ?_
  refine g_reg ?_
  refine l_alloc zT68 rfl (fun w6 g6 hk6 hg6 hB6 => ?_)
  have hl6 : w.heap.size ≤ g6 := Nat.le_trans hgr.le hg6
  have hn_g1_g6 : g1 ≠ g6 := by have := hB1.lt; omega
  have hn_g4_g6 : g4 ≠ g6 := by have := hB4.lt; omega
  have hB1 := hB1.gr hk6
  have hB4 := hB4.gr hk6
  have hown := hown.gr hk6
  have hgr := hgr.tr hk6
  refine l_nil ?_
  refine g_seq ?_
  refine g_reg ?_
  refine l_y (y_move rfl) rfl ?_
  refine l_call0 rfl rfl en38 (atoi_num _ (by omega) _) (fun _ _ h => ⟨_, h.1⟩) rfl (fun w7 v7 h7 => ?_)
  obtain ⟨h7, hk7⟩ := h7
  cases h7
  have hB1 := hB1.gr hk7
  have hB4 := hB4.gr hk7
  have hB6 := hB6.gr hk7
  have hown := hown.gr hk7
  have hgr := hgr.tr hk7
  refine l_y (y_move rfl) rfl ?_
  refine l_y (y_ext rfl rfl) rfl ?_
  refine l_y (y_ext rfl rfl) rfl ?_
  refine l_y (y_fa (v := .pointer (some ⟨g4, 1, none⟩)) rfl (fun _ => by kernel_rfl)) rfl ?_
  refine l_st rfl rfl hB4 (by rw [Hd.sz]; decide) rfl rfl Tryz.underlying3 szT3 (fun w8 hg8 hs8 hS8 => ?_)
  have hB1 := hB1.grown hg8 (fun e => hn_g1_g4 (Option.some.inj e))
  have hB6 := hB6.grown hg8 (fun e => hn_g4_g6 (Option.some.inj e).symm)
  have hown := hown.grown hg8 (.inr (fun e => hown.ne_blk hB4 (by decide) e.symm))
  have hgr0 := hgr
  have hgr : Gr w w8 := hgr.grown hg8 hgr.le (fun k hk => by injection hk with hk; subst hk; exact hl4)
  have hB4 := (show Blk _ g4 27 ({ hd0 h.o with size := (h.size.toNat : Int) } : Hd).cells.toArray from hS8)
  refine l_y (y_iaA rfl rfl Tryz.underlying68 szT31 (by decide)) rfl ?_
  refine l_st rfl rfl hB6 (by exact (by decide : 0 < 4)) rfl rfl Tryz.underlying31 szT31 (fun w9 hg9 hs9 hS9 => ?_)
  have hB1 := hB1.grown hg9 (fun e => hn_g1_g6 (Option.some.inj e))
  have hB4 := hB4.grown hg9 (fun e => hn_g4_g6 (Option.some.inj e))
  have hown := hown.grown hg9 (.inr (fun e => hown.ne_blk hB6 (by decide) e.symm))
  have hgr0 := hgr
  have hgr : Gr w w9 := hgr.grown hg9 hgr.le (fun k hk => by injection hk with hk; subst hk; exact hl6)
  have hB6 := (show Blk _ g6 68 #[.nilIface, .nilIface, .nilIface, .nilIface] from hS9)
  refine l_nil ?_
  refine g_seq ?_
  refine g_reg ?_
  refine l_y (y_move rfl) rfl ?_
  refine l_call0 rfl rfl en38 (atoi_num _ (by omega) _) (fun _ _ h => ⟨_, h.1⟩) rfl (fun w10 v10 h10 => ?_)
  obtain ⟨h10, hk10⟩ := h10
  cases h10
  have hB1 := hB1.gr hk10
  have hB4 := hB4.gr hk10
  have hB6 := hB6.gr hk10
  have hown := hown.gr hk10
  have hgr := hgr.tr hk10
  refine l_y (y_move rfl) rfl ?_
  refine l_y (y_ext rfl rfl) rfl ?_
  refine l_y (y_ext rfl rfl) rfl ?_
  refine l_y (y_fa (v := .pointer (some ⟨g4, 2, none⟩)) rfl (fun _ => by kernel_rfl)) rfl ?_
  refine l_st rfl rfl hB4 (by rw [Hd.sz]; decide) rfl rfl Tryz.underlying3 szT3 (fun w11 hg11 hs11 hS11 => ?_)
  have hB1 := hB1.grown hg11 (fun e => hn_g1_g4 (Option.some.inj e))
  have hB6 := hB6.grown hg11 (fun e => hn_g4_g6 (Option.some.inj e).symm)
  have hown := hown.grown hg11 (.inr (fun e => hown.ne_blk hB4 (by decide) e.symm))
  have hgr0 := hgr
  have hgr : Gr w w11 := hgr.grown hg11 hgr.le (fun k hk => by injection hk with hk; subst hk; exact hl4)
  have hB4 := (show Blk _ g4 27 ({ ({ hd0 h.o with size := (h.size.toNat : Int) } : Hd) with time := (h.time.toNat : Int) } : Hd).cells.toArray from hS11)
  refine l_y (y_iaA rfl rfl Tryz.underlying68 szT31 (by decide)) rfl ?_
  refine l_st rfl rfl hB6 (by simp) rfl rfl Tryz.underlying31 szT31 (fun w12 hg12 hs12 hS12 => ?_)
  have hB1 := hB1.grown hg12 (fun e => hn_g1_g6 (Option.some.inj e))
  have hB4 := hB4.grown hg12 (fun e => hn_g4_g6 (Option.some.inj e))
  have hown := hown.grown hg12 (.inr (fun e => hown.ne_blk hB6 (by decide) e.symm))
  have hgr0 := hgr
  have hgr : Gr w w12 := hgr.grown hg12 hgr.le (fun k hk => by injection hk with hk; subst hk; exact hl6)
  have hB6 := (show Blk _ g6 68 #[.nilIface, .nilIface, .nilIface, .nilIface] from hS12)
  refine l_nil ?_
  refine g_seq ?_
  refine g_reg ?_
  refine l_y (y_move rfl) rfl ?_
  refine l_y (y_ia rfl rfl hown.rc Tryz.underlying62 szT9 (by decide) (by show (3 : Int) < ((7 : Nat) : Int); decide)) rfl ?_
  refine l_y (y_ld rfl Tryz.underlying9 rfl (fun w' hw => (str_at (hown.gr (plain_gr _ _ hw)) (k := 3) (p := hex h.root) rfl))) rfl ?_
  refine l_call0 rfl rfl en39 (sum_s (hex h.root) h.root (dec_hex _) h.hr _ (by rw [hex_length, h.hr]; decide)) (fun _ _ h => ⟨_, h.1⟩) rfl (fun w13 v13 h13 => ?_)
  obtain ⟨h13, hk13⟩ := h13
  cases h13
  have hB1 := hB1.gr hk13
  have hB4 := hB4.gr hk13
  have hB6 := hB6.gr hk13
  have hown := hown.gr hk13
  have hgr := hgr.tr hk13
  refine l_y (y_move rfl) rfl ?_
  refine l_y (y_ext rfl rfl) rfl ?_
  refine l_y (y_ext rfl rfl) rfl ?_
  refine l_y (y_fa (v := .pointer (some ⟨g4, 3, none⟩)) rfl (fun _ => by kernel_rfl)) rfl ?_
  refine l_stm (vs := h.root.map bc) rfl rfl hB4 rfl (by rw [Hd.sz]; simp [h.hr]) (by exact Decode.bytes_one _) (by rw [szT23]; simp [h.hr]) (fun w14 hg14 hs14 hS14 => ?_)
  have hB1 := hB1.grown hg14 (fun e => hn_g1_g4 (Option.some.inj e))
  have hB6 := hB6.grown hg14 (fun e => hn_g4_g6 (Option.some.inj e).symm)
  have hown := hown.grown hg14 (.inr (fun e => hown.ne_blk hB4 (by decide) e.symm))
  have hgr0 := hgr
  have hgr : Gr w w14 := hgr.grown hg14 hgr.le (fun k hk => by injection hk with hk; subst hk; exact hl4)
  have hB4 := (Hd.setRoot ({ ({ hd0 h.o with size := (h.size.toNat : Int) } : Hd) with time := (h.time.toNat : Int) } : Hd) h.root h.hr) ▸ hS14
  refine l_y (y_iaA rfl rfl Tryz.underlying68 szT31 (by decide)) rfl ?_
  refine l_st rfl rfl hB6 (by simp) rfl rfl Tryz.underlying31 szT31 (fun w15 hg15 hs15 hS15 => ?_)
  have hB1 := hB1.grown hg15 (fun e => hn_g1_g6 (Option.some.inj e))
  have hB4 := hB4.grown hg15 (fun e => hn_g4_g6 (Option.some.inj e))
  have hown := hown.grown hg15 (.inr (fun e => hown.ne_blk hB6 (by decide) e.symm))
  have hgr0 := hgr
  have hgr : Gr w w15 := hgr.grown hg15 hgr.le (fun k hk => by injection hk with hk; subst hk; exact hl6)
  have hB6 := (show Blk _ g6 68 #[.nilIface, .nilIface, .nilIface, .nilIface] from hS15)
  refine l_nil ?_
  refine g_seq ?_
  refine g_reg ?_
  refine l_y (y_move rfl) rfl ?_
  refine l_y (y_ia rfl rfl hown.rc Tryz.underlying62 szT9 (by decide) (by show (5 : Int) < ((7 : Nat) : Int); decide)) rfl ?_
  refine l_y (y_ld rfl Tryz.underlying9 rfl (fun w' hw => (str_at (hown.gr (plain_gr _ _ hw)) (k := 5) (p := b64 h.sig) rfl))) rfl ?_
  refine l_call0 rfl rfl en40 (wide_s (b64 h.sig) h.sig (unb_b64 _) h.hs _ (by rw [b64_length, h.hs]; decide)) (fun _ _ h => ⟨_, h.1⟩) rfl (fun w16 v16 h16 => ?_)
  obtain ⟨h16, hk16⟩ := h16
  cases h16
  have hB1 := hB1.gr hk16
  have hB4 := hB4.gr hk16
  have hB6 := hB6.gr hk16
  have hown := hown.gr hk16
  have hgr := hgr.tr hk16
  refine l_y (y_move rfl) rfl ?_
  refine l_y (y_ext rfl rfl) rfl ?_
  refine l_y (y_ext rfl rfl) rfl ?_
  refine l_y (y_fa (v := .pointer (some ⟨g4, 35, none⟩)) rfl (fun _ => by kernel_rfl)) rfl ?_
  refine l_stm (vs := h.sig.map bc) rfl rfl hB4 rfl (by rw [Hd.sz]; simp [h.hs]) (by exact Decode.bytes_one _) (by rw [szT25]; simp [h.hs]) (fun w17 hg17 hs17 hS17 => ?_)
  have hB1 := hB1.grown hg17 (fun e => hn_g1_g4 (Option.some.inj e))
  have hB6 := hB6.grown hg17 (fun e => hn_g4_g6 (Option.some.inj e).symm)
  have hown := hown.grown hg17 (.inr (fun e => hown.ne_blk hB4 (by decide) e.symm))
  have hgr0 := hgr
  have hgr : Gr w w17 := hgr.grown hg17 hgr.le (fun k hk => by injection hk with hk; subst hk; exact hl4)
  have hB4 := (show Blk _ g4 27 h.cells.toArray from by rw [← congrArg (fun x : Hd => x.cells.toArray) (Hd.made hg)]; exact (Hd.setSig ({ ({ ({ hd0 h.o with size := (h.size.toNat : Int) } : Hd) with time := (h.time.toNat : Int) } : Hd) with root := h.root, hr := h.hr } : Hd) h.sig h.hs) ▸ hS17)
  refine l_y (y_iaA rfl rfl Tryz.underlying68 szT31 (by decide)) rfl ?_
  refine l_st rfl rfl hB6 (by simp) rfl rfl Tryz.underlying31 szT31 (fun w18 hg18 hs18 hS18 => ?_)
  have hB1 := hB1.grown hg18 (fun e => hn_g1_g6 (Option.some.inj e))
  have hB4 := hB4.grown hg18 (fun e => hn_g4_g6 (Option.some.inj e))
  have hown := hown.grown hg18 (.inr (fun e => hown.ne_blk hB6 (by decide) e.symm))
  have hgr0 := hgr
  have hgr : Gr w w18 := hgr.grown hg18 hgr.le (fun k hk => by injection hk with hk; subst hk; exact hl6)
  have hB6 := (show Blk _ g6 68 #[.nilIface, .nilIface, .nilIface, .nilIface] from hS18)
  refine l_nil ?_
  refine g_seq ?_
  refine g_seq ?_
  refine g_reg ?_
  refine l_y (y_ldbs (o := 0) (vs := [.nilIface, .nilIface, .nilIface, .nilIface]) rfl hB6 (plain_gr _) Tryz.underlying68 rfl szT68 (fun j v hj => by simpa using hj)) rfl ?_
  refine l_y (y_move rfl) rfl ?_
  refine l_nil ?_
  refine g_block ?_
  refine g_loop (σ := Nat) (fun i => 4 - i) (fun i => [(0, v), (2, .pointer (some ⟨g1, 0, none⟩)), (8, .pointer (some ⟨g4, 0, none⟩)), (66, .agg #[.nilIface, .nilIface, .nilIface, .nilIface]), (67, .int .i64 i)]) (fun i w' => i ≤ 4 ∧ (∃ c1 : Array Value, c1.size = 99 ∧ Blk w' g1 27 c1) ∧ Blk w' g4 27 h.cells.toArray ∧ Gr w w') 0 ⟨by omega, ⟨_, by rfl, hB1⟩, hB4, hgr⟩ ⟨rfl, rfl, rfl, rfl, rfl, trivial⟩ ?_
  rintro i w' ⟨hi, ⟨c1, hc1s, hB1⟩, hB4, hgr⟩
  refine g_seq ?_
  refine g_reg ?_
  refine l_y (y_lss rfl rfl) rfl ?_
  refine l_nil ?_
  refine g_seq ?_
  refine g_cond rfl (fun hc2 => ?_) (fun hc2 => ?_)
  · skip
    replace hc2 := of_decide_eq_true hc2
    refine g_skip ?_
    refine g_seq ?_
    refine g_block ?_
    refine g_seq ?_
    refine g_reg ?_
    refine l_y (y_idx rfl rfl (ix4 i (by omega))) rfl ?_
    refine l_y (y_assign rfl) rfl ?_
    refine l_nil ?_
    refine g_seq ?_
    refine g_reg ?_
    refine l_y (y_move rfl) rfl ?_
    refine l_y (y_nenn rfl rfl Tryz.underlying31) rfl ?_
    refine l_nil ?_
    refine g_false rfl ?_
    refine g_skip ?_
    refine g_blk ?_
    refine g_reg ?_
    refine l_y (y_addN rfl rfl (by omega)) rfl ?_
    refine l_y (y_move rfl) rfl ?_
    refine l_nil ?_
    exact g_lp fun a ha => ⟨i + 1, by omega, ha.sub ⟨rfl, rfl, rfl, rfl, rfl, trivial⟩, by omega, ⟨c1, hc1s, hB1⟩, hB4, hgr⟩
  · skip
    replace hc2 := of_decide_eq_false hc2
    refine g_exit rfl ?_
    refine g_seq ?_
    refine g_seq ?_
    refine g_reg ?_
    refine l_y (y_ldbs (o := 0) (vs := h.cells) rfl hB4 (plain_gr _) Tryz.underlying27 rfl (by rw [szT27, h.len]) (fun j v hj => by simpa using hj)) rfl ?_
    refine l_call0 rfl rfl en8 (put_good h _ hb hg (he.gr hgr)) (fun _ _ h => by obtain ⟨v, h, _⟩ := h; exact ⟨_, h⟩) rfl (fun w19 v19 h19 => ?_)
    obtain ⟨vt, h19, ht, hk19⟩ := h19
    cases h19
    have hB1 := hB1.gr hk19
    have hB4 := hB4.gr hk19
    have hgr := hgr.tr hk19
    refine l_y (y_move rfl) rfl ?_
    refine l_y (y_ext rfl rfl) rfl ?_
    refine l_y (y_ext rfl rfl) rfl ?_
    refine l_y (y_assign rfl) rfl ?_
    refine l_y (y_assign rfl) rfl ?_
    refine l_nil ?_
    refine g_seq ?_
    refine g_reg ?_
    refine l_y (y_move rfl) rfl ?_
    refine l_y (y_nenn rfl rfl Tryz.underlying31) rfl ?_
    refine l_y (y_move rfl) rfl ?_
    refine l_gt (gd_f1 rfl rfl) ?_
    refine l_y (y_move rfl) rfl ?_
    refine l_gt (gd_f1 rfl rfl) ?_
    refine l_y (y_move rfl) rfl ?_
    refine l_gt (gd_f1 rfl rfl) ?_
    refine l_call0 rfl rfl en41 (eqb_is (b := true) _ _ h.text h.text (by simp) _ (hv.gr hgr) ht.rc (by omega)) (fun _ _ h => ⟨_, h.1⟩) rfl (fun w20 v20 h20 => ?_)
    obtain ⟨h20, hk20⟩ := h20
    cases h20
    have hB1 := hB1.gr hk20
    have hB4 := hB4.gr hk20
    have ht := ht.gr hk20
    have hgr := hgr.tr hk20
    refine l_gt (gd_f1 rfl rfl) ?_
    refine l_y (y_not rfl) rfl ?_
    refine l_y (y_pick rfl rfl rfl) rfl ?_
    refine l_nil ?_
    refine g_false rfl ?_
    refine g_skip ?_
    refine g_seq ?_
    refine g_reg ?_
    refine l_y (y_ldbs (o := 0) (vs := h.cells) rfl hB4 (plain_gr _) Tryz.underlying27 rfl (by rw [szT27, h.len]) (fun j v hj => by simpa using hj)) rfl ?_
    refine l_stm (vs := h.cells) rfl rfl hB1 rfl (by rw [Hd.len, hc1s]; decide) (by exact Hd.one _) (by rw [szT27, Hd.len]) (fun w21 hg21 hs21 hS21 => ?_)
    have hB4 := hB4.grown hg21 (fun e => hn_g1_g4 (Option.some.inj e).symm)
    have hgr0 := hgr
    have hgr : Gr w w21 := hgr.grown hg21 hgr.le (fun k hk => by injection hk with hk; subst hk; exact hl1)
    have hB1 := Blk.whole hS21 (by rw [Hd.len]; exact hc1s)
    refine l_y (y_assign rfl) rfl ?_
    refine l_nil ?_
    refine g_ret2 Tryz.results14 rfl (ld_blk hB1 Tryz.underlying27 rfl (by rw [szT27, Hd.sz])) rfl ?_
    exact ⟨rfl, hgr⟩

end Go.Proofs.YtehfgmagmnjffaaGreatDoor.Parse
