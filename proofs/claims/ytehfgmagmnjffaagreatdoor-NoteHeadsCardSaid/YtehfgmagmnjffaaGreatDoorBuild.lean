/-
  Walks of functions: what each call comes to.
-/
import Derived.Test.YtehfgmagmnjffaaGreatDoorMore
import Derived.Test.YtehfgmagmnjffaaGreatDoorPlain
import Derived.Test.YtehfgmagmnjffaaGreatDoorProg
namespace Go.Proofs.YtehfgmagmnjffaaGreatDoor.Build
open Go Go.RowKit Go.Proofs.YtehfgmagmnjffaaGreatDoor.E Go.Proofs.YtehfgmagmnjffaaGreatDoor.Pl
theorem hmix : Tryz.prog.follows .mixedOrders = true := by kernel_rfl
theorem en87 : Enters Tryz.prog 87 := enters_of Tryz.func87 (by kernel_rfl) rfl
theorem szT5 : (Tryz.prog.info? 5).map (·.size) = some 1 := by kernel_rfl
theorem szT29 : (Tryz.prog.info? 29).map (·.size) = some 1 := by kernel_rfl
theorem szT97 : (Tryz.prog.info? 97).map (·.size) = some 1 := by kernel_rfl

theorem infoB : (Tryz.prog.info? 5).map (fun i => (i.zero, i.size, i.bytes)) = some (some (.int .u8 0), 1, 1) := by kernel_rfl
theorem sizeB : (Tryz.prog.info? 99).map (·.size) = some 2 := by kernel_rfl
theorem liesB : liesAt Tryz.prog Tryz.prog.depth 99 (2 / Tryz.prog.cellsOf 99) 0 99 1 = true := by kernel_rfl
theorem jB : ∃ j, Tryz.prog.info? 99 = some j ∧ j.size = 2 := Option.map_eq_some_iff.1 sizeB

theorem cc_used (b : Nat) (w : World) (h0 : w.cell? ⟨b, 0, none⟩ = some (.pointer (some ⟨b, 0, none⟩))) : Calls Tryz.prog 87 #[.pointer (some ⟨b, 0, none⟩)] w fun e w' => e = .returned (.tuple #[]) ∧ w' = w := by
  obtain ⟨j, hj, _⟩ := jB
  refine enter (vs := [.pointer (some ⟨b, 0, none⟩)]) Tryz.func87 rfl Tryz.ntmps87 rfl ?_
  refine g_seq ?_
  refine g_reg ?_
  refine l_y (y_move rfl) rfl ?_
  refine l_y (y_nilc rfl rfl) rfl ?_
  refine l_y (y_fa (v := .pointer (some ⟨b, 0, none⟩)) rfl (fun _ => by kernel_rfl)) rfl ?_
  refine l_y (y_ld rfl Tryz.underlying97 rfl (fun w' h => by subst h; exact h0)) rfl ?_
  refine l_y (y_peqn rfl rfl Tryz.underlying97) rfl ?_
  refine l_nil ?_
  refine g_false rfl ?_
  refine g_seq ?_
  refine g_reg ?_
  refine l_y (y_move rfl) rfl ?_
  refine l_y (y_nilc rfl rfl) rfl ?_
  refine l_y (y_fa (v := .pointer (some ⟨b, 0, none⟩)) rfl (fun _ => by kernel_rfl)) rfl ?_
  refine l_y (y_ld rfl Tryz.underlying97 rfl (fun w' h => by subst h; exact h0)) rfl ?_
  refine l_y (y_move rfl) rfl ?_
  refine l_y (y_pnes rfl rfl Tryz.underlying97 hj) rfl ?_
  refine l_nil ?_
  refine g_false rfl ?_
  refine g_skip ?_
  refine g_end Tryz.results87 rfl ?_
  exact ⟨rfl, rfl⟩

theorem cc_fresh (b : Nat) (v : Value) (w : World) (hb : Blk w b 99 #[.pointer none, v]) : Calls Tryz.prog 87 #[.pointer (some ⟨b, 0, none⟩)] w fun e w' => e = .returned (.tuple #[]) ∧ (Blk w' b 99 #[.pointer (some ⟨b, 0, none⟩), v] ∧ w.grownBy w' (some b) ∧ w'.heap.size = w.heap.size) := by
  obtain ⟨j, hj, hjs⟩ := jB
  have hsh : w.shape? b = some (99, 2) := by have := hb.eqn; simp [World.shape?, this]
  refine enter (vs := [.pointer (some ⟨b, 0, none⟩)]) Tryz.func87 rfl Tryz.ntmps87 rfl ?_
  refine g_seq ?_
  refine g_reg ?_
  refine l_y (y_move rfl) rfl ?_
  refine l_y (y_nilc rfl rfl) rfl ?_
  refine l_y (y_fa (v := .pointer (some ⟨b, 0, none⟩)) rfl (fun _ => by kernel_rfl)) rfl ?_
  refine l_y (y_ldb rfl hb (plain_gr _) Tryz.underlying97 rfl rfl) rfl ?_
  refine l_y (y_peqn rfl rfl Tryz.underlying97) rfl ?_
  refine l_nil ?_
  refine g_true rfl ?_
  refine g_reg ?_
  refine l_y (y_move rfl) rfl ?_
  refine l_y (y_move rfl) rfl ?_
  refine l_y (y_cv rfl (fun w' h => by subst h; exact Lib.run_to_unsafe w' ⟨b, 0, none⟩ Tryz.underlying97 Tryz.underlying170 hj (by omega) hsh (Nat.zero_lt_succ 1))) rfl ?_
  refine l_y (y_ext1 rfl rfl (fun w' h => by rw [run_callFunc_extern Tryz.func128 (by kernel_rfl) (by kernel_rfl) (by kernel_rfl) (e := Extern.AbiNoEscape.same) (by kernel_rfl), Lib.run_noEscape]; rfl)) rfl ?_
  refine l_y (y_cv rfl (fun w' h => by subst h; exact Lib.run_from_unsafe w' ⟨b, 0, none⟩ Tryz.underlying170 Tryz.underlying97 hj hsh liesB)) rfl ?_
  refine l_y (y_nilc rfl rfl) rfl ?_
  refine l_y (y_fa (v := .pointer (some ⟨b, 0, none⟩)) rfl (fun _ => by kernel_rfl)) rfl ?_
  refine l_st rfl rfl hb (by simp) rfl rfl Tryz.underlying97 szT97 (fun w1 hg hs hb1 => ?_)
  refine l_nil ?_
  refine g_end Tryz.results87 rfl ?_
  exact ⟨rfl, hb1, hg, hs⟩

/-- Any builder: behind copyCheck it is used. -/
theorem cc_any (B b : Nat) (bs : List Value) (w : World) (h : Lib.IsBuilder 99 5 B b bs w) : Calls Tryz.prog 87 #[.pointer (some ⟨b, 0, none⟩)] w fun e w' => e = .returned (.tuple #[]) ∧ (Lib.BuilderAt 99 5 B b (.pointer (some ⟨b, 0, none⟩)) bs w' ∧ Below B w w') := by
  rcases h with h | h
  · obtain ⟨hB, v, hb, hown, hne⟩ := h
    refine (cc_fresh b v w hb).mono ?_
    rintro e w' ⟨rfl, hb', hg, _⟩
    exact ⟨rfl, ⟨hB, v, hb', hown.kept hg (.inr hne), hne⟩, Below.grown (Below.refl _ _) hg (by have := Blk.lt hb; omega) (fun k hk => by injection hk with hk; omega)⟩
  · refine (cc_used b w h.cell0).mono ?_
    rintro e w' ⟨rfl, rfl⟩
    exact ⟨rfl, h, Below.refl B _⟩

theorem wb_any (B b : Nat) (bs : List Value) (c : UInt8) (w : World) (h : Lib.IsBuilder 99 5 B b bs w) (hlen : bs.length + 1 ≤ 140737488355328) (hBw : B ≤ w.heap.size) : Calls Tryz.prog 89 #[.pointer (some ⟨b, 0, none⟩), bc c] w fun e w' => e = .returned .nilIface ∧ (Lib.IsBuilder 99 5 B b (bs ++ [bc c]) w' ∧ Below B w w') := by
  obtain ⟨ti, i1, i2, i3, i4⟩ := info_parts infoB
  refine enter (vs := [.pointer (some ⟨b, 0, none⟩), bc c]) Tryz.func89 rfl Tryz.ntmps89 rfl ?_
  refine g_seq ?_
  refine g_reg ?_
  refine l_y (y_assign rfl) rfl ?_
  refine l_nil ?_
  refine g_seq ?_
  refine g_reg ?_
  refine l_y (y_move rfl) rfl ?_
  refine l_call0 rfl rfl en87 (cc_any B b bs _ h) (fun _ _ h => ⟨_, h.1⟩) rfl (fun w1 v1 h1 => ?_)
  obtain ⟨h1, hB1, hk1⟩ := h1
  cases h1
  obtain ⟨hB, v, hb, hown, hne⟩ := hB1
  replace hb : Blk _ b 99 _ := hb
  have hs1 := hk1.size
  refine l_nil ?_
  refine g_seq ?_
  refine g_reg ?_
  refine l_y (y_move rfl) rfl ?_
  refine l_y (y_move rfl) rfl ?_
  refine l_y (y_nilc rfl rfl) rfl ?_
  refine l_y (y_fa (v := .pointer (some ⟨b, 1, none⟩)) rfl (fun _ => by kernel_rfl)) rfl ?_
  refine l_y (y_ldb rfl hb (plain_gr _) Tryz.underlying29 rfl rfl) rfl ?_
  refine l_y (y_move rfl) rfl ?_
  refine l_bsl (size := 1) (cs := #[bc c]) (e := 5) rfl Tryz.underlying29 szT5 (by decide) rfl (fun _ => by kernel_rfl) rfl (fun w2 v2 hk2 ho2 => ?_)
  have hs2 := hk2.size
  have hown2 := hown.of_gr hk2
  replace hb := hb.gr hk2
  obtain ⟨a2, c2, rfl, hc2⟩ := own_ptr ho2
  refine l_appk (news := [bc c]) rfl rfl hown2 rfl hc2 (by intro u hu; simp at hu; subst hu; rfl) Tryz.underlying29 i1 i2 i3 i4 rfl (by decide) (by simp only [maxLen]; omega) (by omega) (by omega) rfl (fun w3 v3 hg3 ho3 => ?_)
  replace hb := hb.grown hg3 (fun e => hne e.symm)
  refine l_y (y_nilc rfl rfl) rfl ?_
  refine l_y (y_fa (v := .pointer (some ⟨b, 1, none⟩)) rfl (fun _ => by kernel_rfl)) rfl ?_
  refine l_st rfl rfl hb (by simp) (own_one ho3) (own_cells ho3) Tryz.underlying29 szT29 (fun w4 hg4 hs4 hb4 => ?_)
  refine l_nil ?_
  refine g_seq ?_
  refine g_reg ?_
  refine l_y (y_assign rfl) rfl ?_
  refine l_nil ?_
  refine g_ret Tryz.results89 rfl ?_
  exact ⟨rfl, .inr ⟨hB, v3, hb4, by simpa using ho3.kept hg4 (.inr (Lib.ownBlock_ne ho3 hb.eqn (by decide))), Lib.ownBlock_ne ho3 hb.eqn (by decide)⟩, ((hk1.trans (hk2.mono (by omega))).grown hg3 (by omega) (fun k hk => (hown2.lt k hk).1)).grown hg4 (by have := hg3.size; omega) (fun k hk => by injection hk with hk; omega)⟩

theorem ws_any (B b : Nat) (bs : List Value) (s : Bs) (w : World) (h : Lib.IsBuilder 99 5 B b bs w) (hlen : bs.length + s.length ≤ 140737488355328) (hBw : B ≤ w.heap.size) : Calls Tryz.prog 59 #[.pointer (some ⟨b, 0, none⟩), .string (S s)] w fun e w' => e = .returned (.tuple #[.int .i64 s.length, .nilIface]) ∧ (Lib.IsBuilder 99 5 B b (bs ++ s.map bc) w' ∧ Below B w w') := by
  obtain ⟨ti, i1, i2, i3, i4⟩ := info_parts infoB
  refine enter (vs := [.pointer (some ⟨b, 0, none⟩), .string (S s)]) Tryz.func59 rfl Tryz.ntmps59 rfl ?_
  refine g_seq ?_
  refine g_reg ?_
  refine l_y (y_assign rfl) rfl ?_
  refine l_y (y_assign rfl) rfl ?_
  refine l_nil ?_
  refine g_seq ?_
  refine g_reg ?_
  refine l_y (y_move rfl) rfl ?_
  refine l_call0 rfl rfl en87 (cc_any B b bs _ h) (fun _ _ h => ⟨_, h.1⟩) rfl (fun w1 v1 h1 => ?_)
  obtain ⟨h1, hB1, hk1⟩ := h1
  cases h1
  obtain ⟨hB, v, hb, hown, hne⟩ := hB1
  replace hb : Blk _ b 99 _ := hb
  have hs1 := hk1.size
  refine l_nil ?_
  refine g_seq ?_
  refine g_reg ?_
  refine l_y (y_move rfl) rfl ?_
  refine l_y (y_move rfl) rfl ?_
  refine l_y (y_nilc rfl rfl) rfl ?_
  refine l_y (y_fa (v := .pointer (some ⟨b, 1, none⟩)) rfl (fun _ => by kernel_rfl)) rfl ?_
  refine l_y (y_ldb rfl hb (plain_gr _) Tryz.underlying29 rfl rfl) rfl ?_
  refine l_y (y_move rfl) rfl ?_
  refine l_apps rfl rfl hown Tryz.underlying29 Tryz.underlying9 i1 i2 i3 i4 (by simp only [maxLen, S_size]; omega) (by simp only [S_size]; omega) (by omega) rfl (fun w3 v3 hg3 ho3 => ?_)
  replace hb := hb.grown hg3 (fun e => hne e.symm)
  refine l_y (y_nilc rfl rfl) rfl ?_
  refine l_y (y_fa (v := .pointer (some ⟨b, 1, none⟩)) rfl (fun _ => by kernel_rfl)) rfl ?_
  refine l_st rfl rfl hb (by simp) (own_one ho3) (own_cells ho3) Tryz.underlying29 szT29 (fun w4 hg4 hs4 hb4 => ?_)
  refine l_nil ?_
  refine g_seq ?_
  refine g_reg ?_
  refine l_y (y_move rfl) rfl ?_
  refine l_y (y_slen rfl Tryz.underlying9) rfl ?_
  refine l_y (y_assign rfl) rfl ?_
  refine l_y (y_assign rfl) rfl ?_
  refine l_nil ?_
  refine g_ret Tryz.results59 rfl ?_
  exact ⟨rfl, .inr ⟨hB, v3, hb4, by simpa [Lib.strCells, S_size, bc] using ho3.kept hg4 (.inr (Lib.ownBlock_ne ho3 hb.eqn (by decide))), Lib.ownBlock_ne ho3 hb.eqn (by decide)⟩, (hk1.grown hg3 (by omega) (fun k hk => (hown.lt k hk).1)).grown hg4 (by have := hg3.size; omega) (fun k hk => by injection hk with hk; omega)⟩

end Go.Proofs.YtehfgmagmnjffaaGreatDoor.Build
