/-
  Walks of functions: what each call comes to.
-/
import Derived.Test.YtehfgmagmnjffaaGreatDoorAgg
import Derived.Test.YtehfgmagmnjffaaGreatDoorTypes
import Derived.Test.YtehfgmagmnjffaaGreatDoorShelf
namespace Go.Proofs.YtehfgmagmnjffaaGreatDoor.Env
open Go Go.RowKit Go.Proofs.YtehfgmagmnjffaaGreatDoor.E Go.Proofs.YtehfgmagmnjffaaGreatDoor.Pl
theorem hmix : Tryz.prog.follows .mixedOrders = true := by kernel_rfl

/-- What the laid package variables hold, in every world from the call's beginning on. -/
structure Env (w : World) : Prop where
  tab : Lib.TabIs Tryz.prog w "internal/strconv.uint64pow10" .u64 Lib.pow10Tab
  esyn : ∃ tp p, w.var? Tryz.prog "strconv.ErrSyntax" = some #[.iface tp p]
  erng : ∃ tp p, w.var? Tryz.prog "strconv.ErrRange" = some #[.iface tp p]
  most : ∃ m, w.cell? ⟨0, 0, none⟩ = some (.int .i64 m)
theorem var_gr {w w' : World} {n : String} {cs : Array Value} (h : w.var? Tryz.prog n = some cs) (k : Gr w w') : w'.var? Tryz.prog n = some cs := by
  unfold World.var? at h ⊢
  cases hg : Tryz.prog.globalNamed n with
  | none => rw [hg] at h; cases h
  | some g =>
    rw [hg] at h
    simp only [Option.bind_some] at h ⊢
    cases ho : w.heap[g]? with
    | none => rw [ho] at h; cases h
    | some o => rw [k.block ho, ← ho]; exact h
theorem Env.gr {w w' : World} (h : Env w) (k : Gr w w') : Env w' := by
  obtain ⟨h1, ⟨t, p, h2⟩, ⟨t', p', h3⟩, ⟨m, h4⟩⟩ := h
  refine ⟨var_gr h1 k, ⟨t, p, var_gr h2 k⟩, ⟨t', p', var_gr h3 k⟩, ⟨m, ?_⟩⟩
  have hb : (⟨0, 0, none⟩ : Addr).block < w.heap.size := World.block_lt_of_cell? w _ h4
  exact (k.cell (p := ⟨0, 0, none⟩) hb).trans h4
theorem gr_grow {w : World} (k : Nat) (os : Array Obj) : Gr w (Go.Sort.grow (w.drewN k) os) :=
  ⟨rfl, rfl, rfl, by show w.heap.size ≤ (w.heap ++ os).size; simp, fun i hi => by
    show (w.heap ++ os)[i]? = w.heap[i]?
    rw [Array.getElem?_append_left hi]⟩
theorem itoa_any (n : Nat) (hn : n ≤ 9223372036854775807) (w : World) (he : Env w) : Calls Tryz.prog 27 #[.int .i64 (n : Nat)] w fun e w' => e = .returned (.string (S (number n))) ∧ Gr w w' :=
  (Tryz.strconv_Itoa n (by omega) (by omega) w he.tab).mono fun e w' h => by
    obtain ⟨h1, k, os, h2⟩ := h
    refine ⟨by rw [h1, itoa_number], ?_⟩
    subst h2
    exact gr_grow k os

end Go.Proofs.YtehfgmagmnjffaaGreatDoor.Env
