/- A copy of a slice of numbers; what an owned row's cells are. -/
import Derived.Test.YtoodagohkepcpaaA9
import Derived.Lib.SliceRun
namespace Go.Proofs.Ytoodagohkepcpaa
open Go.RowKit Go.Shelf Go.Proofs.YtoodagohkepcpaaW.PrintWords

theorem own_cellsOf {w : World} {base : Nat} {e : TypeId} {A : Option Addr} {n c : Nat} {xs : List Value} (h : w.ownsRow base e 1 (.slice A n c) n xs) : Cells w A n xs ∧ n ≤ c ∧ xs.length = n := by
  refine ⟨?_, ?_, by have := h.1; omega⟩
  · intro hn
    rcases h.2 with ⟨hv, h0⟩ | ⟨g, cap, cur, hv, _⟩
    · omega
    · injection hv with hv _ _
      subst hv
      exact ⟨_, rfl, fun j u hu => h.cells (g := g) rfl j u hu⟩
  · rcases h.2 with ⟨hv, h0⟩ | ⟨g, cap, cur, hv, _, _, hnc, _⟩
    · omega
    · injection hv with _ _ hv
      subst hv
      exact hnc

set_option maxHeartbeats 1000000 in
set_option maxRecDepth 100000 in
theorem Clone_ints (A : Option Addr) (c : Nat) (xs : List Int) (w : World) (h : Kd.C (Kd.int .i64) w A xs.length xs) (hl : xs.length ≤ 1000000) :
    Calls Try.prog 57 #[.slice A xs.length c] w fun e w' => ∃ v, e = .returned v ∧ w'.ownsRow w.heap.size 3 1 v xs.length (Flat eI xs) ∧ Below w.heap.size w w' := by
  have q22 : ∀ (w : World) (a : Option Addr) (n c n' c' : Nat), (binOp .eql 22 (.slice a n c) (.slice none n' c')).run Try.prog w = .ok (.bool a.isNone) w := fun w a n c n' c' => Lib.run_eql_slice_nil w _ _ a n c n' c' Try.underlying22
  rcases A with _ | ad
  · have h0 : xs = [] := by
      rcases Nat.eq_zero_or_pos xs.length with h0 | h0
      · exact List.eq_nil_of_length_eq_zero h0
      · obtain ⟨ad, e, _⟩ := h.2.2 h0
        cases e
    subst h0
    go_enter Try.func57, Try.ntmps57
    go_wp2
    go_ret
    exact ⟨_, rfl, own_nil _ _ _ _, Below.refl _ _⟩
  · have HC := Aside0.mk (Cells.of_C (Kd.int .i64) eI_len eI_inv (by decide) h)
    have hfl : (Flat eI xs).length = xs.length := by rw [Flat_length eI_len]; exact Nat.mul_one _
    have HF := Aside0.mk hfl
    clear h hfl
    go_enter Try.func57, Try.ntmps57
    go_wp2_with (at_builtin; refine append_list rfl (.tmp 5) (.tmp 6) 22 3 (.int .i64 0) 1 8 rfl Try.underlying22 info3 rfl (by decide) (by decide) w.heap.size _ 0 [] (some ad) xs.length c (Flat eI xs) rfl rfl ?own (by rw [HF.out]; omega) ?cells (Flat_mem eI_one) (by omega) ?base ?_)
    case own => exact ⟨rfl, .inr ⟨w.heap.size, 0, #[], rfl, Nat.le_refl _, blk_new _ _, Nat.le_refl _, Nat.zero_le _, rfl, rfl⟩⟩
    case cells => exact HC.out.below (below_alloc (Below.refl _ _) _)
    case base => simp
    intro v1 w1 hA
    have HA := Aside0.mk hA.own
    have HB : Aside0 (Below w.heap.size w w1) := ⟨(below_alloc (Below.refl _ _) _).grown hA.grown (by simp) (fun k e => by simp [Value.ownBlock] at e; omega)⟩
    clear hA
    go_wp2
    go_ret
    refine ⟨_, rfl, ?_, HB.out⟩
    have := HA.out
    simpa using this
end Go.Proofs.Ytoodagohkepcpaa
