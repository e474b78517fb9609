/- The periods of a stretched wave. -/
import Derived.Test.YtoodagohkepcpaaA8
namespace Go.Proofs.Ytoodagohkepcpaa
open Go.RowKit Go.Shelf Go.Proofs.YtoodagohkepcpaaW.PrintWords

theorem info22 : (Try.prog.info? 22).map (fun i => (i.zero, i.size, i.bytes)) = some (some (.slice none 0 0), 1, 24) := by kernel_rfl

/-- Each of the values k times. -/
def repV (k : Nat) (vs : List Value) (c : Nat) : List Value := (List.range c).map (fun j => vs.getD (j / k) undef)
theorem repV_succ (k : Nat) (vs : List Value) (c : Nat) : repV k vs (c + 1) = repV k vs c ++ [vs.getD (c / k) undef] := by simp [repV, List.range_succ]
theorem repV_length (k : Nat) (vs : List Value) (c : Nat) : (repV k vs c).length = c := by simp [repV]

set_option maxRecDepth 100000 in
set_option maxHeartbeats 4000000 in
theorem stretched_ok (k : Nat) (A : Option Addr) (c : Nat) (vs : List Value) (w : World) (hv : Cells w A vs.length vs) (h1 : ∀ u ∈ vs, ∃ A n c, u = .slice A n c) (hk : 1 ≤ k ∧ k ≤ 8) (hl : 1 ≤ vs.length ∧ vs.length ≤ 1000) :
    Calls Try.prog 31 #[.agg #[.int .i64 k, .int .i64 1], .slice A vs.length c] w fun e w' => ∃ v, e = .returned v ∧ w'.ownsRow w.heap.size 22 1 v (k * vs.length) (repV k vs (k * vs.length)) ∧ Below w.heap.size w w' := by
  obtain ⟨hk1, hk2⟩ := hk
  obtain ⟨hl1, hl2⟩ := hl
  have hml : k * vs.length ≤ 8 * 1000 := Nat.mul_le_mul hk2 hl2
  have hml1 : 1 ≤ k * vs.length := Nat.mul_le_mul hk1 hl1
  have hnear : nearF vs.length k 1 = ((k * vs.length : Nat) : Int) := by
    unfold nearF
    have : (2 : Int) * vs.length * k = 2 * ((k * vs.length : Nat) : Int) := by push_cast; rw [Int.mul_assoc, Int.mul_comm (vs.length : Int)]
    rw [this]
    omega
  have HN := Aside0.mk (fun W => hnear ▸ near_any vs.length k 1 W (by omega) (by omega) (by omega))
  have HV := Aside0.mk hv
  have H1 := Aside0.mk h1
  clear hv h1 hnear
  generalize hM : k * vs.length = M at *
  go_enter Try.func31, Try.ntmps31
  go_wp2_with fail
  refine (HN.out _).mono ?_
  rintro e w' ⟨rfl, rfl⟩
  go_wp2
  have HM := Aside0.mk hM
  clear hM HN
  go_loopg [7, 8, 18] M (fun gg s7 _ s18 wr => ∃ j : Nat, j ≤ M ∧ M - j ≤ gg ∧ s18 = .int .i64 j ∧ Aside0 (Below w.heap.size w wr) ∧ Aside0 (wr.ownsRow w.heap.size 22 1 s7 j (repV k vs j)))
  case atStart => exact ⟨0, Nat.zero_le _, by omega, rfl, ⟨by repeat (first | exact Below.refl _ _ | apply below_alloc)⟩, ⟨own_nil _ _ _ _⟩⟩
  case round =>
    obtain ⟨j, hj, hg, rfl, HB, HO⟩ := hrel
    by_cases hlt : j < M
    · have hltz : (j : Int) < (M : Int) := by omega
      have hM0 : (M : Int) ≠ 0 := by omega
      have hq : j * vs.length / M = j / k := by rw [← HM.out]; exact Nat.mul_div_mul_right j k (by omega)
      have hqn : j / k < vs.length := by
        rw [← HM.out] at hlt
        exact Nat.div_lt_of_lt_mul hlt
      have hm1 : (j : Int) * (vs.length : Int) ≤ 8000 * 1000 := Int.mul_le_mul (by omega) (by omega) (by omega) (by omega)
      have hm0 : 0 ≤ (j : Int) * (vs.length : Int) := Int.mul_nonneg (by omega) (by omega)
      have hw1 : IntKind.i64.wrap ((j : Int) * (vs.length : Int)) = (j : Int) * (vs.length : Int) := IntWalk.i64_in _ (by omega)
      have hqz : ((j : Int) * (vs.length : Int)).tdiv (M : Int) = ((j / k : Nat) : Int) := by
        rw [Int.tdiv_eq_ediv_of_nonneg hm0, ← hq]; push_cast; rfl
      obtain ⟨Av, nv, cv, hvv⟩ := H1.out _ (List.getElem_mem hqn)
      obtain ⟨ad, rfl, hcell⟩ := HV.out (by omega)
      have hc := hcell (j / k) (.slice Av nv cv) (by rw [List.getElem?_eq_getElem hqn, hvv])
      have hgd : vs.getD (j / k) undef = .slice Av nv cv := by simp [List.getD_eq_getElem?_getD, List.getElem?_eq_getElem hqn, hvv]
      replace hc := pw_cell_below HB.out hc
      have hsucc := repV_succ k vs j
      rw [hgd] at hsucc
      have HS := Aside0.mk hsucc
      have hqz1 : ((j / k : Nat) : Int) < (vs.length : Int) := by omega
      clear hsucc hgd hvv hcell hq
      generalize j / k = q at *
      go_wp2_with (at_builtin; refine append_list rfl (.tmp 21) (.tmp 30) 128 22 (.slice none 0 0) 1 24 rfl Try.underlying128 info22 rfl (by decide) (by decide) w.heap.size _ j (repV k vs j) (some ⟨_, 0, none⟩) 1 1 [.slice Av nv cv] rfl rfl (pw_own_below HO.out ?ownb) rfl (Cells.new' ?newb _ #[.slice Av nv cv] 22 1) (fun u hu => by simp at hu; subst hu; rfl) ?bytes ?base ?_)
      try (case newb => first | exact rfl | (simp; done))
      case ownb => exact below_alloc (Below.refl _ _) _
      case bytes => omega
      case base => have := HB.out.size; (try simp); omega
      intro v1 w1 hA
      have HA : Aside0 (w1.ownsRow w.heap.size 22 1 v1 (j + 1) (repV k vs (j + 1))) := ⟨by rw [HS.out]; exact hA.own⟩
      have HB1 : Aside0 (Below w.heap.size w w1) := ⟨(below_alloc HB.out _).grown hA.grown (below_alloc HB.out _).size (own_base HO.out)⟩
      clear hA HB HO
      go_wp2
      go_roundg (M - (j + 1))
      case measure => omega
      case rel => exact ⟨j + 1, by omega, by omega, by go_num, HB1, HA⟩
    · have hltz : ¬ (j : Int) < (M : Int) := by omega
      obtain rfl : j = M := by omega
      go_wp2
      go_ret
      exact ⟨_, rfl, HO.out, HB.out⟩
end Go.Proofs.Ytoodagohkepcpaa
