/- Contracts of the checks of a marked wave and of a piece. -/
import Derived.Test.YtoodagohkepcpaaA1
namespace Go.Proofs.Ytoodagohkepcpaa
open Go.RowKit Go.Shelf Go.Proofs.YtoodagohkepcpaaW.PrintWords

/-- Marks of a wave of n samples. -/
def okMarks (n : Nat) (ms : List Int) : Prop := 2 ≤ ms.length ∧ ∀ i : Nat, i < ms.length → 0 ≤ rd ms i ∧ rd ms i ≤ n ∧ (0 < i → rd ms ((i : Int) - 1) < rd ms i)

set_option maxRecDepth 100000 in
set_option maxHeartbeats 2000000 in
theorem marked_ok (A0 A1 : Option Addr) (c0 c1 : Nat) (xs ms : List Int) (w : World) (hx : Kd.C (Kd.int .i64) w A0 xs.length xs) (hm : Kd.C (Kd.int .i64) w A1 ms.length ms) (h : okWave xs) (hk : okMarks xs.length ms) :
    Calls Try.prog 54 #[.agg #[.slice A0 xs.length c0, .slice A1 ms.length c1]] w fun e w' => e = .returned (.int .i64 0) ∧ Below w.heap.size w w' := by
  have HLX := Aside0.mk h.1
  have hlm : ms.length ≤ 9223372036854775807 := hm.2.1
  have HX : ∀ W, Below w.heap.size w W → Calls Try.prog 70 #[.slice A0 xs.length c0] W fun e w' => e = .returned (.int .i64 0) ∧ Below W.heap.size W w' :=
    fun W hW => wave_ok A0 c0 xs W (Kd.C_below hx hW) h
  have HM := Aside0.mk hm
  have HK := Aside0.mk hk.2
  have h2 : ¬ (ms.length : Int) < 2 := by have := hk.1; omega
  have hun := Try.underlying24
  clear hx hm h hk
  go_enter Try.func54, Try.ntmps54
  go_wp2_with fail
  refine (HX _ (below_alloc (Below.refl _ _) _)).mono ?_
  rintro e w1 ⟨rfl, hb⟩
  clear HX
  have hb1 := below_then (below_alloc (Below.refl w.heap.size w) (.cells #[.slice A0 xs.length c0, .slice A1 ms.length c1] 24)) (by simp) hb
  have hc0 : w1.cell? ⟨w.heap.size, 0, none⟩ = some (.slice A0 xs.length c0) := (hb.cell (p := ⟨w.heap.size, 0, none⟩) (by simp)).trans (blk_cell (blk_new _ _) 0)
  have hc1 : w1.cell? ⟨w.heap.size, 1, none⟩ = some (.slice A1 ms.length c1) := (hb.cell (p := ⟨w.heap.size, 1, none⟩) (by simp)).trans (blk_cell (blk_new _ _) 1)
  have HB := Aside0.mk hb1
  have hsz : w.heap.size < w1.heap.size := by have := hb.size; simp at this; omega
  clear hb hb1
  go_wp2
  go_loopg [4, 5, 15] ms.length (fun gg _ _ s15 wr => ∃ kk : Nat, kk ≤ ms.length ∧ ms.length - kk ≤ gg ∧ s15 = .int .i64 kk ∧ Aside0 (∃ n, wr = w1.drewN n))
  case atStart => exact ⟨0, Nat.zero_le _, by omega, rfl, ⟨0, rfl⟩⟩
  case round =>
    obtain ⟨kk, hkk, hg, rfl, ⟨q, rfl⟩⟩ := hrel
    by_cases hlt : kk < ms.length
    · have hltz : (kk : Int) < (ms.length : Int) := by omega
      obtain ⟨p1, p2, p3⟩ := HK.out kk hlt
      obtain ⟨ad, rfl, hcell⟩ := Kd.at_int HM.out (kk : Int) (by omega) (by omega)
      rw [Int.toNat_natCast] at hcell
      replace hcell := (HB.out.cell (World.block_lt_of_cell? w _ hcell)).trans hcell
      have g1 : decide (rd ms kk < 0) = false := by simpa using p1
      have g2 : decide (rd ms kk > (xs.length : Int)) = false := by simpa using p2
      have g2' : decide ((xs.length : Int) < rd ms kk) = false := by simpa using p2
      by_cases h0 : 0 < kk
      · have g3 : decide (0 < kk) = true := by simpa using h0
        obtain ⟨ad', e', hcell'⟩ := Kd.at_int HM.out ((kk : Int) - 1) (by omega) (by omega)
        cases e'
        rw [show ((kk : Int) - 1).toNat = kk - 1 from by omega] at hcell'
        replace hcell' := (HB.out.cell (World.block_lt_of_cell? w _ hcell')).trans hcell'
        have hn0 : (0 : Int) ≤ (kk : Int) - 1 := by omega
        have hn1 : (kk : Int) - 1 < (ms.length : Int) := by omega
        have p3' := p3 h0
        have g4 : decide (rd ms kk ≤ rd ms ((kk : Int) - 1)) = false := by simp; omega
        generalize rd ms kk = x at *
        generalize rd ms ((kk : Int) - 1) = y at *
        go_wp2
        go_roundg (ms.length - (kk + 1))
        case measure => omega
        case rel => exact ⟨kk + 1, by omega, by omega, by go_num, ⟨_, rfl⟩⟩
      · have g3 : decide (0 < kk) = false := by simpa using h0
        generalize rd ms kk = x at *
        go_wp2
        go_roundg (ms.length - (kk + 1))
        case measure => omega
        case rel => exact ⟨kk + 1, by omega, by omega, by go_num, ⟨_, rfl⟩⟩
    · have hltz : ¬ (kk : Int) < (ms.length : Int) := by omega
      obtain rfl : kk = ms.length := by omega
      go_wp2
      go_ret
      exact ⟨rfl, pw_below_drewN HB.out q⟩
end Go.Proofs.Ytoodagohkepcpaa
