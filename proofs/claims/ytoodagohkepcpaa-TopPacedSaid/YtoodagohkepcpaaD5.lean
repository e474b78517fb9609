/- A ledger with one grant is asked. -/
import Derived.Test.YtoodagohkepcpaaD4
namespace Go.Proofs.Ytoodagohkepcpaa
open Go.RowKit Go.Shelf Go.Proofs.YtoodagohkepcpaaW.PrintWords
set_option maxRecDepth 100000

set_option maxHeartbeats 2000000 in
theorem asked_ok (v u n t : Int) (w : World) (hv : 1 ≤ v ∧ v ≤ 100) (hu : 1 ≤ u ∧ u ≤ 100) (hn : 0 ≤ n ∧ n ≤ 1099511627776) (ht : 0 ≤ t ∧ t ≤ 1099511627776) :
    Calls Try.prog 96 #[.int .i64 v, .int .i64 u, .int .i64 n, .int .i64 t] w fun e w' => e = .returned (.bool true) ∧ ∃ q, w' = w.drewN q := by
  have W1 := Aside0.mk (within_yes v 1 100 hv)
  have W2 := Aside0.mk (within_yes u 1 100 hu)
  have W3 := Aside0.mk (within_yes n 0 1099511627776 hn)
  have W4 := Aside0.mk (within_yes t 0 1099511627776 ht)
  clear hv hu hn ht
  go_enter Try.func96, Try.ntmps96
  go_wp2_with fail
  refine (W1.out _).mono ?_
  rintro e w1 ⟨rfl, q1, rfl⟩
  go_wp2_with fail
  refine (W2.out _).mono ?_
  rintro e w1 ⟨rfl, q2, rfl⟩
  go_wp2_with fail
  refine (W3.out _).mono ?_
  rintro e w1 ⟨rfl, q3, rfl⟩
  go_wp2_with fail
  refine (W4.out _).mono ?_
  rintro e w1 ⟨rfl, q4, rfl⟩
  go_wp2_with fail
  go_ret
  exact ⟨rfl, q1 + q2 + q3 + q4, by simp [World.drewN_drewN]⟩

def grantedB (g : Gr) (v n : Int) : Bool := decide (g.voice = v) && decide (g.used ≤ g.budget - n)
set_option maxHeartbeats 4000000 in
theorem find_ok (cls : Nat → Nat) (w : World) (Bg Ba c : Nat) (rest : List Value) (g : Gr) (v u n t : Int) (h : LedIn cls w Bg Ba c rest g) (hn : 0 ≤ n ∧ n ≤ 1099511627776) (ht : 0 ≤ t ∧ t < 1099511627776) (hg : 0 ≤ g.used ∧ g.used ≤ g.budget ∧ g.budget ≤ 1099511627776) :
    Calls Try.prog 97 #[.pointer (some ⟨Bg, 0, none⟩), .int .i64 v, .int .i64 u, .int .i64 n, .int .i64 t] w fun e w' => e = .returned (.int .i64 (if grantedB g v n = true then 0 else -1)) ∧ Below w.heap.size w w' := by
  have c0 : w.cell? ⟨Bg, 1, none⟩ = some (.slice (some ⟨Ba, 0, none⟩) 1 c) := blk_cell h.le 1
  have r0 : w.cell? ⟨Ba, 0, none⟩ = some (.int .i64 g.voice) := blk_cell h.ro 0
  have r1 : w.cell? ⟨Ba, 1, none⟩ = some (.int .i64 0) := blk_cell h.ro 1
  have r2 : w.cell? ⟨Ba, 2, none⟩ = some (.int .i64 0) := blk_cell h.ro 2
  have r3 : w.cell? ⟨Ba, 3, none⟩ = some (.int .i64 1099511627776) := blk_cell h.ro 3
  have r4 : w.cell? ⟨Ba, 4, none⟩ = some (.int .i64 g.budget) := blk_cell h.ro 4
  have r5 : w.cell? ⟨Ba, 5, none⟩ = some (.bool false) := blk_cell h.ro 5
  have r6 : w.cell? ⟨Ba, 6, none⟩ = some (.int .i64 g.used) := blk_cell h.ro 6
  have hba := blk_lt h.ro
  have hcap := h.cap
  obtain ⟨n0, n1⟩ := hn
  obtain ⟨t0, t1⟩ := ht
  obtain ⟨g0, g1, g2⟩ := hg
  clear h
  by_cases hv : g.voice = v
  · have hv1 : (g.voice != v) = false := by simpa using hv
    have hz : (0 : Int) ≤ g.budget - n + 4398046511104 := by omega
    by_cases hb : g.used ≤ g.budget - n
    · have hb1 : decide (g.used > g.budget - n) = false := by simp; omega
      have HG : Aside0 (grantedB g v n = true) := ⟨by simp [grantedB, hv, hb]⟩
      clear hv hb
      go_enter Try.func97, Try.ntmps97
      go_wp2
      go_step3
      go_wp2
      go_step3
      go_wp2
      go_loopg [11, 19] 1 (fun gg s11 s19 wr => s11 = .int .i64 (-1) ∧ s19 = .int .i64 0 ∧ wr = w)
      case atStart => exact ⟨rfl, rfl, rfl⟩
      case round =>
        obtain ⟨rfl, rfl, rfl⟩ := hrel
        go_wp2
        rw [Exit.noGoto_ret]
        go_ret
        exact ⟨by rw [HG.out]; rfl, below_alloc (Below.refl _ _) _⟩
    · have hb1 : decide (g.used > g.budget - n) = true := by simp; omega
      have HG : Aside0 (grantedB g v n = false) := ⟨by simp [grantedB, hv, hb]⟩
      clear hv hb
      go_enter Try.func97, Try.ntmps97
      go_wp2
      go_step3
      go_wp2
      go_step3
      go_wp2
      go_loopg [11, 19] 1 (fun gg s11 s19 wr => s11 = .int .i64 (-1) ∧ ((s19 = .int .i64 0 ∧ wr = w ∧ gg = 1) ∨ (s19 = .int .i64 1 ∧ Aside0 (Below w.heap.size w wr))))
      case atStart => exact ⟨rfl, .inl ⟨rfl, rfl, rfl⟩⟩
      case round =>
        obtain ⟨rfl, ⟨rfl, rfl, rfl⟩ | ⟨rfl, HB⟩⟩ := hrel
        · go_wp2
          go_roundg 0
          case measure => omega
          case rel => exact ⟨rfl, .inr ⟨rfl, ⟨below_alloc (Below.refl _ _) _⟩⟩⟩
        · go_wp2
          rw [Exit.noGoto_ret]
          go_ret
          exact ⟨by rw [HG.out]; rfl, HB.out⟩
  · have hv1 : (g.voice != v) = true := by simpa using hv
    have HG : Aside0 (grantedB g v n = false) := ⟨by simp [grantedB, hv]⟩
    clear hv
    go_enter Try.func97, Try.ntmps97
    go_wp2
    go_step3
    go_wp2
    go_step3
    go_wp2
    go_loopg [11, 19] 1 (fun gg s11 s19 wr => s11 = .int .i64 (-1) ∧ ((s19 = .int .i64 0 ∧ wr = w ∧ gg = 1) ∨ (s19 = .int .i64 1 ∧ Aside0 (Below w.heap.size w wr))))
    case atStart => exact ⟨rfl, .inl ⟨rfl, rfl, rfl⟩⟩
    case round =>
      obtain ⟨rfl, ⟨rfl, rfl, rfl⟩ | ⟨rfl, HB⟩⟩ := hrel
      · go_wp2
        go_roundg 0
        case measure => omega
        case rel => exact ⟨rfl, .inr ⟨rfl, ⟨below_alloc (Below.refl _ _) _⟩⟩⟩
      · go_wp2
        rw [Exit.noGoto_ret]
        go_ret
        exact ⟨by rw [HG.out]; rfl, HB.out⟩

theorem granted_some {g : Gr} {v n : Int} (h : grantedB g v n = true) : takeF g v n = some { g with used := g.used + n } := by
  unfold grantedB at h
  simp at h
  unfold takeF
  rw [if_pos h]
theorem granted_none {g : Gr} {v n : Int} (h : grantedB g v n = false) : takeF g v n = none := by
  unfold grantedB at h
  simp at h
  unfold takeF
  rw [if_neg (fun hh => by have := h hh.1; omega)]
theorem LedIn.below {cls : Nat → Nat} {W W' : World} {Bg Ba c : Nat} {rest : List Value} {g : Gr} (h : LedIn cls W Bg Ba c rest g) (hb : Below W.heap.size W W') : LedIn cls W' Bg Ba c rest g := ⟨pw_blk_below h.le hb, pw_blk_below h.ro hb, h.cap, h.kl⟩
section
variable (cls : Nat → Nat) (w : World) (Bg : Nat) (g : Gr) (v u n t : Int)
set_option maxHeartbeats 4000000 in
theorem Take_no (hL : LedAt cls w Bg g) (hv : 1 ≤ v ∧ v ≤ 100) (hu : 1 ≤ u ∧ u ≤ 100) (hn : 0 ≤ n ∧ n ≤ 1099511627776) (ht : 0 ≤ t ∧ t < 1099511627776) (hg : 0 ≤ g.used ∧ g.used ≤ g.budget ∧ g.budget ≤ 1099511627776) (h : grantedB g v n = false) :
    Calls Try.prog 95 #[.pointer (some ⟨Bg, 0, none⟩), .int .i64 v, .int .i64 u, .int .i64 n, .int .i64 t] w fun e w' => e = .returned (.tuple #[.int .i64 0, .int .i64 8]) ∧ Below w.heap.size w w' := by
  obtain ⟨Ba, c, rest, hI⟩ := hL
  have HA := Aside0.mk (fun W => asked_ok v u n t W hv hu hn ⟨ht.1, by omega⟩)
  have HF := Aside0.mk (fun W (hb : Below w.heap.size w W) => find_ok cls W Bg Ba c rest g v u n t (hI.below hb) hn ht hg)
  have HR := Aside0.mk (ready_led Bg w hI.le rfl)
  rw [h] at HF
  clear hI hv hu hn ht hg h
  go_enter Try.func95, Try.ntmps95
  go_wp2_with fail
  refine HR.out.mono ?_
  rintro e w1 ⟨rfl, q1, rfl⟩
  go_wp2_with fail
  refine (HA.out _).mono ?_
  rintro e w1 ⟨rfl, q2, rfl⟩
  have HB1 := Aside0.mk (pw_below_drewN (Below.refl w.heap.size w) (q1 + q2))
  go_wp2_with fail
  refine (HF.out _ HB1.out).mono ?_
  rintro e w1 ⟨rfl, hb⟩
  have HB2 := Aside0.mk (below_trans' HB1.out hb)
  clear hb HB1
  go_wp2
  go_ret2
  exact ⟨rfl, HB2.out⟩
set_option maxHeartbeats 4000000 in
theorem Take_yes (hL : LedAt cls w Bg g) (hv : 1 ≤ v ∧ v ≤ 100) (hu : 1 ≤ u ∧ u ≤ 100) (hn : 0 ≤ n ∧ n ≤ 1099511627776) (ht : 0 ≤ t ∧ t < 1099511627776) (hg : 0 ≤ g.used ∧ g.used ≤ g.budget ∧ g.budget ≤ 1099511627776) (h : grantedB g v n = true) :
    Calls Try.prog 95 #[.pointer (some ⟨Bg, 0, none⟩), .int .i64 v, .int .i64 u, .int .i64 n, .int .i64 t] w fun e w' => e = .returned (.tuple #[.int .i64 0, .int .i64 0]) ∧ LedAt cls w' Bg { g with used := g.used + n } ∧ Keeps (fun b => cls b ≠ 3) w w' := by
  obtain ⟨Ba, c, rest, hI⟩ := hL
  have HA := Aside0.mk (fun W => asked_ok v u n t W hv hu hn ⟨ht.1, by omega⟩)
  have HF := Aside0.mk (fun W (hb : Below w.heap.size w W) => find_ok cls W Bg Ba c rest g v u n t (hI.below hb) hn ht hg)
  have HR := Aside0.mk (ready_led Bg w hI.le rfl)
  rw [h] at HF
  have HI := Aside0.mk hI
  obtain ⟨n0, n1⟩ := hn
  obtain ⟨g0, g1, g2⟩ := hg
  clear hI hv hu ht h
  go_enter Try.func95, Try.ntmps95
  go_wp2_with fail
  refine HR.out.mono ?_
  rintro e w1 ⟨rfl, q1, rfl⟩
  go_wp2_with fail
  refine (HA.out _).mono ?_
  rintro e w1 ⟨rfl, q2, rfl⟩
  have HB1 := Aside0.mk (pw_below_drewN (Below.refl w.heap.size w) (q1 + q2))
  go_wp2_with fail
  refine (HF.out _ HB1.out).mono ?_
  rintro e w1 ⟨rfl, hb⟩
  have hb2 := below_trans' HB1.out hb
  have hI := HI.out.below hb2
  have c0 : w1.cell? ⟨Bg, 1, none⟩ = some (.slice (some ⟨Ba, 0, none⟩) 1 c) := blk_cell hI.le 1
  have c1 : w1.cell? ⟨Ba, 6, none⟩ = some (.int .i64 g.used) := blk_cell hI.ro 6
  have c2 : w1.frozen? ⟨Ba, 6, none⟩ = false := blk_frozen hI.ro 6
  have HZ : Aside0 (LedAt cls (w1.setCell ⟨Ba, 6, none⟩ (.int .i64 (g.used + n))) Bg { g with used := g.used + n } ∧ Keeps (fun b => cls b ≠ 3) w (w1.setCell ⟨Ba, 6, none⟩ (.int .i64 (g.used + n)))) :=
    ⟨⟨Ba, c, rest, blk_far hI.le (p := ⟨Ba, 6, none⟩) (blk_ne hI.le hI.ro (by decide)) _, blk_put hI.ro 6 _ (by simp [grantRow]), hI.cap, hI.kl⟩, (Keeps.of_below hb2).setCell (fun _ hh => hh hI.kl.2) _⟩
  clear hb hb2 HB1 hI HI HF HA HR
  go_wp2
  go_ret2
  exact ⟨rfl, HZ.out.1, HZ.out.2⟩
end
end Go.Proofs.Ytoodagohkepcpaa
