/- TopPaced returns true at every input: the reference's check of a piece, its comparison of news, and the walk. -/
import Derived.Test.YtoodagohkepcpaaN0
import Derived.Test.YtoodagohkepcpaaA3
import Derived.Test.YtoodagohkepcpaaE4
import Derived.Test.YtoodagohkepcpaaE5
import Derived.Test.YtoodagohkepcpaaB6
namespace Go.Proofs.Ytoodagohkepcpaa
open Go.RowKit Go.Shelf Go.Proofs.YtoodagohkepcpaaW.PrintWords
open Go.Proofs.Ytoodagohkepcpaa.PTopPaced (declaimref09_name.l0 declaimref09_name.f declaimref09_number.f declaimref09_Pace.f)

theorem number_any (a : Int) (W : World) : Calls Try.prog 35 #[.int .i64 a] W fun e w' => e = .returned (.bool (decide (1 ≤ a ∧ a ≤ 100))) ∧ ∃ q, w' = W.drewN q := by
  refine (PTopPaced.declaimref09_number.calls a (decide (1 ≤ a ∧ a ≤ 100)) W ?_).mono fun e w' ⟨he, hd⟩ => ⟨he, hd.out⟩
  unfold declaimref09_number.f
  by_cases h : a ≥ 1
  · rw [if_pos h]; congr 1; simp; omega
  · rw [if_neg h]; congr 1; simp; omega
theorem pace_any (a b : Int) (W : World) : Calls Try.prog 13 #[.agg #[.int .i64 a, .int .i64 b]] W fun e w' => e = .returned (.bool (decide ((1 ≤ a ∧ a ≤ 8) ∧ 1 ≤ b ∧ b ≤ 8))) ∧ Below W.heap.size W w' := by
  refine PTopPaced.declaimref09_Pace.calls a b _ W ?_
  unfold declaimref09_Pace.f
  by_cases h : a ≥ 1
  · rw [if_pos h]
    by_cases h2 : a ≤ 8
    · rw [if_pos h2]
      by_cases h3 : b ≥ 1
      · rw [if_pos h3]; congr 1; rw [decide_eq_decide]; omega
      · rw [if_neg h3]; congr 1; exact (decide_eq_false (by omega)).symm
    · rw [if_neg h2]; congr 1; exact (decide_eq_false (by omega)).symm
  · rw [if_neg h]; congr 1; exact (decide_eq_false (by omega)).symm

theorem name_l0 (s : ByteArray) (hs : s.size ≤ 9223372036854775807) : ∀ k j : Nat, s.size < j + k → j ≤ s.size → (∀ i : Nat, i < j → badByte (bt s (i : Int)) = false) →
    ∃ r, declaimref09_name.l0 k s (j : Int) = some r ∧ (r = true → 1 ≤ s.size ∧ s.size ≤ 40 ∧ ∀ i : Nat, i < s.size → badByte (bt s (i : Int)) = false) := by
  intro k
  induction k with
  | zero => intro j h1 h2; omega
  | succ k ih =>
    intro j h1 h2 hb
    unfold declaimref09_name.l0
    by_cases hlt : (j : Int) < (s.size : Int)
    · rw [if_pos hlt, if_pos (by omega)]
      by_cases c1 : bt s (j : Int) < 32
      · rw [if_pos c1]; exact ⟨false, rfl, by simp⟩
      · rw [if_neg c1]
        by_cases c2 : bt s (j : Int) > 126
        · rw [if_pos c2]; exact ⟨false, rfl, by simp⟩
        · rw [if_neg c2, show wrap64 ((j : Int) + 1) = ((j + 1 : Nat) : Int) from by unfold wrap64; omega]
          refine ih (j + 1) (by omega) (by omega) fun i hi => ?_
          rcases Nat.lt_or_ge i j with h | h
          · exact hb i h
          · obtain rfl : i = j := by omega
            unfold badByte
            simp only [Bool.or_eq_false_iff, decide_eq_false_iff_not]
            exact ⟨c1, c2⟩
    · rw [if_neg hlt]
      by_cases c : (s.size : Int) ≥ 1
      · rw [if_pos c]
        refine ⟨_, rfl, fun h => ⟨by omega, ?_, fun i hi => hb i (by omega)⟩⟩
        have := of_decide_eq_true h
        omega
      · rw [if_neg c]; exact ⟨false, rfl, by simp⟩
theorem name_any (s : ByteArray) (hs : s.size ≤ 9223372036854775807) : ∃ r : Bool, (r = true → okName s) ∧ ∀ W, Calls Try.prog 36 #[.string s] W fun e w' => e = .returned (.bool r) ∧ ∃ q, w' = W.drewN q := by
  obtain ⟨r, h1, h2⟩ := name_l0 s hs (s.size + 1) 0 (by omega) (by omega) (fun i hi => by omega)
  refine ⟨r, fun hr => ?_, fun W => (PTopPaced.declaimref09_name.calls (s.size + 1) s r W h1).mono fun e w' ⟨he, hd⟩ => ⟨he, hd.out⟩⟩
  obtain ⟨a, b, c⟩ := h2 hr
  refine ⟨a, b, ?_⟩
  rw [List.any_eq_false]
  intro x hx
  obtain ⟨i, hi, rfl⟩ := List.getElem_of_mem hx
  have hl := bytesOf_length s
  have h3 := c i (by omega)
  rw [← rd_bytesOf] at h3
  simpa [rd, List.getD_eq_getElem?_getD, hi] using h3

/-- The check's answer: where it is yes, the piece is as defined. -/
def Yes (p : S30) (e : Ending) : Prop := ∃ r : Bool, e = .returned (.bool r) ∧ (r = true → okPiece p)
set_option maxRecDepth 100000 in
set_option maxHeartbeats 16000000 in
theorem Piece_ok (A2 A3 A4 : Option Addr) (c2 c3 c4 : Nat) (p : S30) (w : World) (h2 : Kd.C (Kd.int .i64) w A2 p.f2.length p.f2) (h3 : Kd.C (Kd.int .i64) w A3 p.f3.length p.f3) (h4 : Kd.C k32 w A4 p.f4.length p.f4)
    (hz : ∀ i : Nat, i < p.f4.length → (rd_T32 p.f4 (i : Int)).f1.size ≤ 9223372036854775807) :
    Calls Try.prog 12 #[.agg #[.int .i64 p.f0, .int .i64 p.f1, .slice A2 p.f2.length c2, .slice A3 p.f3.length c3, .slice A4 p.f4.length c4, .int .i64 p.f5]] w fun e w' => Yes p e ∧ Below w.heap.size w w' := by
  obtain ⟨f0, f1, xs, ps, ss, f5⟩ := p
  dsimp only at *
  have hl2 : xs.length ≤ 9223372036854775807 := h2.2.1
  have hl3 : ps.length ≤ 9223372036854775807 := h3.2.1
  have hl4 : ss.length ≤ 9223372036854775807 := h4.2.1
  have H2 := Aside0.mk h2
  have H3 := Aside0.mk h3
  have H4 := Aside0.mk h4
  have HZ := Aside0.mk hz
  have N0 := number_any f0
  have N1 := number_any f1
  have hun := Try.underlying30
  clear h2 h3 h4 hz
  by_cases v1 : 1 ≤ f0 ∧ f0 ≤ 100
  rotate_left
  · rw [decide_eq_false v1] at N0
    go_enter Try.func12, Try.ntmps12
    go_wp2_with fail
    refine (N0 _).mono ?_
    rintro e w1 ⟨rfl, q0, rfl⟩
    clear N0
    go_wp2
    go_ret
    exact ⟨⟨false, rfl, fun h => (by cases h)⟩, by repeat (first | exact Below.refl _ _ | apply below_alloc | apply pw_below_drewN)⟩
  rw [decide_eq_true v1] at N0
  by_cases v2 : 1 ≤ f1 ∧ f1 ≤ 100
  rotate_left
  · rw [decide_eq_false v2] at N1
    go_enter Try.func12, Try.ntmps12
    go_wp2_with fail
    refine (N0 _).mono ?_
    rintro e w1 ⟨rfl, q0, rfl⟩
    clear N0
    go_wp2_with fail
    refine (N1 _).mono ?_
    rintro e w1 ⟨rfl, q1, rfl⟩
    clear N1
    go_wp2
    go_ret
    exact ⟨⟨false, rfl, fun h => (by cases h)⟩, by repeat (first | exact Below.refl _ _ | apply below_alloc | apply pw_below_drewN)⟩
  rw [decide_eq_true v2] at N1
  by_cases v3 : (xs.length : Int) > 40000
  · clear HZ
    go_enter Try.func12, Try.ntmps12
    go_wp2_with fail
    refine (N0 _).mono ?_
    rintro e w1 ⟨rfl, q0, rfl⟩
    clear N0
    go_wp2_with fail
    refine (N1 _).mono ?_
    rintro e w1 ⟨rfl, q1, rfl⟩
    clear N1
    go_wp2
    go_ret
    exact ⟨⟨false, rfl, fun h => (by cases h)⟩, by repeat (first | exact Below.refl _ _ | apply below_alloc | apply pw_below_drewN)⟩
  by_cases v4 : (ps.length : Int) > 1000
  · clear HZ
    go_enter Try.func12, Try.ntmps12
    go_wp2_with fail
    refine (N0 _).mono ?_
    rintro e w1 ⟨rfl, q0, rfl⟩
    clear N0
    go_wp2_with fail
    refine (N1 _).mono ?_
    rintro e w1 ⟨rfl, q1, rfl⟩
    clear N1
    go_wp2
    go_ret
    exact ⟨⟨false, rfl, fun h => (by cases h)⟩, by repeat (first | exact Below.refl _ _ | apply below_alloc | apply pw_below_drewN)⟩
  by_cases v5 : (ss.length : Int) > 50
  · clear HZ
    go_enter Try.func12, Try.ntmps12
    go_wp2_with fail
    refine (N0 _).mono ?_
    rintro e w1 ⟨rfl, q0, rfl⟩
    clear N0
    go_wp2_with fail
    refine (N1 _).mono ?_
    rintro e w1 ⟨rfl, q1, rfl⟩
    clear N1
    go_wp2
    go_ret
    exact ⟨⟨false, rfl, fun h => (by cases h)⟩, by repeat (first | exact Below.refl _ _ | apply below_alloc | apply pw_below_drewN)⟩
  by_cases v6 : f5 < 0
  · clear HZ
    go_enter Try.func12, Try.ntmps12
    go_wp2_with fail
    refine (N0 _).mono ?_
    rintro e w1 ⟨rfl, q0, rfl⟩
    clear N0
    go_wp2_with fail
    refine (N1 _).mono ?_
    rintro e w1 ⟨rfl, q1, rfl⟩
    clear N1
    go_wp2
    go_ret
    exact ⟨⟨false, rfl, fun h => (by cases h)⟩, by repeat (first | exact Below.refl _ _ | apply below_alloc | apply pw_below_drewN)⟩
  by_cases v7 : f5 > 1073741824
  · clear HZ
    go_enter Try.func12, Try.ntmps12
    go_wp2_with fail
    refine (N0 _).mono ?_
    rintro e w1 ⟨rfl, q0, rfl⟩
    clear N0
    go_wp2_with fail
    refine (N1 _).mono ?_
    rintro e w1 ⟨rfl, q1, rfl⟩
    clear N1
    go_wp2
    go_ret
    exact ⟨⟨false, rfl, fun h => (by cases h)⟩, by repeat (first | exact Below.refl _ _ | apply below_alloc | apply pw_below_drewN)⟩
  have BK := blk_new w (.cells #[.int .i64 f0, .int .i64 f1, .slice A2 xs.length c2, .slice A3 ps.length c3, .slice A4 ss.length c4, .int .i64 f5] 30)
  have HB : Below w.heap.size w (w.alloc (.cells #[.int .i64 f0, .int .i64 f1, .slice A2 xs.length c2, .slice A3 ps.length c3, .slice A4 ss.length c4, .int .i64 f5] 30)) := below_alloc (Below.refl _ _) _
  have hb2 : (w.alloc (.cells #[.int .i64 f0, .int .i64 f1, .slice A2 xs.length c2, .slice A3 ps.length c3, .slice A4 ss.length c4, .int .i64 f5] 30)).cell? ⟨w.heap.size, 2, none⟩ = some (.slice A2 xs.length c2) := blk_cell BK 2
  have hb3 : (w.alloc (.cells #[.int .i64 f0, .int .i64 f1, .slice A2 xs.length c2, .slice A3 ps.length c3, .slice A4 ss.length c4, .int .i64 f5] 30)).cell? ⟨w.heap.size, 3, none⟩ = some (.slice A3 ps.length c3) := blk_cell BK 3
  have hb4 : (w.alloc (.cells #[.int .i64 f0, .int .i64 f1, .slice A2 xs.length c2, .slice A3 ps.length c3, .slice A4 ss.length c4, .int .i64 f5] 30)).cell? ⟨w.heap.size, 4, none⟩ = some (.slice A4 ss.length c4) := blk_cell BK 4
  have Q2 := Aside0.mk hb2
  have Q3 := Aside0.mk hb3
  have Q4 := Aside0.mk hb4
  have QB := Aside0.mk HB
  have QC : Aside0 (∀ a v, w.cell? a = some v → (w.alloc (.cells #[.int .i64 f0, .int .i64 f1, .slice A2 xs.length c2, .slice A3 ps.length c3, .slice A4 ss.length c4, .int .i64 f5] 30)).cell? a = some v) := ⟨fun a v h => pw_cell_below HB h⟩
  clear BK hb2 hb3 hb4 HB
  go_enter Try.func12, Try.ntmps12
  go_wp2_with fail
  refine (N0 _).mono ?_
  rintro e w1 ⟨rfl, q0, rfl⟩
  clear N0
  go_wp2_with fail
  refine (N1 _).mono ?_
  rintro e w1 ⟨rfl, q1, rfl⟩
  clear N1
  go_wp2
  generalize (w.alloc (.cells #[.int .i64 f0, .int .i64 f1, .slice A2 xs.length c2, .slice A3 ps.length c3, .slice A4 ss.length c4, .int .i64 f5] 30)) = X at *
  generalize hgb : w.heap.size = gb at *
  have HG := Aside0.mk hgb
  clear hgb
  go_loopg [3] xs.length (fun gg s15 wr => ∃ kk : Nat, kk ≤ xs.length ∧ xs.length - kk ≤ gg ∧ s15 = .int .i64 kk ∧ Aside0 (∃ n, wr = X.drewN n) ∧ Aside0 (∀ i : Nat, i < kk → badPiece (rd xs (i : Int)) = false))
  case atStart => exact ⟨0, Nat.zero_le _, by omega, rfl, ⟨⟨_, (by first | rfl | exact (World.drewN_drewN ..))⟩⟩, ⟨fun i hi => by omega⟩⟩
  case round =>
    obtain ⟨kk, hkk, hg, rfl, ⟨q, rfl⟩, HS⟩ := hrel
    have hb2 := Q2.out
    by_cases hlt : kk < xs.length
    · have hltz : (kk : Int) < (xs.length : Int) := by omega
      obtain ⟨ad, rfl, hcell⟩ := Kd.at_int H2.out (kk : Int) (by omega) (by omega)
      rw [Int.toNat_natCast] at hcell
      replace hcell := QC.out _ _ hcell
      by_cases d1 : rd xs (kk : Int) < -32768
      · have g1 : decide (rd xs (kk : Int) < -32768) = true := decide_eq_true d1
        generalize rd xs (kk : Int) = x at *
        go_wp2
        go_ret
        exact ⟨⟨false, rfl, fun h => (by cases h)⟩, by repeat (first | exact QB.out | (rw [HG.out]; exact QB.out) | apply pw_below_drewN)⟩
      · have g1 : decide (rd xs (kk : Int) < -32768) = false := decide_eq_false d1
        by_cases d2 : rd xs (kk : Int) > 32767
        · have g2 : decide (rd xs (kk : Int) > 32767) = true := decide_eq_true d2
          have g2' : decide (32767 < rd xs (kk : Int)) = true := decide_eq_true d2
          generalize rd xs (kk : Int) = x at *
          go_wp2
          go_ret
          exact ⟨⟨false, rfl, fun h => (by cases h)⟩, by repeat (first | exact QB.out | (rw [HG.out]; exact QB.out) | apply pw_below_drewN)⟩
        · have g2 : decide (rd xs (kk : Int) > 32767) = false := decide_eq_false d2
          have g2' : decide (32767 < rd xs (kk : Int)) = false := decide_eq_false d2
          have HS' : Aside0 (∀ i : Nat, i < kk + 1 → badPiece (rd xs (i : Int)) = false) := ⟨fun i hi => by
            rcases Nat.lt_or_ge i kk with h | h
            · exact HS.out i h
            · obtain rfl : i = kk := by omega
              unfold badPiece
              rw [inB_iff.2 ⟨by omega, by omega⟩]
              rfl⟩
          clear HS
          generalize rd xs (kk : Int) = x at hcell d1 g1 d2 g2 g2'
          go_wp2
          go_roundg (xs.length - (kk + 1))
          case measure => omega
          case rel => exact ⟨kk + 1, by omega, by omega, by go_num, ⟨⟨_, (by first | rfl | exact (World.drewN_drewN ..))⟩⟩, HS'⟩
    · have hltz : ¬ (kk : Int) < (xs.length : Int) := by omega
      obtain rfl : kk = xs.length := by omega
      go_wp2
      have VX : Aside0 (xs.any badPiece = false) := ⟨by
        rw [List.any_eq_false]
        intro x hx
        obtain ⟨i, hi, rfl⟩ := List.getElem_of_mem hx
        have := HS.out i hi
        simpa [rd, List.getD_eq_getElem?_getD, hi] using this⟩
      clear HS hb2
      have hb2 := Q2.out
      have hb3 := Q3.out
      go_loopg [4] ps.length (fun gg s15 wr => ∃ kk : Nat, kk ≤ ps.length ∧ ps.length - kk ≤ gg ∧ s15 = .int .i64 kk ∧ Aside0 (∃ n, wr = X.drewN n) ∧ Aside0 (∀ i : Nat, i < kk → 0 ≤ rd ps (i : Int) ∧ rd ps (i : Int) ≤ (xs.length : Int) - 1 ∧ (0 < i → rd ps ((i : Int) - 1) < rd ps (i : Int))))
      case atStart => exact ⟨0, Nat.zero_le _, by omega, rfl, ⟨⟨_, (by first | rfl | exact (World.drewN_drewN ..))⟩⟩, ⟨fun i hi => by omega⟩⟩
      case round =>
        obtain ⟨kk, hkk, hg, rfl, ⟨q', rfl⟩, HS⟩ := hrel
        by_cases hlt : kk < ps.length
        · have hltz : (kk : Int) < (ps.length : Int) := by omega
          obtain ⟨ad, rfl, hcell⟩ := Kd.at_int H3.out (kk : Int) (by omega) (by omega)
          rw [Int.toNat_natCast] at hcell
          replace hcell := QC.out _ _ hcell
          by_cases d1 : rd ps (kk : Int) < 0
          · have g1 : decide (rd ps (kk : Int) < 0) = true := decide_eq_true d1
            generalize rd ps (kk : Int) = x at hcell d1 g1
            clear HS
            go_wp2
            go_quiet (fail)
            go_wp2
            go_ret
            exact ⟨⟨false, rfl, fun h => (by cases h)⟩, by repeat (first | exact QB.out | (rw [HG.out]; exact QB.out) | apply pw_below_drewN)⟩
          · have g1 : decide (rd ps (kk : Int) < 0) = false := decide_eq_false d1
            by_cases d2 : rd ps (kk : Int) ≥ (xs.length : Int)
            · have g2 : decide (rd ps (kk : Int) ≥ (xs.length : Int)) = true := decide_eq_true d2
              have g2' : decide ((xs.length : Int) ≤ rd ps (kk : Int)) = true := decide_eq_true d2
              generalize rd ps (kk : Int) = x at hcell d1 g1 d2 g2 g2'
              clear HS
              go_wp2
              go_quiet (fail)
              go_wp2
              go_ret
              exact ⟨⟨false, rfl, fun h => (by cases h)⟩, by repeat (first | exact QB.out | (rw [HG.out]; exact QB.out) | apply pw_below_drewN)⟩
            · have g2 : decide (rd ps (kk : Int) ≥ (xs.length : Int)) = false := decide_eq_false d2
              have g2' : decide ((xs.length : Int) ≤ rd ps (kk : Int)) = false := decide_eq_false d2
              by_cases h0 : 0 < kk
              · have g3 : decide (0 < kk) = true := by simpa using h0
                have g3' : decide ((kk : Int) > 0) = true := by simpa using h0
                have g3'' : decide (0 < (kk : Int)) = true := by simpa using h0
                obtain ⟨ad', e', hcell'⟩ := Kd.at_int H3.out ((kk : Int) - 1) (by omega) (by omega)
                cases e'
                rw [show ((kk : Int) - 1).toNat = kk - 1 from by omega] at hcell'
                replace hcell' := QC.out _ _ hcell'
                have hn0 : (0 : Int) ≤ (kk : Int) - 1 := by omega
                have hn1 : (kk : Int) - 1 < (ps.length : Int) := by omega
                have hwr : IntKind.i64.wrap ((kk : Int) - 1) = (kk : Int) - 1 := IntWalk.i64_in _ (by omega)
                have hwt : ((kk : Int) - 1).toNat = kk - 1 := by omega
                by_cases d4 : rd ps (kk : Int) ≤ rd ps ((kk : Int) - 1)
                · have g4 : decide (rd ps (kk : Int) ≤ rd ps ((kk : Int) - 1)) = true := decide_eq_true d4
                  generalize rd ps (kk : Int) = x at hcell d1 g1 d2 g2 g2' d4 g4
                  generalize rd ps ((kk : Int) - 1) = y at hcell' d4 g4
                  clear HS
                  go_wp2
                  go_quiet (fail)
                  go_wp2
                  go_ret
                  exact ⟨⟨false, rfl, fun h => (by cases h)⟩, by repeat (first | exact QB.out | (rw [HG.out]; exact QB.out) | apply pw_below_drewN)⟩
                · have g4 : decide (rd ps (kk : Int) ≤ rd ps ((kk : Int) - 1)) = false := decide_eq_false d4
                  have HS' : Aside0 (∀ i : Nat, i < kk + 1 → 0 ≤ rd ps (i : Int) ∧ rd ps (i : Int) ≤ (xs.length : Int) - 1 ∧ (0 < i → rd ps ((i : Int) - 1) < rd ps (i : Int))) := ⟨fun i hi => by
                    rcases Nat.lt_or_ge i kk with h | h
                    · exact HS.out i h
                    · obtain rfl : i = kk := by omega
                      exact ⟨by omega, by omega, fun _ => by omega⟩⟩
                  clear HS
                  generalize rd ps (kk : Int) = x at hcell d1 g1 d2 g2 g2' d4 g4
                  generalize rd ps ((kk : Int) - 1) = y at hcell' d4 g4
                  go_wp2
                  go_quiet (fail)
                  clear hwr hwt
                  go_wp2
                  go_roundg (ps.length - (kk + 1))
                  case measure => omega
                  case rel => exact ⟨kk + 1, by omega, by omega, by go_num, ⟨⟨_, (by first | rfl | exact (World.drewN_drewN ..))⟩⟩, HS'⟩
              · have g3 : decide (0 < kk) = false := by simpa using h0
                have g3' : decide ((kk : Int) > 0) = false := by simpa using h0
                have g3'' : decide (0 < (kk : Int)) = false := by simpa using h0
                have HS' : Aside0 (∀ i : Nat, i < kk + 1 → 0 ≤ rd ps (i : Int) ∧ rd ps (i : Int) ≤ (xs.length : Int) - 1 ∧ (0 < i → rd ps ((i : Int) - 1) < rd ps (i : Int))) := ⟨fun i hi => by
                  obtain rfl : i = kk := by omega
                  exact ⟨by omega, by omega, fun h => by omega⟩⟩
                clear HS
                generalize rd ps (kk : Int) = x at hcell d1 g1 d2 g2 g2'
                go_wp2
                go_quiet (fail)
                go_wp2
                go_roundg (ps.length - (kk + 1))
                case measure => omega
                case rel => exact ⟨kk + 1, by omega, by omega, by go_num, ⟨⟨_, (by first | rfl | exact (World.drewN_drewN ..))⟩⟩, HS'⟩
        · have hltz : ¬ (kk : Int) < (ps.length : Int) := by omega
          obtain rfl : kk = ps.length := by omega
          go_wp2
          have VP : Aside0 (okPeriods xs.length ps) := ⟨⟨by omega, HS.out⟩⟩
          clear HS hb3
          have hb4 := Q4.out
          go_loopg [5] ss.length (fun gg s15 wr => ∃ kk : Nat, kk ≤ ss.length ∧ ss.length - kk ≤ gg ∧ s15 = .int .i64 kk ∧ Aside0 (∃ n, wr = X.drewN n) ∧ Aside0 (∀ i : Nat, i < kk → 0 ≤ (rd_T32 ss i).f0 ∧ (rd_T32 ss i).f0 ≤ (xs.length : Int) ∧ okName (rd_T32 ss i).f1 ∧ (0 < i → (rd_T32 ss ((i : Int) - 1)).f0 ≤ (rd_T32 ss i).f0)))
          case atStart => exact ⟨0, Nat.zero_le _, by omega, rfl, ⟨⟨_, (by first | rfl | exact (World.drewN_drewN ..))⟩⟩, ⟨fun i hi => by omega⟩⟩
          case round =>
            obtain ⟨kk, hkk, hg, rfl, ⟨q'', rfl⟩, HS⟩ := hrel
            by_cases hlt : kk < ss.length
            · have hltz : (kk : Int) < (ss.length : Int) := by omega
              obtain ⟨ad, rfl, hcell, hcelln⟩ := at_T32 H4.out (kk : Int) (by omega) (by omega)
              rw [Int.toNat_natCast] at hcell hcelln
              replace hcell := QC.out _ _ hcell
              replace hcelln := QC.out _ _ hcelln
              obtain ⟨r, hr, HNm⟩ := name_any _ (HZ.out kk hlt)
              have HR := Aside0.mk hr
              clear hr
              by_cases d1 : (rd_T32 ss (kk : Int)).f0 < 0
              · have g1 : decide ((rd_T32 ss (kk : Int)).f0 < 0) = true := decide_eq_true d1
                clear HR
                generalize (rd_T32 ss (kk : Int)).f0 = x at hcell d1 g1
                generalize (rd_T32 ss (kk : Int)).f1 = nm at hcelln HNm
                clear HS
                go_wp2
                go_quiet (fail)
                go_wp2
                go_ret
                exact ⟨⟨false, rfl, fun h => (by cases h)⟩, by repeat (first | exact QB.out | (rw [HG.out]; exact QB.out) | apply pw_below_drewN)⟩
              · have g1 : decide ((rd_T32 ss (kk : Int)).f0 < 0) = false := decide_eq_false d1
                by_cases d2 : (rd_T32 ss (kk : Int)).f0 > (xs.length : Int)
                · have g2 : decide ((rd_T32 ss (kk : Int)).f0 > (xs.length : Int)) = true := decide_eq_true d2
                  have g2' : decide ((xs.length : Int) < (rd_T32 ss (kk : Int)).f0) = true := decide_eq_true d2
                  clear HR
                  generalize (rd_T32 ss (kk : Int)).f0 = x at hcell d1 g1 d2 g2 g2'
                  generalize (rd_T32 ss (kk : Int)).f1 = nm at hcelln HNm
                  clear HS
                  go_wp2
                  go_quiet (fail)
                  go_wp2
                  go_ret
                  exact ⟨⟨false, rfl, fun h => (by cases h)⟩, by repeat (first | exact QB.out | (rw [HG.out]; exact QB.out) | apply pw_below_drewN)⟩
                · have g2 : decide ((rd_T32 ss (kk : Int)).f0 > (xs.length : Int)) = false := decide_eq_false d2
                  have g2' : decide ((xs.length : Int) < (rd_T32 ss (kk : Int)).f0) = false := decide_eq_false d2
                  by_cases h0 : 0 < kk
                  · have g3 : decide (0 < kk) = true := by simpa using h0
                    have g3' : decide ((kk : Int) > 0) = true := by simpa using h0
                    have g3'' : decide (0 < (kk : Int)) = true := by simpa using h0
                    obtain ⟨ad', e', hcell', _⟩ := at_T32 H4.out ((kk : Int) - 1) (by omega) (by omega)
                    cases e'
                    rw [show ((kk : Int) - 1).toNat = kk - 1 from by omega] at hcell'
                    replace hcell' := QC.out _ _ hcell'
                    have hn0 : (0 : Int) ≤ (kk : Int) - 1 := by omega
                    have hn1 : (kk : Int) - 1 < (ss.length : Int) := by omega
                    have hwr : IntKind.i64.wrap ((kk : Int) - 1) = (kk : Int) - 1 := IntWalk.i64_in _ (by omega)
                    have hwt : ((kk : Int) - 1).toNat = kk - 1 := by omega
                    have hk1 : (1 : Int) ≤ (kk : Int) := by omega
                    have hk2 : 1 ≤ kk := by omega
                    have hk3 : (kk : Int) < (ss.length : Int) + 1 := by omega
                    by_cases d4 : (rd_T32 ss (kk : Int)).f0 < (rd_T32 ss ((kk : Int) - 1)).f0
                    · have g4 : decide ((rd_T32 ss (kk : Int)).f0 < (rd_T32 ss ((kk : Int) - 1)).f0) = true := decide_eq_true d4
                      clear HR
                      generalize (rd_T32 ss (kk : Int)).f0 = x at hcell d1 g1 d2 g2 g2' d4 g4
                      generalize (rd_T32 ss (kk : Int)).f1 = nm at hcelln HNm
                      generalize (rd_T32 ss ((kk : Int) - 1)).f0 = y at hcell' d4 g4
                      clear HS
                      go_wp2
                      go_quiet (fail)
                      go_wp2
                      go_ret
                      exact ⟨⟨false, rfl, fun h => (by cases h)⟩, by repeat (first | exact QB.out | (rw [HG.out]; exact QB.out) | apply pw_below_drewN)⟩
                    · have g4 : decide ((rd_T32 ss (kk : Int)).f0 < (rd_T32 ss ((kk : Int) - 1)).f0) = false := decide_eq_false d4
                      have HS' : Aside0 (r = true → ∀ i : Nat, i < kk + 1 → 0 ≤ (rd_T32 ss i).f0 ∧ (rd_T32 ss i).f0 ≤ (xs.length : Int) ∧ okName (rd_T32 ss i).f1 ∧ (0 < i → (rd_T32 ss ((i : Int) - 1)).f0 ≤ (rd_T32 ss i).f0)) := ⟨fun hr i hi => by
                        rcases Nat.lt_or_ge i kk with h | h
                        · exact HS.out i h
                        · obtain rfl : i = kk := by omega
                          exact ⟨by omega, by omega, HR.out hr, fun _ => by omega⟩⟩
                      clear HS HR
                      generalize (rd_T32 ss (kk : Int)).f0 = x at hcell d1 g1 d2 g2 g2' d4 g4
                      generalize (rd_T32 ss (kk : Int)).f1 = nm at hcelln HNm
                      generalize (rd_T32 ss ((kk : Int) - 1)).f0 = y at hcell' d4 g4
                      cases r
                      · clear HS'
                        go_wp2
                        go_quiet (first | (go_at_call 36; refine (HNm _).mono ?_; rintro e w'' ⟨he, m, hm⟩; exact ⟨he, _, hm.trans ((World.drewN_drewN ..).trans (congrArg X.drewN (Nat.add_assoc q'' _ m)))⟩))
                        go_wp2
                        go_ret
                        exact ⟨⟨false, rfl, fun h => (by cases h)⟩, by repeat (first | exact QB.out | (rw [HG.out]; exact QB.out) | apply pw_below_drewN)⟩
                      · go_wp2
                        go_quiet (first | (go_at_call 36; refine (HNm _).mono ?_; rintro e w'' ⟨he, m, hm⟩; exact ⟨he, _, hm.trans ((World.drewN_drewN ..).trans (congrArg X.drewN (Nat.add_assoc q'' _ m)))⟩))
                        clear hwr hwt
                        go_wp2
                        go_roundg (ss.length - (kk + 1))
                        case measure => omega
                        case rel => exact ⟨kk + 1, by omega, by omega, by go_num, ⟨⟨_, (by first | rfl | exact (World.drewN_drewN ..))⟩⟩, ⟨HS'.out trivial⟩⟩
                  · have g3 : decide (0 < kk) = false := by simpa using h0
                    have g3' : decide ((kk : Int) > 0) = false := by simpa using h0
                    have g3'' : decide (0 < (kk : Int)) = false := by simpa using h0
                    have HS' : Aside0 (r = true → ∀ i : Nat, i < kk + 1 → 0 ≤ (rd_T32 ss i).f0 ∧ (rd_T32 ss i).f0 ≤ (xs.length : Int) ∧ okName (rd_T32 ss i).f1 ∧ (0 < i → (rd_T32 ss ((i : Int) - 1)).f0 ≤ (rd_T32 ss i).f0)) := ⟨fun hr i hi => by
                      obtain rfl : i = kk := by omega
                      exact ⟨by omega, by omega, HR.out hr, fun _ => by omega⟩⟩
                    clear HS HR
                    generalize (rd_T32 ss (kk : Int)).f0 = x at hcell d1 g1 d2 g2 g2'
                    generalize (rd_T32 ss (kk : Int)).f1 = nm at hcelln HNm
                    cases r
                    · clear HS'
                      go_wp2
                      go_quiet (first | (go_at_call 36; refine (HNm _).mono ?_; rintro e w'' ⟨he, m, hm⟩; exact ⟨he, _, hm.trans ((World.drewN_drewN ..).trans (congrArg X.drewN (Nat.add_assoc q'' _ m)))⟩))
                      go_wp2
                      go_ret
                      exact ⟨⟨false, rfl, fun h => (by cases h)⟩, by repeat (first | exact QB.out | (rw [HG.out]; exact QB.out) | apply pw_below_drewN)⟩
                    · go_wp2
                      go_quiet (first | (go_at_call 36; refine (HNm _).mono ?_; rintro e w'' ⟨he, m, hm⟩; exact ⟨he, _, hm.trans ((World.drewN_drewN ..).trans (congrArg X.drewN (Nat.add_assoc q'' _ m)))⟩))
                      go_wp2
                      go_roundg (ss.length - (kk + 1))
                      case measure => omega
                      case rel => exact ⟨kk + 1, by omega, by omega, by go_num, ⟨⟨_, (by first | rfl | exact (World.drewN_drewN ..))⟩⟩, ⟨HS'.out trivial⟩⟩
            · have hltz : ¬ (kk : Int) < (ss.length : Int) := by omega
              obtain rfl : kk = ss.length := by omega
              go_wp2
              go_ret
              exact ⟨⟨true, rfl, fun _ => ⟨v1, v2, ⟨v6, v7⟩, by dsimp only; omega, VX.out, VP.out, by dsimp only; omega, HS.out⟩⟩, by repeat (first | exact QB.out | (rw [HG.out]; exact QB.out) | apply pw_below_drewN)⟩

end Go.Proofs.Ytoodagohkepcpaa

namespace Go.Proofs.Ytoodagohkepcpaa
open Go.RowKit Go.Shelf Go.Proofs.YtoodagohkepcpaaW.PrintWords
open Go.Proofs.Ytoodagohkepcpaa.PTopPaced (declaimref09_Alike.l0 declaimref09_Alike.f)

def cv75 (x : S75) : PTopPaced.S75 := ⟨x.f0, x.f1, x.f2, x.f3⟩
def ev75 (x : PTopPaced.S75) : List Value := [.int .i64 x.f0, .int .i64 x.f1, .int .i64 x.f2, .string x.f3]
theorem flat_cv (xs : List S75) : Flat e75 xs = Flat ev75 (xs.map cv75) := by simp only [Flat, List.flatMap_map]; rfl
theorem own_cv {w : World} {base : Nat} {v : Value} {xs : List S75} {n : Nat} (hn : n = xs.length) (h : w.ownsRow base 75 4 v n (Flat e75 xs)) : ∃ A c, v = .slice A (xs.map cv75).length c ∧ (xs.map cv75).length ≤ c ∧ Kd.C PTopPaced.k75 w A (xs.map cv75).length (xs.map cv75) := by
  subst hn
  refine own_flat PTopPaced.k75 (enc := ev75) (fun _ => rfl) (fun w x => PTopPaced.k75_mk w x) (base := base) (e := 75) (v := v) (xs := xs.map cv75) ?_
  rw [← flat_cv, List.length_map]
  exact h
theorem Alike_l0 (xs : List PTopPaced.S75) (h : xs.length ≤ 1000000) : ∀ k j : Nat, xs.length < j + k → j ≤ xs.length → declaimref09_Alike.l0 k xs xs (j : Int) = some true := by
  intro k
  induction k with
  | zero => intro j h1 h2; omega
  | succ k ih =>
    intro j h1 h2
    unfold declaimref09_Alike.l0
    by_cases hlt : (j : Int) < (xs.length : Int)
    · rw [if_pos hlt, if_pos (by omega), if_pos hlt, if_neg (by simp), show wrap64 ((j : Int) + 1) = ((j + 1 : Nat) : Int) from by unfold wrap64; omega]
      exact ih (j + 1) (by omega) (by omega)
    · rw [if_neg hlt]
theorem Alike_true {base base' : Nat} {v v' : Value} {n : Nat} (xs : List S75) (w : World) (hn : n = xs.length) (h : w.ownsRow base 75 4 v n (Flat e75 xs)) (h' : w.ownsRow base' 75 4 v' n (Flat e75 xs)) (hl : xs.length ≤ 1000000) :
    Calls Try.prog 15 #[v, v'] w fun e w' => e = .returned (.bool true) ∧ ∃ q, w' = w.drewN q := by
  obtain ⟨A, c, rfl, hc, hC⟩ := own_cv hn h
  obtain ⟨A', c', rfl, hc', hC'⟩ := own_cv hn h'
  refine (PTopPaced.declaimref09_Alike.calls (xs.length + 1) A c _ A' c' _ true w hC hc hC' hc' ?_).mono ?_
  · unfold declaimref09_Alike.f
    rw [if_pos rfl]
    exact Alike_l0 _ (by simpa using hl) (xs.length + 1) 0 (by simp) (by simp)
  · rintro e w' ⟨he, hd⟩
    exact ⟨he, hd.out⟩

end Go.Proofs.Ytoodagohkepcpaa

namespace Go.Proofs.Ytoodagohkepcpaa
open Go.RowKit Go.Shelf Go.Proofs.YtoodagohkepcpaaW.PrintWords

set_option maxRecDepth 100000 in
set_option maxHeartbeats 16000000 in
theorem TopPaced_calls (A2 A3 A4 Ap : Option Addr) (c2 c3 c4 cp : Nat) (p : S30) (num den : Int) (parts : List Int) (w : World)
    (h2 : Kd.C (Kd.int .i64) w A2 p.f2.length p.f2) (hc2 : p.f2.length ≤ c2) (h3 : Kd.C (Kd.int .i64) w A3 p.f3.length p.f3) (h4 : Kd.C k32 w A4 p.f4.length p.f4) (hc4 : p.f4.length ≤ c4)
    (hz : ∀ i : Nat, i < p.f4.length → (rd_T32 p.f4 (i : Int)).f1.size ≤ 9223372036854775807) (hpa : Kd.C (Kd.int .i64) w Ap parts.length parts) :
    Calls Try.prog 4 #[.agg #[.int .i64 p.f0, .int .i64 p.f1, .slice A2 p.f2.length c2, .slice A3 p.f3.length c3, .slice A4 p.f4.length c4, .int .i64 p.f5], .agg #[.int .i64 num, .int .i64 den], .slice Ap parts.length cp] w
      fun e w' => e = .returned (.bool true) ∧ Below w.heap.size w w' := by
  have HP := Aside0.mk (fun (W : World) (hb : Below w.heap.size w W) => Piece_ok A2 A3 A4 c2 c3 c4 p W (Kd.C_below h2 hb) (Kd.C_below h3 hb) (Kd.C_below h4 hb) hz)
  have HQ := Aside0.mk (fun (W : World) (hb : Below w.heap.size w W) (hp : okPiece ⟨p.f0, p.f1, p.f2, p.f3, p.f4, 0⟩) (hnum : 1 ≤ num ∧ num ≤ 8) (hden : 1 ≤ den ∧ den ≤ 8) => Paced_ok num den A2 A3 A4 c2 c3 c4 ⟨p.f0, p.f1, p.f2, p.f3, p.f4, 0⟩ W (Kd.C_below h2 hb) hc2 (Kd.C_below h3 hb) (Kd.C_below h4 hb) hc4 hp hnum hden)
  have HS := Aside0.mk (fun (W : World) (hb : Below w.heap.size w W) (hp : okPiece ⟨p.f0, p.f1, p.f2, p.f3, p.f4, 0⟩) (hnum : 1 ≤ num ∧ num ≤ 8) (hden : 1 ≤ den ∧ den ≤ 8) (hpl : parts.length ≤ 6) (hpb : ∀ i : Nat, i < parts.length → 0 ≤ rd parts (i : Int) ∧ rd parts (i : Int) ≤ 200) => spoken_ok W A2 A3 A4 Ap c2 c3 c4 cp ⟨p.f0, p.f1, p.f2, p.f3, p.f4, 0⟩ num den parts (Kd.C_below h2 hb) (Kd.C_below h3 hb) (Kd.C_below h4 hb) hp rfl hnum hden (Kd.C_below hpa hb) hpl hpb)
  have HS2 := Aside0.mk (fun (W : World) (hb : Below w.heap.size w W) (B2 B4 : Option Addr) (d2 d4 : Nat) (q : S30) (g2 : Kd.C (Kd.int .i64) W B2 q.f2.length q.f2) (g3 : q.f3 = []) (g4 : Kd.C k32 W B4 q.f4.length q.f4) (hp : okPiece q) (h5 : q.f5 = 0) (hpl : parts.length ≤ 6) (hpb : ∀ i : Nat, i < parts.length → 0 ≤ rd parts (i : Int) ∧ rd parts (i : Int) ≤ 200) => spoken_ok W B2 none B4 Ap d2 0 d4 cp q 1 1 parts g2 (by rw [g3]; exact ⟨rfl, by decide, fun h => absurd h (by decide)⟩) g4 hp h5 (by decide) (by decide) (Kd.C_below hpa hb) hpl hpb)
  have HA := Aside0.mk hpa
  have hl2 : p.f2.length ≤ 9223372036854775807 := h2.2.1
  have hlp : parts.length ≤ 9223372036854775807 := hpa.2.1
  clear h2 h3 h4 hc2 hc4 hz hpa
  obtain ⟨f0, f1, xs, ps, ss, f5⟩ := p
  dsimp only at *
  have HK := Aside0.mk known_true
  have BP : ((w.alloc (.cells #[.int .i64 f0, .int .i64 f1, .slice A2 xs.length c2, .slice A3 ps.length c3, .slice A4 ss.length c4, .int .i64 f5] 30)).alloc (.cells #[.int .i64 num, .int .i64 den] 38)).heap[w.heap.size]? = some (.cells #[.int .i64 f0, .int .i64 f1, .slice A2 xs.length c2, .slice A3 ps.length c3, .slice A4 ss.length c4, .int .i64 f5] 30) := blk_alloc (blk_new _ _) _
  have BQ : ((w.alloc (.cells #[.int .i64 f0, .int .i64 f1, .slice A2 xs.length c2, .slice A3 ps.length c3, .slice A4 ss.length c4, .int .i64 f5] 30)).alloc (.cells #[.int .i64 num, .int .i64 den] 38)).heap[w.heap.size + 1]? = some (.cells #[.int .i64 num, .int .i64 den] 38) := blk_new' (by simp) _
  have HB : Below w.heap.size w ((w.alloc (.cells #[.int .i64 f0, .int .i64 f1, .slice A2 xs.length c2, .slice A3 ps.length c3, .slice A4 ss.length c4, .int .i64 f5] 30)).alloc (.cells #[.int .i64 num, .int .i64 den] 38)) := below_alloc (below_alloc (Below.refl _ _) _) _
  have hp2 : ((w.alloc (.cells #[.int .i64 f0, .int .i64 f1, .slice A2 xs.length c2, .slice A3 ps.length c3, .slice A4 ss.length c4, .int .i64 f5] 30)).alloc (.cells #[.int .i64 num, .int .i64 den] 38)).cell? ⟨w.heap.size, 2, none⟩ = some (.slice A2 xs.length c2) := blk_cell BP 2
  have QP := Aside0.mk BP
  have QQ := Aside0.mk BQ
  have QB := Aside0.mk HB
  have QX : ((w.alloc (.cells #[.int .i64 f0, .int .i64 f1, .slice A2 xs.length c2, .slice A3 ps.length c3, .slice A4 ss.length c4, .int .i64 f5] 30)).alloc (.cells #[.int .i64 num, .int .i64 den] 38)).heap.size = w.heap.size + 2 := by simp
  have QX := Aside0.mk QX
  clear BP BQ HB
  go_enter Try.func4, Try.ntmps4
  by_cases u1 : (xs.length : Int) > 60
  · go_wp2_with fail
    refine (HK.out _).mono ?_
    rintro e w' ⟨rfl, hb⟩
    go_wp2
    go_ret
    exact ⟨rfl, below_then QB.out (by rw [QX.out]; omega) hb⟩
  by_cases u2 : (parts.length : Int) > 6
  · go_wp2_with fail
    refine (HK.out _).mono ?_
    rintro e w' ⟨rfl, hb⟩
    go_wp2
    go_ret
    exact ⟨rfl, below_then QB.out (by rw [QX.out]; omega) hb⟩
  have hl60 : xs.length ≤ 60 := by omega
  have hp6 : parts.length ≤ 6 := by omega
  go_wp2_with fail
  refine (HP.out _ QB.out).mono ?_
  rintro e W1 ⟨⟨r, rfl, hr⟩, hb1⟩
  clear HP
  have B1 := below_then QB.out (by rw [QX.out]; omega) hb1
  have P1 := Aside0.mk (blk_below QP.out hb1)
  have K1 := Aside0.mk (blk_below QQ.out hb1)
  have L1 : w.heap.size + 2 ≤ W1.heap.size := by rw [← QX.out]; exact hb1.size
  have QB1 := Aside0.mk B1
  cases r
  · clear hr B1 QP QQ QB QX hb1 hp2
    go_wp2_with fail
    refine (HK.out _).mono ?_
    rintro e w' ⟨rfl, hb⟩
    go_wp2
    go_ret
    exact ⟨rfl, below_then QB1.out (by omega) hb⟩
  have hok := Aside0.mk (hr rfl)
  clear hr B1 QP QQ QB QX hb1 hp2
  have hk0 : W1.cell? ⟨w.heap.size + 1, 0, none⟩ = some (.int .i64 num) := blk_cell K1.out 0
  have hk1 : W1.cell? ⟨w.heap.size + 1, 1, none⟩ = some (.int .i64 den) := blk_cell K1.out 1
  have HPc := Aside0.mk (pace_any num den)
  go_wp2_with fail
  refine (HPc.out _).mono ?_
  rintro e W2 ⟨rfl, hb2⟩
  clear hk0 hk1 HPc
  have P2 := Aside0.mk (blk_below P1.out hb2)
  have K2 := Aside0.mk (blk_below K1.out hb2)
  have L2 : w.heap.size + 2 ≤ W2.heap.size := Nat.le_trans L1 hb2.size
  have QB2 := Aside0.mk (below_then QB1.out (by omega) hb2)
  clear P1 K1 QB1 hb2 L1
  by_cases u3 : (1 ≤ num ∧ num ≤ 8) ∧ 1 ≤ den ∧ den ≤ 8
  rotate_left
  · rw [decide_eq_false u3]
    go_wp2_with fail
    refine (HK.out _).mono ?_
    rintro e w' ⟨rfl, hb⟩
    go_wp2
    go_ret
    exact ⟨rfl, below_then QB2.out (by omega) hb⟩
  rw [decide_eq_true u3]
  have U3 := Aside0.mk u3
  clear u3
  go_wp2
  go_loopg [7] parts.length (fun gg s7 wr => ∃ kk : Nat, kk ≤ parts.length ∧ parts.length - kk ≤ gg ∧ s7 = .int .i64 kk ∧ Aside0 (wr = W2) ∧ Aside0 (∀ i : Nat, i < kk → 0 ≤ rd parts (i : Int) ∧ rd parts (i : Int) ≤ 200))
  case atStart => exact ⟨0, Nat.zero_le _, by omega, rfl, ⟨rfl⟩, ⟨fun i hi => by omega⟩⟩
  case round =>
    obtain ⟨kk, hkk, hg, rfl, ⟨rfl⟩, HS0⟩ := hrel
    by_cases hlt : kk < parts.length
    · have hltz : (kk : Int) < (parts.length : Int) := by omega
      obtain ⟨ad, rfl, hcell⟩ := Kd.at_int HA.out (kk : Int) (by omega) (by omega)
      rw [Int.toNat_natCast] at hcell
      replace hcell := pw_cell_below QB2.out hcell
      by_cases d1 : rd parts (kk : Int) < 0
      · have g1 : decide (rd parts (kk : Int) < 0) = true := decide_eq_true d1
        clear HS0 HS HS2 HQ
        generalize rd parts (kk : Int) = x at hcell d1 g1
        go_wp2_with fail
        refine (HK.out _).mono ?_
        rintro e w' ⟨rfl, hb⟩
        go_wp2
        go_ret
        exact ⟨rfl, below_then QB2.out (by omega) hb⟩
      · have g1 : decide (rd parts (kk : Int) < 0) = false := decide_eq_false d1
        by_cases d2 : rd parts (kk : Int) > 200
        · have g2 : decide (rd parts (kk : Int) > 200) = true := decide_eq_true d2
          have g2' : decide (200 < rd parts (kk : Int)) = true := decide_eq_true d2
          clear HS0 HS HS2 HQ
          generalize rd parts (kk : Int) = x at hcell d1 g1 d2 g2 g2'
          go_wp2_with fail
          refine (HK.out _).mono ?_
          rintro e w' ⟨rfl, hb⟩
          go_wp2
          go_ret
          exact ⟨rfl, below_then QB2.out (by omega) hb⟩
        · have g2 : decide (rd parts (kk : Int) > 200) = false := decide_eq_false d2
          have g2' : decide (200 < rd parts (kk : Int)) = false := decide_eq_false d2
          have HS' : Aside0 (∀ i : Nat, i < kk + 1 → 0 ≤ rd parts (i : Int) ∧ rd parts (i : Int) ≤ 200) := ⟨fun i hi => by
            rcases Nat.lt_or_ge i kk with h | h
            · exact HS0.out i h
            · obtain rfl : i = kk := by omega
              exact ⟨by omega, by omega⟩⟩
          clear HS0
          generalize rd parts (kk : Int) = x at hcell d1 g1 d2 g2 g2'
          go_wp2
          go_roundg (parts.length - (kk + 1))
          case measure => omega
          case rel => exact ⟨kk + 1, by omega, by omega, by go_num, ⟨rfl⟩, HS'⟩
    · have hltz : ¬ (kk : Int) < (parts.length : Int) := by omega
      obtain rfl : kk = parts.length := by omega
      have hok' : Aside0 (okPiece ⟨f0, f1, xs, ps, ss, 0⟩) := ⟨⟨hok.out.voice, hok.out.use, ⟨by dsimp only; omega, by dsimp only; omega⟩, hok.out.size, hok.out.samples, hok.out.periods, hok.out.signs⟩⟩
      have P3 : Aside0 ((wr.setCell ⟨w.heap.size, 5, none⟩ (.int .i64 0)).heap[w.heap.size]? = some (.cells #[.int .i64 f0, .int .i64 f1, .slice A2 xs.length c2, .slice A3 ps.length c3, .slice A4 ss.length c4, .int .i64 0] 30)) := ⟨blk_put P2.out 5 _ rfl⟩
      have K3 : Aside0 ((wr.setCell ⟨w.heap.size, 5, none⟩ (.int .i64 0)).heap[w.heap.size + 1]? = some (.cells #[.int .i64 num, .int .i64 den] 38)) := ⟨blk_far'' K2.out (by simp) _⟩
      have QB3 : Aside0 (Below w.heap.size w (wr.setCell ⟨w.heap.size, 5, none⟩ (.int .i64 0))) := ⟨below_set QB2.out (Nat.le_refl _)⟩
      have L3 : w.heap.size + 2 ≤ (wr.setCell ⟨w.heap.size, 5, none⟩ (.int .i64 0)).heap.size := by simpa using L2
      have hf : wr.frozen? ⟨w.heap.size, 5, none⟩ = false := blk_frozen P2.out 5
      have hc5 : wr.cell? ⟨w.heap.size, 5, none⟩ = some (.int .i64 f5) := blk_cell P2.out 5
      have hq0 : wr.cell? ⟨w.heap.size, 0, none⟩ = some (.int .i64 f0) := blk_cell P2.out 0
      have hq1 : wr.cell? ⟨w.heap.size, 1, none⟩ = some (.int .i64 f1) := blk_cell P2.out 1
      have hq2 : wr.cell? ⟨w.heap.size, 2, none⟩ = some (.slice A2 xs.length c2) := blk_cell P2.out 2
      have hq3 : wr.cell? ⟨w.heap.size, 3, none⟩ = some (.slice A3 ps.length c3) := blk_cell P2.out 3
      have hq4 : wr.cell? ⟨w.heap.size, 4, none⟩ = some (.slice A4 ss.length c4) := blk_cell P2.out 4
      have hk0 : wr.cell? ⟨w.heap.size + 1, 0, none⟩ = some (.int .i64 num) := blk_cell K2.out 0
      have hk1 : wr.cell? ⟨w.heap.size + 1, 1, none⟩ = some (.int .i64 den) := blk_cell K2.out 1
      clear hok P2 K2 QB2 L2
      go_wp2_with fail
      refine (HQ.out _ QB3.out hok'.out U3.out.1 U3.out.2).mono ?_
      rintro e W4 ⟨⟨As, cs, Ag, cg, rfl, hos, hog⟩, hb4⟩
      clear HQ hf hc5 hq0 hq1 hq2 hq3 hq4 hk0 hk1
      have P4 := Aside0.mk (blk_below P3.out hb4)
      have K4 := Aside0.mk (blk_below K3.out hb4)
      have L4 : w.heap.size + 2 ≤ W4.heap.size := Nat.le_trans L3 hb4.size
      have QB4 := Aside0.mk (below_then QB3.out (by omega) hb4)
      have hq := Aside0.mk (paced_ok _ hok'.out (by dsimp only; omega) U3.out.1 U3.out.2)
      have HT := Aside0.mk (fun N hN => paced_talk (N := N) hok'.out hl60 rfl U3.out.1 U3.out.2 hN)
      have CS := Aside0.mk (own_flat (Kd.int .i64) eI_len (fun _ _ => rfl) hos)
      have CG := Aside0.mk (own_flat k32 e32_len e32_K hog)
      have E5 : Aside0 ((pacedF ⟨f0, f1, xs, ps, ss, 0⟩ num den).f5 = 0) := ⟨rfl⟩
      have E0 : Aside0 ((pacedF ⟨f0, f1, xs, ps, ss, 0⟩ num den).f0 = f0 ∧ (pacedF ⟨f0, f1, xs, ps, ss, 0⟩ num den).f1 = f1) := ⟨rfl, rfl⟩
      clear hos hog hb4 P3 K3 L3 QB3
      dsimp only at *
      generalize hqd : pacedF ⟨f0, f1, xs, ps, ss, 0⟩ num den = q at *
      have hq0 : W4.cell? ⟨w.heap.size, 0, none⟩ = some (.int .i64 f0) := blk_cell P4.out 0
      have hq1 : W4.cell? ⟨w.heap.size, 1, none⟩ = some (.int .i64 f1) := blk_cell P4.out 1
      have hq2 : W4.cell? ⟨w.heap.size, 2, none⟩ = some (.slice A2 xs.length c2) := blk_cell P4.out 2
      have hq3 : W4.cell? ⟨w.heap.size, 3, none⟩ = some (.slice A3 ps.length c3) := blk_cell P4.out 3
      have hq4 : W4.cell? ⟨w.heap.size, 4, none⟩ = some (.slice A4 ss.length c4) := blk_cell P4.out 4
      have hq5 : W4.cell? ⟨w.heap.size, 5, none⟩ = some (.int .i64 0) := blk_cell P4.out 5
      have hk0 : W4.cell? ⟨w.heap.size + 1, 0, none⟩ = some (.int .i64 num) := blk_cell K4.out 0
      have hk1 : W4.cell? ⟨w.heap.size + 1, 1, none⟩ = some (.int .i64 den) := blk_cell K4.out 1
      have hl4 : w.heap.size < W4.heap.size := by omega
      have hl4' : w.heap.size + 1 < W4.heap.size := by omega
      have hun := Try.underlying30
      go_wp2_with fail
      have QB5 := Aside0.mk (below_alloc QB4.out (.cells #[.int .i64 f0, .int .i64 f1, .slice As q.f2.length cs, .slice none 0 0, .slice Ag q.f4.length cg, .int .i64 0] 30))
      have hLw : w.heap.size < W4.heap.size := hl4
      refine (HS.out _ (below_alloc QB4.out (.cells #[.int .i64 f0, .int .i64 f1, .slice As q.f2.length cs, .slice none 0 0, .slice Ag q.f4.length cg, .int .i64 0] 30)) hok'.out U3.out.1 U3.out.2 hp6 HS0.out).mono ?_
      rintro e W6 ⟨v, vn, rfl, ho, hn, hb6⟩
      clear HS hq0 hq1 hq2 hq3 hq4 hq5 hk0 hk1
      have hQ6 := blk_below (blk_new W4 (.cells #[.int .i64 f0, .int .i64 f1, .slice As q.f2.length cs, .slice none 0 0, .slice Ag q.f4.length cg, .int .i64 0] 30)) hb6
      have hP6 := blk_below (blk_alloc P4.out (.cells #[.int .i64 f0, .int .i64 f1, .slice As q.f2.length cs, .slice none 0 0, .slice Ag q.f4.length cg, .int .i64 0] 30)) hb6
      have hB46 : Below W4.heap.size W4 W6 := below_then (below_alloc (Below.refl _ _) (.cells #[.int .i64 f0, .int .i64 f1, .slice As q.f2.length cs, .slice none 0 0, .slice Ag q.f4.length cg, .int .i64 0] 30)) (by simp) hb6
      have hS6 : Kd.C (Kd.int .i64) W6 As q.f2.length q.f2 := by
        obtain ⟨A, c, e, _, h⟩ := CS.out
        injection e with e1 e2 e3
        subst e1
        exact Kd.C_below h hB46
      have hG6 : Kd.C k32 W6 Ag q.f4.length q.f4 := by
        obtain ⟨A, c, e, _, h⟩ := CG.out
        injection e with e1 e2 e3
        subst e1
        exact Kd.C_below h hB46
      have L6 : w.heap.size + 2 ≤ W6.heap.size := Nat.le_trans L4 hB46.size
      have QB6 : Aside0 (Below w.heap.size w W6) := ⟨below_then QB4.out (by omega) hB46⟩
      have hbase : ∃ B1, ((W4.alloc (.cells #[.int .i64 f0, .int .i64 f1, .slice As q.f2.length cs, .slice none 0 0, .slice Ag q.f4.length cg, .int .i64 0] 30)).heap.size = B1) := ⟨_, rfl⟩
      obtain ⟨B1, hB1⟩ := hbase
      rw [hB1] at ho hn hb6
      generalize hg4 : W4.heap.size = g4 at *
      have HO6 := Aside0.mk ho
      have HN6 := Aside0.mk hn
      have HQ6 := Aside0.mk hQ6
      have HP6 := Aside0.mk hP6
      have HS6 := Aside0.mk hS6
      have HG6 := Aside0.mk hG6
      have hr0 : W6.cell? ⟨g4, 0, none⟩ = some (.int .i64 f0) := blk_cell hQ6 0
      have hr1 : W6.cell? ⟨g4, 1, none⟩ = some (.int .i64 f1) := blk_cell hQ6 1
      have hr2 : W6.cell? ⟨g4, 2, none⟩ = some (.slice As q.f2.length cs) := blk_cell hQ6 2
      have hr3 : W6.cell? ⟨g4, 3, none⟩ = some (.slice none 0 0) := blk_cell hQ6 3
      have hr4 : W6.cell? ⟨g4, 4, none⟩ = some (.slice Ag q.f4.length cg) := blk_cell hQ6 4
      have hr5 : W6.cell? ⟨g4, 5, none⟩ = some (.int .i64 0) := blk_cell hQ6 5
      clear ho hn hQ6 hP6 hS6 hG6 hb6 hB46 P4 K4 QB4 QB5 CS CG hB1 L4 hl4 hl4' hLw hg4
      go_wp2_with fail
      have HCALL := HS2.out W6 QB6.out As Ag cs cg q HS6.out hq.out.none HG6.out hq.out.ok E5.out hp6 HS0.out
      rw [E0.out.1, E0.out.2, E5.out, hq.out.none, List.length_nil] at HCALL
      refine HCALL.mono ?_
      rintro e W7 ⟨v2, vn2, rfl, ho2, hn2, hb7⟩
      clear HCALL HS2 hr0 hr1 hr2 hr3 hr4 hr5
      obtain ⟨t1, t2, t3⟩ := HT.out (portN parts (parts.length + 1)) (portN_total parts)
      have hpn : portN parts (parts.length + 1) ≤ 500 * (parts.length + 1) := portN_le parts (fun i hi => (HS0.out i hi).2) _ (by rw [portF_length]; omega)
      have hal : (pullF (portN parts (parts.length + 1)) (startF ⟨f0, f1, xs, ps, ss, 0⟩ num den)).1.length ≤ 1000000 := by rw [pull_length]; omega
      rw [← t1] at ho2
      rw [← t2] at hn2
      have ho1 := pw_own_below HO6.out hb7
      have hn1 := pw_own_below HN6.out hb7
      have hP7 := blk_below HP6.out hb7
      have QB7 : Aside0 (Below w.heap.size w W7) := ⟨below_then QB6.out (by omega) hb7⟩
      have L7 : w.heap.size + 2 ≤ W7.heap.size := Nat.le_trans L6 hb7.size
      have hss : ss.length ≤ 50 := hok'.out.signs.1
      clear t1 t2 HT HO6 HN6 HP6 HQ6 HS6 HG6 hb7 QB6 L6
      generalize (pullF (portN parts (parts.length + 1)) (startF ⟨f0, f1, xs, ps, ss, 0⟩ num den)).1 = hs at *
      generalize (pullF (portN parts (parts.length + 1)) (startF ⟨f0, f1, xs, ps, ss, 0⟩ num den)).2.ns = ns at *
      obtain ⟨B1, d1, rfl, hd1, hC1⟩ := own_flat (Kd.int .i64) eI_len (fun _ _ => rfl) ho1
      obtain ⟨B2, d2, rfl, hd2, hC2⟩ := own_flat (Kd.int .i64) eI_len (fun _ _ => rfl) ho2
      have hvn : ∃ C1 e1, vn = .slice C1 ns.length e1 := by
        rcases hn1.2 with ⟨rfl, h0⟩ | ⟨g, cap, cur, rfl, _⟩
        · exact ⟨none, 0, by rw [h0]⟩
        · exact ⟨_, _, rfl⟩
      obtain ⟨C1, e1, rfl⟩ := hvn
      have hnle : ns.length ≤ 1000000 := by rw [t3]; exact Nat.le_trans (Nat.add_le_add_right hss 2) (by decide)
      have SM : Aside0 (∀ W, (∃ n, W = W7.drewN n) → Calls Try.prog 11 #[.slice B1 hs.length d1, .slice B2 hs.length d2] W fun e w' => e = .returned (.bool true) ∧ ∃ q, w' = W.drewN q) := ⟨by
        rintro W ⟨n, rfl⟩
        exact Same_true B1 B2 d1 d2 hs (W7.drewN n) (Kd.C_below hC1 (pw_below_drewN (Below.refl _ _) n)) hd1 (Kd.C_below hC2 (pw_below_drewN (Below.refl _ _) n)) hd2 hal⟩
      have AL : Aside0 (∀ W, (∃ n, W = W7.drewN n) → Calls Try.prog 15 #[.slice C1 ns.length e1, vn2] W fun e w' => e = .returned (.bool true) ∧ ∃ q, w' = W.drewN q) := ⟨by
        rintro W ⟨n, rfl⟩
        exact Alike_true ns (W7.drewN n) rfl (pw_own_below hn1 (pw_below_drewN (Below.refl _ _) n)) (pw_own_below hn2 (pw_below_drewN (Below.refl _ _) n)) hnle⟩
      have hp4 : W7.cell? ⟨w.heap.size, 4, none⟩ = some (.slice A4 ss.length c4) := blk_cell hP7 4
      have HT3 := Aside0.mk t3
      have HSS := Aside0.mk hss
      clear t3 hss
      clear hC1 hC2 ho1 ho2 hn1 hn2 hP7 hd1 hd2 hal
      go_wp2_with fail
      refine (SM.out W7 ⟨0, rfl⟩).mono ?_
      rintro e W8 ⟨rfl, q8, rfl⟩
      go_wp2_with fail
      refine (AL.out (W7.drewN q8) ⟨q8, rfl⟩).mono ?_
      rintro e W9 ⟨rfl, q9, rfl⟩
      clear SM AL
      have hss := HSS.out
      have t3 := HT3.out
      have hsI : (ss.length : Int) ≤ 50 := Int.ofNat_le.2 hss
      go_wp2_with fail
      refine (HK.out _).mono ?_
      rintro e w' ⟨rfl, hb⟩
      go_wp2
      go_ret
      have hlw : w.heap.size ≤ W7.heap.size := by omega
      first
        | exact ⟨rfl, below_then (pw_below_drewN QB7.out _) hlw hb⟩
        | exact ⟨rfl, below_then (pw_below_drewN (pw_below_drewN QB7.out _) _) hlw hb⟩
        | exact ⟨rfl, below_then QB7.out hlw hb⟩

end Go.Proofs.Ytoodagohkepcpaa
