/- Contract of the check of a piece, at a piece that is as defined. -/
import Derived.Test.YtoodagohkepcpaaA2
import Derived.Deep.RegionHeld3
import Derived.Deep.RegionWith
namespace Go.Proofs.Ytoodagohkepcpaa
open Go.RowKit Go.Shelf Go.Proofs.YtoodagohkepcpaaW.PrintWords

def okPeriods (n : Nat) (ps : List Int) : Prop := ps.length ≤ 1000 ∧ ∀ i : Nat, i < ps.length → 0 ≤ rd ps i ∧ rd ps i ≤ (n : Int) - 1 ∧ (0 < i → rd ps ((i : Int) - 1) < rd ps i)
def okSigns (n : Nat) (ss : List S32) : Prop := ss.length ≤ 50 ∧ ∀ i : Nat, i < ss.length → 0 ≤ (rd_T32 ss i).f0 ∧ (rd_T32 ss i).f0 ≤ n ∧ okName (rd_T32 ss i).f1 ∧ (0 < i → (rd_T32 ss ((i : Int) - 1)).f0 ≤ (rd_T32 ss i).f0)
/-- A piece is as defined. -/
structure okPiece (p : S30) : Prop where
  voice : 1 ≤ p.f0 ∧ p.f0 ≤ 100
  use : 1 ≤ p.f1 ∧ p.f1 ≤ 100
  effort : 0 ≤ p.f5 ∧ p.f5 ≤ 1073741824
  size : p.f2.length ≤ 40000
  samples : p.f2.any badPiece = false
  periods : okPeriods p.f2.length p.f3
  signs : okSigns p.f2.length p.f4

theorem within_yes (a b c : Int) (h : b ≤ a ∧ a ≤ c) (W : World) : Calls Try.prog 39 #[.int .i64 a, .int .i64 b, .int .i64 c] W fun e w' => e = .returned (.bool true) ∧ ∃ q, w' = W.drewN q :=
  inB_iff.2 h ▸ within_any a b c W

set_option maxRecDepth 100000 in
set_option maxHeartbeats 4000000 in
theorem valid_ok (A2 A3 A4 : Option Addr) (c2 c3 c4 : Nat) (p : S30) (w : World) (h2 : Kd.C (Kd.int .i64) w A2 p.f2.length p.f2) (h3 : Kd.C (Kd.int .i64) w A3 p.f3.length p.f3) (h4 : Kd.C k32 w A4 p.f4.length p.f4) (hp : okPiece p) :
    Calls Try.prog 32 #[.agg #[.int .i64 p.f0, .int .i64 p.f1, .slice A2 p.f2.length c2, .slice A3 p.f3.length c3, .slice A4 p.f4.length c4, .int .i64 p.f5]] w fun e w' => e = .returned (.bool true) ∧ Below w.heap.size w w' := by
  obtain ⟨f0, f1, xs, ps, ss, f5⟩ := p
  obtain ⟨v1, v2, v3, v4, v5, v6, v7⟩ := hp
  dsimp only at *
  have W0 := within_yes f0 1 100 v1
  have W1 := within_yes f1 1 100 v2
  have W5 := within_yes f5 0 1073741824 v3
  have HS : ∀ W, Below w.heap.size w W → Calls Try.prog 59 #[.slice A2 xs.length c2, .func (.func 60) #[] #[]] W fun e w' => e = .returned (.bool false) ∧ Below W.heap.size W w' :=
    fun W hW => v5 ▸ ContainsFunc_int 60 #[] badPiece A2 c2 xs W (Kd.C_below h2 hW) (valid1_pred W)
  have l2 : ¬ (xs.length : Int) > 40000 := by omega
  have l3 : ¬ (ps.length : Int) > 1000 := by have := v6.1; omega
  have l4 : ¬ (ss.length : Int) > 50 := by have := v7.1; omega
  have LX := Aside0.mk v4
  have PP := Aside0.mk v6
  have SS := Aside0.mk v7
  have H3 := Aside0.mk h3
  have H4 := Aside0.mk h4
  have hun := Try.underlying30
  clear v1 v2 v3 v4 v5 v6 v7 h2 h3 h4
  go_enter Try.func32, Try.ntmps32
  go_wp2_with fail
  refine (W0 _).mono ?_
  rintro e w1 ⟨rfl, q1, rfl⟩
  clear W0
  go_wp2_with fail
  refine (W1 _).mono ?_
  rintro e w1 ⟨rfl, q2, rfl⟩
  clear W1
  go_wp2_with fail
  refine (W5 _).mono ?_
  rintro e w1 ⟨rfl, q3, rfl⟩
  clear W5
  go_wp2_with fail
  refine (HS _ (pw_below_drewN (below_alloc (Below.refl _ _) _) _)).mono ?_
  rintro e w1 ⟨rfl, hb⟩
  clear HS
  have hb1 : Below w.heap.size w w1 := below_then (pw_below_drewN (below_alloc (Below.refl w.heap.size w) (.cells #[.int .i64 f0, .int .i64 f1, .slice A2 xs.length c2, .slice A3 ps.length c3, .slice A4 ss.length c4, .int .i64 f5] 30)) (q1 + q2 + q3)) (by simp) hb
  have BK := Aside0.mk (blk_below (blk_drewN (blk_new w (.cells #[.int .i64 f0, .int .i64 f1, .slice A2 xs.length c2, .slice A3 ps.length c3, .slice A4 ss.length c4, .int .i64 f5] 30)) (q1 + q2 + q3)) hb)
  have HB := Aside0.mk hb1
  clear hb hb1
  obtain ⟨gb, hgb⟩ : ∃ gb, w.heap.size = gb := ⟨_, rfl⟩
  have HG := Aside0.mk hgb
  rw [hgb] at BK ⊢
  clear hgb
  have hc2 : w1.cell? ⟨gb, 2, none⟩ = some (.slice A2 xs.length c2) := blk_cell BK.out 2
  have hc3 : w1.cell? ⟨gb, 3, none⟩ = some (.slice A3 ps.length c3) := blk_cell BK.out 3
  have hc4 : w1.cell? ⟨gb, 4, none⟩ = some (.slice A4 ss.length c4) := blk_cell BK.out 4
  have hlp : ps.length ≤ 1000 := PP.out.1
  go_wp2
  go_loopg [3, 4, 47] ps.length (fun gg _ _ s15 wr => ∃ kk : Nat, kk ≤ ps.length ∧ ps.length - kk ≤ gg ∧ s15 = .int .i64 kk ∧ Aside0 (∃ n, wr = w1.drewN n))
  case atStart => exact ⟨0, Nat.zero_le _, by omega, rfl, ⟨0, rfl⟩⟩
  case round =>
    obtain ⟨kk, hkk, hg, rfl, ⟨q, rfl⟩⟩ := hrel
    by_cases hlt : kk < ps.length
    · have hltz : (kk : Int) < (ps.length : Int) := by omega
      obtain ⟨p1, p2, p3⟩ := PP.out.2 kk hlt
      obtain ⟨ad, rfl, hcell⟩ := Kd.at_int H3.out (kk : Int) (by omega) (by omega)
      rw [Int.toNat_natCast] at hcell
      replace hcell := (HB.out.cell (World.block_lt_of_cell? w _ hcell)).trans hcell
      have HW := within_yes (rd ps kk) 0 ((xs.length : Int) - 1) ⟨p1, p2⟩
      by_cases h0 : 0 < kk
      · have g3 : decide (0 < kk) = true := by simpa using h0
        obtain ⟨ad', e', hcell'⟩ := Kd.at_int H3.out ((kk : Int) - 1) (by omega) (by omega)
        cases e'
        rw [show ((kk : Int) - 1).toNat = kk - 1 from by omega] at hcell'
        replace hcell' := (HB.out.cell (World.block_lt_of_cell? w _ hcell')).trans hcell'
        have hn0 : (0 : Int) ≤ (kk : Int) - 1 := by omega
        have hn1 : (kk : Int) - 1 < (ps.length : Int) := by omega
        have p3' := p3 h0
        have g4 : decide (rd ps kk ≤ rd ps ((kk : Int) - 1)) = false := by simp; omega
        generalize rd ps kk = x at *
        generalize rd ps ((kk : Int) - 1) = y at *
        go_wp2_with fail
        refine (HW _).mono ?_
        rintro e w' ⟨rfl, q', rfl⟩
        go_wp2
        go_roundg (ps.length - (kk + 1))
        case measure => omega
        case rel => exact ⟨kk + 1, by omega, by omega, by go_num, ⟨_, rfl⟩⟩
      · have g3 : decide (0 < kk) = false := by simpa using h0
        generalize rd ps kk = x at *
        go_wp2_with fail
        refine (HW _).mono ?_
        rintro e w' ⟨rfl, q', rfl⟩
        go_wp2
        go_roundg (ps.length - (kk + 1))
        case measure => omega
        case rel => exact ⟨kk + 1, by omega, by omega, by go_num, ⟨_, rfl⟩⟩
    · have hltz : ¬ (kk : Int) < (ps.length : Int) := by omega
      obtain rfl : kk = ps.length := by omega
      go_wp2
      have hls : ss.length ≤ 50 := SS.out.1
      go_loopg [5, 6, 77] ss.length (fun gg _ _ s15 wr => ∃ kk : Nat, kk ≤ ss.length ∧ ss.length - kk ≤ gg ∧ s15 = .int .i64 kk ∧ Aside0 (Below w1.heap.size w1 wr))
      case atStart => exact ⟨0, Nat.zero_le _, by omega, rfl, ⟨pw_below_drewN (Below.refl _ _) q⟩⟩
      case round =>
        obtain ⟨kk, hkk, hg, rfl, HW1⟩ := hrel
        have hc2' : wr.cell? ⟨gb, 2, none⟩ = some (.slice A2 xs.length c2) := pw_cell_below HW1.out hc2
        have hc4' : wr.cell? ⟨gb, 4, none⟩ = some (.slice A4 ss.length c4) := pw_cell_below HW1.out hc4
        have hgl : gb < wr.heap.size := Nat.lt_of_lt_of_le (blk_lt BK.out) HW1.out.size
        clear hc2 hc3 hc4
        by_cases hlt : kk < ss.length
        · have hltz : (kk : Int) < (ss.length : Int) := by omega
          obtain ⟨p1, p2, p3, p4⟩ := SS.out.2 kk hlt
          obtain ⟨ad, rfl, hcell, hcelln⟩ := at_T32 H4.out (kk : Int) (by omega) (by omega)
          rw [Int.toNat_natCast] at hcell hcelln
          replace hcell := pw_cell_below HW1.out ((HB.out.cell (World.block_lt_of_cell? w _ hcell)).trans hcell)
          replace hcelln := pw_cell_below HW1.out ((HB.out.cell (World.block_lt_of_cell? w _ hcelln)).trans hcelln)
          have HWi := within_yes (rd_T32 ss kk).f0 0 (xs.length : Int) ⟨p1, p2⟩
          have HNm := fun W => named_ok (rd_T32 ss kk).f1 W p3
          by_cases h0 : 0 < kk
          · have g3 : decide (0 < kk) = true := by simpa using h0
            obtain ⟨ad', e', hcell', _⟩ := at_T32 H4.out ((kk : Int) - 1) (by omega) (by omega)
            cases e'
            rw [show ((kk : Int) - 1).toNat = kk - 1 from by omega] at hcell'
            replace hcell' := pw_cell_below HW1.out ((HB.out.cell (World.block_lt_of_cell? w _ hcell')).trans hcell')
            have hn0 : (0 : Int) ≤ (kk : Int) - 1 := by omega
            have hn1 : (kk : Int) - 1 < (ss.length : Int) := by omega
            have p3' := p4 h0
            have g4 : decide ((rd_T32 ss kk).f0 < (rd_T32 ss ((kk : Int) - 1)).f0) = false := by simp; omega
            generalize (rd_T32 ss kk).f0 = x at *
            generalize (rd_T32 ss kk).f1 = nm at *
            generalize (rd_T32 ss ((kk : Int) - 1)).f0 = y at *
            go_wp2
            have hwr : IntKind.i64.wrap ((kk : Int) - 1) = (kk : Int) - 1 := IntWalk.i64_in _ (by omega)
            have hwt : ((kk : Int) - 1).toNat = kk - 1 := by omega
            have hk1 : (1 : Int) ≤ (kk : Int) := by omega
            have hk2 : 1 ≤ kk := by omega
            have hk3 : (kk : Int) < (ss.length : Int) + 1 := by omega
            go_region_held3 (fun W => W.cell? ⟨wr.heap.size, 0, none⟩ = some (.int .i64 x) ∧ W.cell? ⟨wr.heap.size, 1, none⟩ = some (.string nm) ∧ W.cell? ⟨gb, 2, none⟩ = some (.slice A2 xs.length c2) ∧ W.cell? ⟨gb, 4, none⟩ = some (.slice (some ad) ss.length c4) ∧ W.cell? (ad.add ((kk - 1) * 2)) = some (.int .i64 y) ∧ Aside0 (Below w1.heap.size w1 W))
              (first
                | (refine ⟨by go_keep, by go_keep, by go_keep, by go_keep, by go_keep, ⟨?_⟩⟩; (repeat (first | exact HW1.out | exact Aside0.out ‹_› | apply below_alloc | apply below_drew | apply pw_below_drewN)); done)
                | (go_split_ands; refine ⟨?_, ?_, ?_, ?_, ?_, ?_⟩ <;> first | assumption | (simp only [World.cell?_drewN]; assumption) | exact pw_cell_below hb ‹_› | exact ⟨pw_below_drewN (Aside0.out ‹_›) _⟩ | (exact ⟨by (have hz := (by assumption : Aside0 (Below w1.heap.size w1 _)); exact below_then hz.out hz.out.size hb)⟩)))
              ((first | (go_at_call 39; refine (HWi _).mono ?_; rintro e w' ⟨rfl, q', rfl⟩) | (go_at_call 61; refine (HNm _).mono ?_; rintro e w' ⟨rfl, hb⟩)))
            clear hwr hwt
            go_wp2
            go_roundg (ss.length - (kk + 1))
            case measure => omega
            case rel => exact ⟨kk + 1, by omega, by omega, by go_num, ⟨below_then (pw_below_drewN (below_alloc HW1.out _) _) (pw_below_drewN (below_alloc HW1.out _) _).size hb⟩⟩

          · have g3 : decide (0 < kk) = false := by simpa using h0
            generalize (rd_T32 ss kk).f0 = x at *
            generalize (rd_T32 ss kk).f1 = nm at *
            go_wp2
            refine wp_region_held_drew (S := fun W => W.cell? ⟨wr.heap.size, 0, none⟩ = some (.int .i64 x) ∧ W.cell? ⟨wr.heap.size, 1, none⟩ = some (.string nm) ∧ W.cell? ⟨gb, 2, none⟩ = some (.slice A2 xs.length c2) ∧ W.cell? ⟨gb, 4, none⟩ = some (.slice (some ad) ss.length c4) ∧ Aside0 (Below w1.heap.size w1 W)) (by kernel_rfl) ⟨by go_keep, by go_keep, by go_keep, by go_keep, ⟨below_drew (below_alloc HW1.out _)⟩⟩ (fun hHeld => ?_)
            refine wpAnyH_take (i := 0) (oi := { dst := some 82, op := Go.Op.fieldAddr 32 (Go.Operand.tmp 6) 0, type := 0, pos := "stream.go:33", after := #[], guard := none }) (v := ?_) rfl (by kernel_rfl) (by kernel_rfl) (by kernel_rfl) (fun _ _ _ h => h) (Or.inl ⟨by rfl, ?_⟩) (by assumption) ?_
            rotate_left
            · (intro w hSw; (try dsimp only at hSw); go_simp <;> with_reducible rfl)
            try simp only [Act.put, List.setIfInBounds_toArray, List.set_cons_zero, List.set_cons_succ]
            refine wpAnyH_take (i := 1) (oi := { dst := some 83, op := Go.Op.load 3 (Go.Operand.tmp 82), type := 3, pos := "stream.go:33", after := #[{ on := 0, ground := Go.Ground.data }], guard := none }) (v := ?_) rfl (by kernel_rfl) (by kernel_rfl) (by kernel_rfl) (fun _ _ _ h => h) (Or.inl ⟨by rfl, ?_⟩) (by assumption) ?_
            rotate_left
            · (intro w hSw; (try dsimp only at hSw); go_simp <;> with_reducible rfl)
            try simp only [Act.put, List.setIfInBounds_toArray, List.set_cons_zero, List.set_cons_succ]
            refine wpAnyH_take (i := 2) (oi := { dst := some 84, op := Go.Op.fieldAddr 30 (Go.Operand.tmp 1) 2, type := 0, pos := "stream.go:33", after := #[], guard := none }) (v := ?_) rfl (by kernel_rfl) (by kernel_rfl) (by kernel_rfl) (fun _ _ _ h => h) (Or.inl ⟨by rfl, ?_⟩) (by assumption) ?_
            rotate_left
            · (intro w hSw; (try dsimp only at hSw); go_simp <;> with_reducible rfl)
            try simp only [Act.put, List.setIfInBounds_toArray, List.set_cons_zero, List.set_cons_succ]
            refine wpAnyH_take (i := 3) (oi := { dst := some 85, op := Go.Op.load 22 (Go.Operand.tmp 84), type := 22, pos := "stream.go:33", after := #[{ on := 2, ground := Go.Ground.data }], guard := none }) (v := ?_) rfl (by kernel_rfl) (by kernel_rfl) (by kernel_rfl) (fun _ _ _ h => h) (Or.inl ⟨by rfl, ?_⟩) (by assumption) ?_
            rotate_left
            · (intro w hSw; (try dsimp only at hSw); go_simp <;> with_reducible rfl)
            try simp only [Act.put, List.setIfInBounds_toArray, List.set_cons_zero, List.set_cons_succ]
            refine wpAnyH_take (i := 4) (oi := { dst := some 86, op := Go.Op.call { callee := Go.Callee.builtin Go.Builtin.len, args := #[Go.Operand.tmp 85], argTypes := #[22] }, type := 3, pos := "stream.go:33", after := #[{ on := 3, ground := Go.Ground.data }], guard := none }) (v := ?_) rfl (by kernel_rfl) (by kernel_rfl) (by kernel_rfl) (fun _ _ _ h => h) (Or.inl ⟨by rfl, ?_⟩) (by assumption) ?_
            rotate_left
            · (intro w hSw; (try dsimp only at hSw); go_simp <;> with_reducible rfl)
            try simp only [Act.put, List.setIfInBounds_toArray, List.set_cons_zero, List.set_cons_succ]
            refine wpAnyH_ready (rs := [5]) (by kernel_rfl) (by simp) ?_
            refine AllReadyH.cons (o := { dst := some 87, op := Go.Op.call { callee := Go.Callee.value (Go.Operand.func 39), args := #[Go.Operand.tmp 83, Go.Operand.const (Go.Value.int Go.IntKind.i64 0), Go.Operand.tmp 86], argTypes := #[3, 3, 3] }, type := 4, pos := "stream.go:33", after := #[{ on := 1, ground := Go.Ground.data }, { on := 4, ground := Go.Ground.data }], guard := none }) rfl (fun K hK => ?_) AllReadyH.nil
            rw [if_pos (by rfl)]
            go_wp2_with (go_at_call 39; refine (HWi _).mono ?_; rintro e w' ⟨rfl, q', rfl⟩)
            refine hK.out _ _ ?_ (fun hHeld2 => ?_)
            · (obtain ⟨k1, k2, k3, k4, k5⟩ := hHeld; exact ⟨k1, k2, k3, k4, ⟨pw_below_drewN (below_alloc HW1.out _) _⟩⟩)
            clear hK K hHeld
            have hHeld := hHeld2
            clear hHeld2
            try simp only [Act.put, List.setIfInBounds_toArray, List.set_cons_zero, List.set_cons_succ]
            refine wpAnyH_take (i := 6) (oi := { dst := some 88, op := Go.Op.unOp Go.UnOp.not 4 (Go.Operand.tmp 87), type := 4, pos := "stream.go:33", after := #[{ on := 5, ground := Go.Ground.data }], guard := none }) (v := ?_) rfl (by kernel_rfl) (by kernel_rfl) (by kernel_rfl) (fun _ _ _ h => h) (Or.inl ⟨by rfl, ?_⟩) (by assumption) ?_
            rotate_left
            · (intro w hSw; (try dsimp only at hSw); go_simp <;> with_reducible rfl)
            try simp only [Act.put, List.setIfInBounds_toArray, List.set_cons_zero, List.set_cons_succ]
            refine wpAnyH_take (i := 7) (oi := { dst := some 89, op := Go.Op.move (Go.Operand.tmp 88), type := 4, pos := "stream.go:33", after := #[{ on := 6, ground := Go.Ground.data }, { on := 5, ground := Go.Ground.chain }], guard := none }) (v := ?_) rfl (by kernel_rfl) (by kernel_rfl) (by kernel_rfl) (fun _ _ _ h => h) (Or.inl ⟨by rfl, ?_⟩) (by assumption) ?_
            rotate_left
            · (intro w hSw; (try dsimp only at hSw); go_simp <;> with_reducible rfl)
            try simp only [Act.put, List.setIfInBounds_toArray, List.set_cons_zero, List.set_cons_succ]
            refine wpAnyH_take (i := 8) (oi := { dst := some 90, op := Go.Op.fieldAddr 32 (Go.Operand.tmp 6) 1, type := 0, pos := "stream.go:33", after := #[{ on := 7, ground := Go.Ground.guard }], guard := some (7, false) }) (v := ?_) rfl (by kernel_rfl) (by kernel_rfl) (by kernel_rfl) (fun _ _ _ h => h) (Or.inl ⟨by rfl, ?_⟩) (by assumption) ?_
            rotate_left
            · (intro w hSw; (try dsimp only at hSw); go_simp <;> with_reducible rfl)
            try simp only [Act.put, List.setIfInBounds_toArray, List.set_cons_zero, List.set_cons_succ]
            refine wpAnyH_take (i := 9) (oi := { dst := some 91, op := Go.Op.load 9 (Go.Operand.tmp 90), type := 9, pos := "stream.go:33", after := #[{ on := 8, ground := Go.Ground.data }, { on := 7, ground := Go.Ground.guard }], guard := some (7, false) }) (v := ?_) rfl (by kernel_rfl) (by kernel_rfl) (by kernel_rfl) (fun _ _ _ h => h) (Or.inl ⟨by rfl, ?_⟩) (by assumption) ?_
            rotate_left
            · (intro w hSw; (try dsimp only at hSw); go_simp <;> with_reducible rfl)
            try simp only [Act.put, List.setIfInBounds_toArray, List.set_cons_zero, List.set_cons_succ]
            refine wpAnyH_ready (rs := [10]) (by kernel_rfl) (by simp) ?_
            refine AllReadyH.cons (o := { dst := some 92, op := Go.Op.call { callee := Go.Callee.value (Go.Operand.func 61), args := #[Go.Operand.tmp 91], argTypes := #[9] }, type := 4, pos := "stream.go:33", after := #[{ on := 9, ground := Go.Ground.data }, { on := 7, ground := Go.Ground.chain }, { on := 7, ground := Go.Ground.guard }], guard := some (7, false) }) rfl (fun K hK => ?_) AllReadyH.nil
            rw [if_pos (by rfl)]
            go_wp2_with (go_at_call 61; refine (HNm _).mono ?_; rintro e w' ⟨rfl, hb⟩)
            refine hK.out _ _ ?_ (fun hHeld2 => ?_)
            · (obtain ⟨k1, k2, k3, k4, k5⟩ := hHeld; exact ⟨pw_cell_below hb k1, pw_cell_below hb k2, pw_cell_below hb k3, pw_cell_below hb k4, ⟨below_then k5.out k5.out.size hb⟩⟩)
            clear hK K hHeld
            have hHeld := hHeld2
            clear hHeld2
            try simp only [Act.put, List.setIfInBounds_toArray, List.set_cons_zero, List.set_cons_succ]
            refine wpAnyH_take (i := 11) (oi := { dst := some 93, op := Go.Op.unOp Go.UnOp.not 4 (Go.Operand.tmp 92), type := 4, pos := "stream.go:33", after := #[{ on := 10, ground := Go.Ground.data }, { on := 7, ground := Go.Ground.guard }], guard := some (7, false) }) (v := ?_) rfl (by kernel_rfl) (by kernel_rfl) (by kernel_rfl) (fun _ _ _ h => h) (Or.inl ⟨by rfl, ?_⟩) (by assumption) ?_
            rotate_left
            · (intro w hSw; (try dsimp only at hSw); go_simp <;> with_reducible rfl)
            try simp only [Act.put, List.setIfInBounds_toArray, List.set_cons_zero, List.set_cons_succ]
            refine wpAnyH_take (i := 12) (oi := { dst := some 94, op := Go.Op.pick (Go.Operand.tmp 89) (Go.Operand.const (Go.Value.bool true)) (Go.Operand.tmp 93), type := 4, pos := "stream.go:33", after := #[{ on := 7, ground := Go.Ground.data }, { on := 11, ground := Go.Ground.data }], guard := none }) (v := ?_) rfl (by kernel_rfl) (by kernel_rfl) (by kernel_rfl) (fun _ _ _ h => h) (Or.inl ⟨by rfl, ?_⟩) (by assumption) ?_
            rotate_left
            · (intro w hSw; (try dsimp only at hSw); go_simp <;> with_reducible rfl)
            try simp only [Act.put, List.setIfInBounds_toArray, List.set_cons_zero, List.set_cons_succ]
            refine wpAnyH_take (i := 13) (oi := { dst := some 95, op := Go.Op.move (Go.Operand.tmp 94), type := 4, pos := "stream.go:33", after := #[{ on := 12, ground := Go.Ground.data }, { on := 10, ground := Go.Ground.chain }], guard := none }) (v := ?_) rfl (by kernel_rfl) (by kernel_rfl) (by kernel_rfl) (fun _ _ _ h => h) (Or.inl ⟨by rfl, ?_⟩) (by assumption) ?_
            rotate_left
            · (intro w hSw; (try dsimp only at hSw); go_simp <;> with_reducible rfl)
            try simp only [Act.put, List.setIfInBounds_toArray, List.set_cons_zero, List.set_cons_succ]
            refine wpAnyH_take (i := 14) (oi := { dst := some 96, op := Go.Op.move (Go.Operand.tmp 5), type := 3, pos := "stream.go:33", after := #[{ on := 13, ground := Go.Ground.guard }], guard := some (13, false) }) (v := ?_) rfl (by kernel_rfl) (by kernel_rfl) (by kernel_rfl) (fun _ _ _ h => h) (Or.inl ⟨by rfl, ?_⟩) (by assumption) ?_
            rotate_left
            · (intro w hSw; (try dsimp only at hSw); go_simp <;> with_reducible rfl)
            try simp only [Act.put, List.setIfInBounds_toArray, List.set_cons_zero, List.set_cons_succ]
            refine wpAnyH_take (i := 15) (oi := { dst := some 97, op := Go.Op.binOp Go.BinOp.gtr 3 (Go.Operand.tmp 96) (Go.Operand.const (Go.Value.int Go.IntKind.i64 0)) 3, type := 4, pos := "stream.go:33", after := #[{ on := 14, ground := Go.Ground.data }, { on := 13, ground := Go.Ground.guard }], guard := some (13, false) }) (v := ?_) rfl (by kernel_rfl) (by kernel_rfl) (by kernel_rfl) (fun _ _ _ h => h) (Or.inl ⟨by rfl, ?_⟩) (by assumption) ?_
            rotate_left
            · (intro w hSw; (try dsimp only at hSw); go_simp <;> with_reducible rfl)
            try simp only [Act.put, List.setIfInBounds_toArray, List.set_cons_zero, List.set_cons_succ]
            refine wpAnyH_take (i := 16) (oi := { dst := some 98, op := Go.Op.move (Go.Operand.tmp 97), type := 4, pos := "stream.go:33", after := #[{ on := 15, ground := Go.Ground.data }, { on := 13, ground := Go.Ground.chain }, { on := 13, ground := Go.Ground.guard }], guard := some (13, false) }) (v := ?_) rfl (by kernel_rfl) (by kernel_rfl) (by kernel_rfl) (fun _ _ _ h => h) (Or.inl ⟨by rfl, ?_⟩) (by assumption) ?_
            rotate_left
            · (intro w hSw; (try dsimp only at hSw); go_simp <;> with_reducible rfl)
            try simp only [Act.put, List.setIfInBounds_toArray, List.set_cons_zero, List.set_cons_succ]
            refine wpAnyH_take (i := 17) (oi := { dst := some 99, op := Go.Op.fieldAddr 32 (Go.Operand.tmp 6) 0, type := 0, pos := "stream.go:33", after := #[{ on := 16, ground := Go.Ground.guard }], guard := some (16, true) }) (v := undef) rfl (by kernel_rfl) (by kernel_rfl) (by kernel_rfl) (fun _ _ _ h => h) (Or.inr ⟨by rfl, rfl⟩) (by assumption) ?_
            try simp only [Act.put, List.setIfInBounds_toArray, List.set_cons_zero, List.set_cons_succ]
            refine wpAnyH_take (i := 18) (oi := { dst := some 100, op := Go.Op.load 3 (Go.Operand.tmp 99), type := 3, pos := "stream.go:33", after := #[{ on := 17, ground := Go.Ground.data }, { on := 16, ground := Go.Ground.guard }], guard := some (16, true) }) (v := undef) rfl (by kernel_rfl) (by kernel_rfl) (by kernel_rfl) (fun _ _ _ h => h) (Or.inr ⟨by rfl, rfl⟩) (by assumption) ?_
            try simp only [Act.put, List.setIfInBounds_toArray, List.set_cons_zero, List.set_cons_succ]
            refine wpAnyH_take (i := 19) (oi := { dst := some 101, op := Go.Op.fieldAddr 30 (Go.Operand.tmp 1) 4, type := 0, pos := "stream.go:33", after := #[{ on := 16, ground := Go.Ground.guard }], guard := some (16, true) }) (v := undef) rfl (by kernel_rfl) (by kernel_rfl) (by kernel_rfl) (fun _ _ _ h => h) (Or.inr ⟨by rfl, rfl⟩) (by assumption) ?_
            try simp only [Act.put, List.setIfInBounds_toArray, List.set_cons_zero, List.set_cons_succ]
            refine wpAnyH_take (i := 20) (oi := { dst := some 102, op := Go.Op.load 28 (Go.Operand.tmp 101), type := 28, pos := "stream.go:33", after := #[{ on := 19, ground := Go.Ground.data }, { on := 16, ground := Go.Ground.guard }], guard := some (16, true) }) (v := undef) rfl (by kernel_rfl) (by kernel_rfl) (by kernel_rfl) (fun _ _ _ h => h) (Or.inr ⟨by rfl, rfl⟩) (by assumption) ?_
            try simp only [Act.put, List.setIfInBounds_toArray, List.set_cons_zero, List.set_cons_succ]
            refine wpAnyH_take (i := 21) (oi := { dst := some 103, op := Go.Op.move (Go.Operand.tmp 5), type := 3, pos := "stream.go:33", after := #[{ on := 16, ground := Go.Ground.guard }], guard := some (16, true) }) (v := undef) rfl (by kernel_rfl) (by kernel_rfl) (by kernel_rfl) (fun _ _ _ h => h) (Or.inr ⟨by rfl, rfl⟩) (by assumption) ?_
            try simp only [Act.put, List.setIfInBounds_toArray, List.set_cons_zero, List.set_cons_succ]
            refine wpAnyH_take (i := 22) (oi := { dst := some 104, op := Go.Op.binOp Go.BinOp.sub 3 (Go.Operand.tmp 103) (Go.Operand.const (Go.Value.int Go.IntKind.i64 1)) 3, type := 3, pos := "stream.go:33", after := #[{ on := 21, ground := Go.Ground.data }, { on := 16, ground := Go.Ground.guard }], guard := some (16, true) }) (v := undef) rfl (by kernel_rfl) (by kernel_rfl) (by kernel_rfl) (fun _ _ _ h => h) (Or.inr ⟨by rfl, rfl⟩) (by assumption) ?_
            try simp only [Act.put, List.setIfInBounds_toArray, List.set_cons_zero, List.set_cons_succ]
            refine wpAnyH_take (i := 23) (oi := { dst := some 105, op := Go.Op.indexAddr 28 (Go.Operand.tmp 102) (Go.Operand.tmp 104), type := 0, pos := "stream.go:33", after := #[{ on := 20, ground := Go.Ground.data }, { on := 22, ground := Go.Ground.data }, { on := 16, ground := Go.Ground.guard }], guard := some (16, true) }) (v := undef) rfl (by kernel_rfl) (by kernel_rfl) (by kernel_rfl) (fun _ _ _ h => h) (Or.inr ⟨by rfl, rfl⟩) (by assumption) ?_
            try simp only [Act.put, List.setIfInBounds_toArray, List.set_cons_zero, List.set_cons_succ]
            refine wpAnyH_take (i := 24) (oi := { dst := some 106, op := Go.Op.fieldAddr 32 (Go.Operand.tmp 105) 0, type := 0, pos := "stream.go:33", after := #[{ on := 23, ground := Go.Ground.data }, { on := 16, ground := Go.Ground.guard }], guard := some (16, true) }) (v := undef) rfl (by kernel_rfl) (by kernel_rfl) (by kernel_rfl) (fun _ _ _ h => h) (Or.inr ⟨by rfl, rfl⟩) (by assumption) ?_
            try simp only [Act.put, List.setIfInBounds_toArray, List.set_cons_zero, List.set_cons_succ]
            refine wpAnyH_take (i := 25) (oi := { dst := some 107, op := Go.Op.load 3 (Go.Operand.tmp 106), type := 3, pos := "stream.go:33", after := #[{ on := 24, ground := Go.Ground.data }, { on := 16, ground := Go.Ground.guard }], guard := some (16, true) }) (v := undef) rfl (by kernel_rfl) (by kernel_rfl) (by kernel_rfl) (fun _ _ _ h => h) (Or.inr ⟨by rfl, rfl⟩) (by assumption) ?_
            try simp only [Act.put, List.setIfInBounds_toArray, List.set_cons_zero, List.set_cons_succ]
            refine wpAnyH_take (i := 26) (oi := { dst := some 108, op := Go.Op.binOp Go.BinOp.lss 3 (Go.Operand.tmp 100) (Go.Operand.tmp 107) 3, type := 4, pos := "stream.go:33", after := #[{ on := 18, ground := Go.Ground.data }, { on := 25, ground := Go.Ground.data }, { on := 16, ground := Go.Ground.guard }], guard := some (16, true) }) (v := undef) rfl (by kernel_rfl) (by kernel_rfl) (by kernel_rfl) (fun _ _ _ h => h) (Or.inr ⟨by rfl, rfl⟩) (by assumption) ?_
            try simp only [Act.put, List.setIfInBounds_toArray, List.set_cons_zero, List.set_cons_succ]
            refine wpAnyH_take (i := 27) (oi := { dst := some 109, op := Go.Op.pick (Go.Operand.tmp 98) (Go.Operand.tmp 108) (Go.Operand.const (Go.Value.bool false)), type := 4, pos := "stream.go:33", after := #[{ on := 16, ground := Go.Ground.data }, { on := 26, ground := Go.Ground.data }, { on := 13, ground := Go.Ground.guard }], guard := some (13, false) }) (v := ?_) rfl (by kernel_rfl) (by kernel_rfl) (by kernel_rfl) (fun _ _ _ h => h) (Or.inl ⟨by rfl, ?_⟩) (by assumption) ?_
            rotate_left
            · (intro w hSw; (try dsimp only at hSw); go_simp <;> with_reducible rfl)
            try simp only [Act.put, List.setIfInBounds_toArray, List.set_cons_zero, List.set_cons_succ]
            refine wpAnyH_take (i := 28) (oi := { dst := some 110, op := Go.Op.pick (Go.Operand.tmp 95) (Go.Operand.const (Go.Value.bool true)) (Go.Operand.tmp 109), type := 4, pos := "stream.go:33", after := #[{ on := 13, ground := Go.Ground.data }, { on := 27, ground := Go.Ground.data }], guard := none }) (v := ?_) rfl (by kernel_rfl) (by kernel_rfl) (by kernel_rfl) (fun _ _ _ h => h) (Or.inl ⟨by rfl, ?_⟩) (by assumption) ?_
            rotate_left
            · (intro w hSw; (try dsimp only at hSw); go_simp <;> with_reducible rfl)
            try simp only [Act.put, List.setIfInBounds_toArray, List.set_cons_zero, List.set_cons_succ]
            refine wpAnyH_done (by kernel_rfl) ?_ _
            go_wp2
            go_roundg (ss.length - (kk + 1))
            case measure => omega
            case rel => exact ⟨kk + 1, by omega, by omega, by go_num, ⟨below_then (pw_below_drewN (below_alloc HW1.out _) _) (pw_below_drewN (below_alloc HW1.out _) _).size hb⟩⟩
        · have hltz : ¬ (kk : Int) < (ss.length : Int) := by omega
          obtain rfl : kk = ss.length := by omega
          go_wp2
          go_ret
          exact ⟨rfl, below_then HB.out HB.out.size HW1.out⟩
end Go.Proofs.Ytoodagohkepcpaa
