/- A piece is begun, or refused. -/
import Derived.Test.YtoodagohkepcpaaD6
import Derived.Test.YtoodagohkepcpaaA7
namespace Go.Proofs.Ytoodagohkepcpaa
open Go.RowKit Go.Shelf Go.Proofs.YtoodagohkepcpaaW.PrintWords
set_option maxRecDepth 100000

theorem take_ahead (a : Addr) (w : World) : (nilAhead 275 49 (.pointer (some a)) "Take").run Try.prog w = .ok (some false) w := by kernel_rfl
theorem take_method (a : Addr) (w : World) : (method 275 49 (.pointer (some a)) "Take").run Try.prog w = .ok (95, .pointer (some a)) w := by kernel_rfl

theorem Keeps.led {cls : Nat → Nat} {k : Nat} {W W' : World} {Bg : Nat} {g : Gr} (hk : k ≠ 3) (hK : Keeps (fun b => cls b ≠ k) W W') (h : LedAt cls W Bg g) : LedAt cls W' Bg g := h.moved (fun b hb hl => hK.block b (by rw [hb]; exact fun e => hk e.symm) hl)
theorem Keeps.news {cls : Nat → Nat} {k base : Nat} {W W' : World} {Bn : Nat} {ns : List S75} (hk : k ≠ 4) (hK : Keeps (fun b => cls b ≠ k) W W') (h : NewsAt cls base W Bn ns) : NewsAt cls base W' Bn ns := h.moved (fun b hb hl => hK.block b (by rw [hb]; exact fun e => hk e.symm) hl)
section
variable {cls c1 cls2 : Nat → Nat} {k base : Nat} {w w4 w5 : World} {Bs Bl Br Bg Bn : Nat} {s : Sp} {g : Gr} {ns : List S75} {nodes : List (Nat × Nat)} {nowv : Value} {said : Int}
theorem spin_tell (hk : k ≠ 3 ∧ k ≠ 4) (hS : SpIn c1 k w4 Bs Bl Br Bg s nodes nowv said) (hc2 : ∀ b, b < w4.heap.size → cls2 b = c1 b) (hk5 : Keeps (fun b => c1 b ≠ 4) w4 w5) : SpIn cls2 k w5 Bs Bl Br Bg s nodes nowv said :=
  (hS.again hc2).moved (fun b hb hl => hk5.block b (by rw [← hc2 b hl, hb]; exact hk.2) hl)
theorem went_tell (hcl1 : ∀ b, b < w.heap.size → c1 b = cls b) (hL : LedAt c1 w4 Bg g) (hkeep : Keeps (fun b => ¬ Mine cls k b) w w4)
    (hc2 : ∀ b, b < w4.heap.size → cls2 b = c1 b) (hS5 : SpAt cls2 k w5 Bs Bl Br Bg s) (hN5 : NewsAt cls2 base w5 Bn ns) (hk5 : Keeps (fun b => c1 b ≠ 4) w4 w5) : Went cls cls2 k base w w5 Bs Bl Br Bg Bn ⟨s, g, ns⟩ := by
  refine ⟨fun b hb => (hc2 b (Nat.lt_of_lt_of_le hb hkeep.size)).trans (hcl1 b hb), ⟨hS5, (hL.again hc2).moved (fun b hb hl => hk5.block b (by rw [← hc2 b hl, hb]; decide) hl), hN5⟩, ?_⟩
  refine ⟨hk5.os.trans hkeep.os, hk5.tape.trans hkeep.tape, hk5.output.trans hkeep.output, Nat.le_trans hkeep.size hk5.size, fun b hb hl => ?_⟩
  exact (hk5.block b (fun e => hb (by rw [hcl1 b hl] at e; exact .inr (.inr e))) (Nat.lt_of_lt_of_le hl hkeep.size)).trans (hkeep.block b hb hl)
theorem Went.spk {s' : Sp} {nowv' : Value} {said' : Int} {W' : World} (hk : k ≠ 3 ∧ k ≠ 4) (h : Went cls cls2 k base w w5 Bs Bl Br Bg Bn ⟨s, g, ns⟩) (hS : SpIn cls2 k w5 Bs Bl Br Bg s nodes nowv said)
    (hW : W'.heap[Bs]? = some (.cells #[.iface 49 (.pointer (some ⟨Bg, 0, none⟩)), .pointer (some ⟨Bl, 0, none⟩), .int .i64 s'.number, .int .i64 s'.pn, .int .i64 s'.pd, .int .i64 s'.clock, .int .i64 (stateF s'.cur), nowv', .int .i64 said', .bool s'.late] 111))
    (hK : Keeps (fun b => b ≠ Bs) w5 W') (ho : ∀ b, b ≠ Bs → W'.heap[b]? = w5.heap[b]?) (hq : s'.q = s.q) (hc : CurAt cls2 k w5 nodes nowv' said' s'.cur) : Went cls cls2 k base w W' Bs Bl Br Bg Bn ⟨s', g, ns⟩ := by
  have hb := hS.kl.1
  refine ⟨h.cl, ⟨⟨_, _, _, hS.spk hW ho hq hc⟩, h.sys.le.moved (fun b hb' _ => ho b (fun e => hk.1 (by rw [← hb, ← e]; exact hb'))), h.sys.ne.moved (fun b hb' _ => ho b (fun e => hk.2 (by rw [← hb, ← e]; exact hb')))⟩, ?_⟩
  refine ⟨hK.os.trans h.keep.os, hK.tape.trans h.keep.tape, hK.output.trans h.keep.output, Nat.le_trans h.keep.size hK.size, fun b hm hl => ?_⟩
  exact (ho b (fun e => hm (.inl (by rw [← h.cl b hl, e]; exact hb)))).trans (h.keep.block b hm hl)
end

set_option maxHeartbeats 16000000 in
theorem begin_yes (cls : Nat → Nat) (k base : Nat) (w : World) (Bs Bl Br Bg Bn : Nat) (x : St) (p : Pc) (q : List Pc) (hk : k ≠ 3 ∧ k ≠ 4) (h : Sys cls k base w Bs Bl Br Bg Bn x) (hG : Good x) (hroom : room x ≤ 1000000000) (hbase : base ≤ w.heap.size)
    (hclock : 0 ≤ x.s.clock ∧ x.s.clock < 1099511627776) (hc : x.s.cur = none) (hq : x.s.q = p :: q) (hqe : x.s.q.length ≤ 1000) (hge : ¬ p.got < p.sp.f5) :
    Calls Try.prog 44 #[.pointer (some ⟨Bs, 0, none⟩), .func (.func 43) #[] #[.pointer (some ⟨Bn, 0, none⟩)]] w fun e w' => e = .returned (.bool true) ∧ ∃ cls', Went cls cls' k base w w' Bs Bl Br Bg Bn (beginF x).2 := by
  have hlq : q.length ≤ 1000000 := by rw [hq] at hqe; simp at hqe; omega
  have hBE : beginF x = match takeF x.g p.sp.f0 ((pacedF p.sp x.s.pn x.s.pd).f2.length : Int) with
      | none => (true, ⟨{ x.s with q := q }, x.g, x.ns ++ [⟨4, x.s.clock, p.num, emptyB⟩]⟩)
      | some g' => (true, ⟨{ x.s with q := q, cur := some ⟨(pacedF p.sp x.s.pn x.s.pd).f2, (pacedF p.sp x.s.pn x.s.pd).f4, p.num, 0⟩ }, g', x.ns ++ [⟨1, x.s.clock, p.num, emptyB⟩]⟩) := by
    unfold beginF
    rw [hc, hq]
    dsimp only
    rw [if_neg hge]
    cases takeF x.g p.sp.f0 ((pacedF p.sp x.s.pn x.s.pd).f2.length : Int) <;> rfl
  have hpo := (hG.pieces p (by rw [hq]; simp)).1
  have hlen := paced_len p.sp hpo hG.pace.1 hG.pace.2
  have hpace := hG.pace
  have hgr := hG.gr
  have hns : x.ns.length ≤ 1000000000 := by unfold room at hroom; omega
  obtain ⟨⟨nodes, nowv, said, hsp⟩, hL, hN⟩ := h
  have hp := hsp.pieces
  rw [hq] at hp
  cases nodes with
  | nil => exact hp.elim
  | cons n nodes =>
  obtain ⟨nb, pb⟩ := n
  obtain ⟨⟨qq, number, pn, pd, clock, cur, late⟩, g, ns⟩ := x
  dsimp only at *
  subst hc hq
  have l1 : w.cell? ⟨Bs, 1, none⟩ = some (.pointer (some ⟨Bl, 0, none⟩)) := blk_cell hsp.sp 1
  have l2 : w.cell? ⟨Bl, 0, none⟩ = some (.pointer (some ⟨Br, 0, none⟩)) := blk_cell hsp.li 0
  have l3 : w.cell? ⟨Br, 1, none⟩ = some (.pointer (some ⟨nb, 0, none⟩)) := blk_cell hsp.ro 1
  have l4 : w.cell? ⟨Bs, 6, none⟩ = some (.int .i64 0) := blk_cell hsp.sp 6
  have hne : nb ≠ Br := by
    have := List.nodup_cons.1 hsp.nodup
    simp at this
    exact fun e => this.1.1 e.symm
  have hR := remove_ok cls k
  obtain ⟨v2, v3, v4, hpb, _⟩ := hp.1.ex
  have l5 : w.cell? ⟨nb, 0, none⟩ = some (.pointer (some ⟨pb, 0, none⟩)) := blk_cell hsp.chain.1 0
  have l6 : w.cell? ⟨pb, 7, none⟩ = some (.int .i64 p.got) := blk_cell hpb 7
  have l7 : w.cell? ⟨pb, 5, none⟩ = some (.int .i64 p.sp.f5) := blk_cell hpb 5
  have hd : decide (p.got < p.sp.f5) = false := by simpa using hge
  have hee := node_ne hsp.chain.1 hsp.ro hne
  have HSP := Aside0.mk (fun n => hsp.moved (W' := w.drewN n) (fun _ _ _ => rfl))
  have HL := Aside0.mk hL
  have HN := Aside0.mk hN
  have HBE := Aside0.mk hBE
  have HPO := Aside0.mk hpo
  have HLEN := Aside0.mk hlen
  have HGR := Aside0.mk hgr
  have HPA := Aside0.mk hpace
  clear hsp hL hN hBE hp hpb hge hG hroom hpo hlen hpace hgr hqe
  go_enter Try.func44, Try.ntmps44
  go_wp2
  go_quiet (fail)
  go_wp2_with fail
  refine (hR _ Bs Bl Br Bg _ (nb, pb) nodes p q nowv said (HSP.out nq) rfl hlq).mono ?_
  rintro e w1 ⟨⟨u1, rfl⟩, hO⟩
  have hk0 : Keeps (fun b => cls b ≠ k) w (w.drewN nq) := (Keeps.refl _ w).drewN nq
  have hk1 := hk0.trans hO.keep
  obtain ⟨hO1, hO2, hO2b, hO3, _⟩ := hO
  have HK1 := Aside0.mk hk1
  have HO1 := Aside0.mk hO1
  have HO2 := Aside0.mk hO2
  have HO2b := Aside0.mk hO2b
  have hnode : w1.cell? ⟨nb, 0, none⟩ = some (.pointer (some ⟨pb, 0, none⟩)) := blk_cell hO3 0
  obtain ⟨V2, V3, V4, hpb, hD2, hD3, hD4⟩ := hO2.ex
  obtain ⟨A2, c2, rfl, hc2, hC2, _⟩ := hD2.ex
  obtain ⟨A3, c3, rfl, hc3, hC3, _⟩ := hD3.ex
  obtain ⟨A4, c4, rfl, hc4, hC4, _⟩ := hD4.ex
  have HP := Aside0.mk (fun (W : World) (hb : Below w1.heap.size w1 W) => callsIn_wide.1 (paced_in 5 (by omega) pn pd A2 A3 A4 c2 c3 c4 p.sp W (Kd.C_below hC2 hb) hc2 (Kd.C_below hC3 hb) (Kd.C_below hC4 hb) hc4 HPO.out HPA.out.1 HPA.out.2))
  have a0' := blk_cell hO1.sp 0
  have a3 : w1.cell? ⟨Bs, 3, none⟩ = some (.int .i64 pn) := blk_cell hO1.sp 3
  have a4 : w1.cell? ⟨Bs, 4, none⟩ = some (.int .i64 pd) := blk_cell hO1.sp 4
  have HPB := Aside0.mk hpb
  obtain ⟨⟨f0, f1, xs, ps, ss, f5⟩, num, got⟩ := p
  dsimp only at *
  have p0 : w1.cell? ⟨pb, 0, none⟩ = some (.int .i64 f0) := blk_cell hpb 0
  have p1 : w1.cell? ⟨pb, 1, none⟩ = some (.int .i64 f1) := blk_cell hpb 1
  have p2 : w1.cell? ⟨pb, 2, none⟩ = some (.slice A2 xs.length c2) := blk_cell hpb 2
  have p3 : w1.cell? ⟨pb, 3, none⟩ = some (.slice A3 ps.length c3) := blk_cell hpb 3
  have p4 : w1.cell? ⟨pb, 4, none⟩ = some (.slice A4 ss.length c4) := blk_cell hpb 4
  have p5 : w1.cell? ⟨pb, 5, none⟩ = some (.int .i64 f5) := blk_cell hpb 5
  have p6 : w1.cell? ⟨pb, 6, none⟩ = some (.int .i64 num) := blk_cell hpb 6
  generalize hY : pacedF ⟨f0, f1, xs, ps, ss, f5⟩ pn pd = Y at *
  have HY := Aside0.mk hY
  clear hk0 hk1 hO1 hO2 hO2b hO3 hpb hD2 hD3 hD4 hC2 hC3 hC4 hc2 hc3 hc4 hR hee l1 l2 l3 l4 l5 l6 l7 hd hne a0' hY
  go_wp2_with fail
  refine (wpIn_wide (n := 0)).1 ?_
  refine region_anyHT (fun W' => Below w1.heap.size w1 W' ∧ W'.cell? ⟨Bs, 3, none⟩ = some (.int .i64 pn) ∧ W'.cell? ⟨Bs, 4, none⟩ = some (.int .i64 pd) ∧ W'.cell? ⟨pb, 0, none⟩ = some (.int .i64 f0) ∧ W'.cell? ⟨pb, 1, none⟩ = some (.int .i64 f1) ∧ W'.cell? ⟨pb, 2, none⟩ = some (.slice A2 xs.length c2) ∧ W'.cell? ⟨pb, 3, none⟩ = some (.slice A3 ps.length c3) ∧ W'.cell? ⟨pb, 4, none⟩ = some (.slice A4 ss.length c4) ∧ W'.cell? ⟨pb, 5, none⟩ = some (.int .i64 f5) ∧ W'.cell? ⟨pb, 6, none⟩ = some (.int .i64 num)) [14] (by kernel_rfl) (⟨pw_below_drewN (Below.refl _ _) 1, a3, a4, p0, p1, p2, p3, p4, p5, p6⟩) (fun hHeld => ?_)
  refine anyHT_pure (fun _ => trivial) (by kernel_rfl) (i := 0) (oi := { dst := some 64, op := Op.move (Operand.tmp 6), type := 107, pos := "speaker.go:212", after := #[], guard := none }) (v := ?_) rfl (by kernel_rfl) (by kernel_rfl) (by kernel_rfl) (fun _ _ _ h => h) (Or.inl ⟨by rfl, ?_⟩) ?_
  rotate_left
  · (intro w _; go_simp <;> with_reducible rfl)
  try simp only [Act.put, List.setIfInBounds_toArray, List.set_cons_zero, List.set_cons_succ]
  refine anyHT_pure (fun _ => trivial) (by kernel_rfl) (i := 1) (oi := { dst := some 65, op := Op.nilCheck (Operand.tmp 64), type := 0, pos := "speaker.go:212", after := #[{ on := 0, ground := Ground.data }], guard := none }) (v := ?_) rfl (by kernel_rfl) (by kernel_rfl) (by kernel_rfl) (fun _ _ _ h => h) (Or.inl ⟨by rfl, ?_⟩) ?_
  rotate_left
  · (intro w _; go_simp <;> with_reducible rfl)
  try simp only [Act.put, List.setIfInBounds_toArray, List.set_cons_zero, List.set_cons_succ]
  refine anyHT_pure (fun _ => trivial) (by kernel_rfl) (i := 2) (oi := { dst := some 66, op := Op.fieldAddr 122 (Operand.tmp 65) 0, type := 0, pos := "speaker.go:212", after := #[{ on := 1, ground := Ground.data }], guard := none }) (v := ?_) rfl (by kernel_rfl) (by kernel_rfl) (by kernel_rfl) (fun _ _ _ h => h) (Or.inl ⟨by rfl, ?_⟩) ?_
  rotate_left
  · (intro w _; go_simp <;> with_reducible rfl)
  try simp only [Act.put, List.setIfInBounds_toArray, List.set_cons_zero, List.set_cons_succ]
  refine anyHT_take (fun _ => trivial) (by kernel_rfl) [8, 13, 14, 15] (i := 3) (oi := { dst := some 67, op := Op.load 30 (Operand.tmp 66), type := 30, pos := "speaker.go:212", after := #[{ on := 2, ground := Ground.data }], guard := none }) (v := ?_) rfl (by kernel_rfl) (by kernel_rfl) (by kernel_rfl) (by kernel_rfl) (by kernel_rfl) (by decide) (fun _ _ _ h => h) (Or.inl ⟨by rfl, ?_⟩) hHeld ?_
  rotate_left
  · (intro w hSw; (try dsimp only at hSw); go_simp <;> with_reducible rfl)
  try simp only [Act.put, List.setIfInBounds_toArray, List.set_cons_zero, List.set_cons_succ]
  refine anyHT_pure (fun _ => trivial) (by kernel_rfl) (i := 4) (oi := { dst := some 68, op := Op.move (Operand.tmp 0), type := 55, pos := "speaker.go:212", after := #[], guard := none }) (v := ?_) rfl (by kernel_rfl) (by kernel_rfl) (by kernel_rfl) (fun _ _ _ h => h) (Or.inl ⟨by rfl, ?_⟩) ?_
  rotate_left
  · (intro w _; go_simp <;> with_reducible rfl)
  try simp only [Act.put, List.setIfInBounds_toArray, List.set_cons_zero, List.set_cons_succ]
  refine anyHT_pure (fun _ => trivial) (by kernel_rfl) (i := 5) (oi := { dst := some 69, op := Op.nilCheck (Operand.tmp 68), type := 0, pos := "speaker.go:212", after := #[{ on := 4, ground := Ground.data }], guard := none }) (v := ?_) rfl (by kernel_rfl) (by kernel_rfl) (by kernel_rfl) (fun _ _ _ h => h) (Or.inl ⟨by rfl, ?_⟩) ?_
  rotate_left
  · (intro w _; go_simp <;> with_reducible rfl)
  try simp only [Act.put, List.setIfInBounds_toArray, List.set_cons_zero, List.set_cons_succ]
  refine anyHT_pure (fun _ => trivial) (by kernel_rfl) (i := 6) (oi := { dst := some 70, op := Op.fieldAddr 111 (Operand.tmp 69) 3, type := 0, pos := "speaker.go:212", after := #[{ on := 5, ground := Ground.data }], guard := none }) (v := ?_) rfl (by kernel_rfl) (by kernel_rfl) (by kernel_rfl) (fun _ _ _ h => h) (Or.inl ⟨by rfl, ?_⟩) ?_
  rotate_left
  · (intro w _; go_simp <;> with_reducible rfl)
  try simp only [Act.put, List.setIfInBounds_toArray, List.set_cons_zero, List.set_cons_succ]
  refine anyHT_take (fun _ => trivial) (by kernel_rfl) [8, 13, 14, 15] (i := 7) (oi := { dst := some 71, op := Op.load 38 (Operand.tmp 70), type := 38, pos := "speaker.go:212", after := #[{ on := 6, ground := Ground.data }], guard := none }) (v := ?_) rfl (by kernel_rfl) (by kernel_rfl) (by kernel_rfl) (by kernel_rfl) (by kernel_rfl) (by decide) (fun _ _ _ h => h) (Or.inl ⟨by rfl, ?_⟩) hHeld ?_
  rotate_left
  · (intro w hSw; (try dsimp only at hSw); go_simp <;> with_reducible rfl)
  try simp only [Act.put, List.setIfInBounds_toArray, List.set_cons_zero, List.set_cons_succ]
  refine anyHT_pure (fun _ => trivial) (by kernel_rfl) (i := 9) (oi := { dst := some 73, op := Op.move (Operand.tmp 6), type := 107, pos := "speaker.go:212", after := #[], guard := none }) (v := ?_) rfl (by kernel_rfl) (by kernel_rfl) (by kernel_rfl) (fun _ _ _ h => h) (Or.inl ⟨by rfl, ?_⟩) ?_
  rotate_left
  · (intro w _; go_simp <;> with_reducible rfl)
  try simp only [Act.put, List.setIfInBounds_toArray, List.set_cons_zero, List.set_cons_succ]
  refine anyHT_pure (fun _ => trivial) (by kernel_rfl) (i := 10) (oi := { dst := some 74, op := Op.nilCheck (Operand.tmp 73), type := 0, pos := "speaker.go:212", after := #[{ on := 9, ground := Ground.data }], guard := none }) (v := ?_) rfl (by kernel_rfl) (by kernel_rfl) (by kernel_rfl) (fun _ _ _ h => h) (Or.inl ⟨by rfl, ?_⟩) ?_
  rotate_left
  · (intro w _; go_simp <;> with_reducible rfl)
  try simp only [Act.put, List.setIfInBounds_toArray, List.set_cons_zero, List.set_cons_succ]
  refine anyHT_pure (fun _ => trivial) (by kernel_rfl) (i := 11) (oi := { dst := some 75, op := Op.fieldAddr 122 (Operand.tmp 74) 1, type := 0, pos := "speaker.go:212", after := #[{ on := 10, ground := Ground.data }], guard := none }) (v := ?_) rfl (by kernel_rfl) (by kernel_rfl) (by kernel_rfl) (fun _ _ _ h => h) (Or.inl ⟨by rfl, ?_⟩) ?_
  rotate_left
  · (intro w _; go_simp <;> with_reducible rfl)
  try simp only [Act.put, List.setIfInBounds_toArray, List.set_cons_zero, List.set_cons_succ]
  refine anyHT_take (fun _ => trivial) (by kernel_rfl) [13, 14, 15] (i := 12) (oi := { dst := some 76, op := Op.load 3 (Operand.tmp 75), type := 3, pos := "speaker.go:212", after := #[{ on := 11, ground := Ground.data }], guard := none }) (v := ?_) rfl (by kernel_rfl) (by kernel_rfl) (by kernel_rfl) (by kernel_rfl) (by kernel_rfl) (by decide) (fun _ _ _ h => h) (Or.inl ⟨by rfl, ?_⟩) hHeld ?_
  rotate_left
  · (intro w hSw; (try dsimp only at hSw); go_simp <;> with_reducible rfl)
  try simp only [Act.put, List.setIfInBounds_toArray, List.set_cons_zero, List.set_cons_succ]
  refine anyHT_one (i := 8) (o := { dst := some 72, op := Op.call { callee := Callee.value (Operand.func 34), args := #[Operand.tmp 67, Operand.tmp 71], argTypes := #[30, 38] }, type := 30, pos := "speaker.go:212", after := #[{ on := 3, ground := Ground.data }, { on := 7, ground := Ground.data }], guard := none }) (by kernel_rfl) rfl (by rfl) (fun K hK => ?_)
  go_simp
  refine ⟨trivial, rfl, ?_⟩
  refine (callsIn_wide.2 (HP.out _ hHeld.1)).mono ?_
  rintro e w2 ⟨⟨vs, vg, rfl, os, og⟩, hb2⟩
  obtain ⟨As, cs, rfl⟩ := own_slice os
  obtain ⟨Ag, cg, rfl⟩ := own_slice og
  refine hK.out _ _ (fun _ hSw => ⟨below_trans' hSw.1 hb2, pw_cell_below hb2 hSw.2.1, pw_cell_below hb2 hSw.2.2.1, pw_cell_below hb2 hSw.2.2.2.1, pw_cell_below hb2 hSw.2.2.2.2.1, pw_cell_below hb2 hSw.2.2.2.2.2.1, pw_cell_below hb2 hSw.2.2.2.2.2.2.1, pw_cell_below hb2 hSw.2.2.2.2.2.2.2.1, pw_cell_below hb2 hSw.2.2.2.2.2.2.2.2.1, pw_cell_below hb2 hSw.2.2.2.2.2.2.2.2.2⟩) ?_
  replace hHeld : (fun (W' : World) => Below w1.heap.size w1 W' ∧ W'.cell? ⟨Bs, 3, none⟩ = some (.int .i64 pn) ∧ W'.cell? ⟨Bs, 4, none⟩ = some (.int .i64 pd) ∧ W'.cell? ⟨pb, 0, none⟩ = some (.int .i64 f0) ∧ W'.cell? ⟨pb, 1, none⟩ = some (.int .i64 f1) ∧ W'.cell? ⟨pb, 2, none⟩ = some (.slice A2 xs.length c2) ∧ W'.cell? ⟨pb, 3, none⟩ = some (.slice A3 ps.length c3) ∧ W'.cell? ⟨pb, 4, none⟩ = some (.slice A4 ss.length c4) ∧ W'.cell? ⟨pb, 5, none⟩ = some (.int .i64 f5) ∧ W'.cell? ⟨pb, 6, none⟩ = some (.int .i64 num)) _ := (fun (hSw : (fun (W' : World) => Below w1.heap.size w1 W' ∧ W'.cell? ⟨Bs, 3, none⟩ = some (.int .i64 pn) ∧ W'.cell? ⟨Bs, 4, none⟩ = some (.int .i64 pd) ∧ W'.cell? ⟨pb, 0, none⟩ = some (.int .i64 f0) ∧ W'.cell? ⟨pb, 1, none⟩ = some (.int .i64 f1) ∧ W'.cell? ⟨pb, 2, none⟩ = some (.slice A2 xs.length c2) ∧ W'.cell? ⟨pb, 3, none⟩ = some (.slice A3 ps.length c3) ∧ W'.cell? ⟨pb, 4, none⟩ = some (.slice A4 ss.length c4) ∧ W'.cell? ⟨pb, 5, none⟩ = some (.int .i64 f5) ∧ W'.cell? ⟨pb, 6, none⟩ = some (.int .i64 num)) _) => ⟨below_trans' hSw.1 hb2, pw_cell_below hb2 hSw.2.1, pw_cell_below hb2 hSw.2.2.1, pw_cell_below hb2 hSw.2.2.2.1, pw_cell_below hb2 hSw.2.2.2.2.1, pw_cell_below hb2 hSw.2.2.2.2.2.1, pw_cell_below hb2 hSw.2.2.2.2.2.2.1, pw_cell_below hb2 hSw.2.2.2.2.2.2.2.1, pw_cell_below hb2 hSw.2.2.2.2.2.2.2.2.1, pw_cell_below hb2 hSw.2.2.2.2.2.2.2.2.2⟩) hHeld
  clear hK K
  try simp only [Act.put, List.setIfInBounds_toArray, List.set_cons_zero, List.set_cons_succ]
  refine anyHT_pure (fun _ => trivial) (by kernel_rfl) (i := 13) (oi := { dst := some 77, op := Op.build 122 #[(0, Operand.tmp 72), (1, Operand.tmp 76)], type := 122, pos := "speaker.go:212", after := #[{ on := 8, ground := Ground.data }, { on := 12, ground := Ground.data }], guard := none }) (v := ?_) rfl (by kernel_rfl) (by kernel_rfl) (by kernel_rfl) (fun _ _ _ h => h) (Or.inl ⟨by rfl, ?_⟩) ?_
  rotate_left
  · (intro w _; go_simp <;> with_reducible rfl)
  try simp only [Act.put, List.setIfInBounds_toArray, List.set_cons_zero, List.set_cons_succ]
  refine anyHT_one (i := 14) (o := { dst := some 78, op := Op.box 122 (Operand.tmp 77), type := 107, pos := "speaker.go:212", after := #[{ on := 13, ground := Ground.data }], guard := none }) (by kernel_rfl) rfl (by rfl) (fun K hK => ?_)
  go_simp
  refine hK.out _ _ (fun h => absurd (by decide) h) ?_
  clear hK K
  try simp only [Act.put, List.setIfInBounds_toArray, List.set_cons_zero, List.set_cons_succ]
  refine anyHT_pure (fun _ => trivial) (by kernel_rfl) (i := 15) (oi := { dst := some 7, op := Op.assign (Operand.tmp 78), type := 107, pos := "speaker.go:212", after := #[{ on := 14, ground := Ground.data }, { on := 8, ground := Ground.chain }, { on := 0, ground := Ground.phase }, { on := 1, ground := Ground.phase }, { on := 2, ground := Ground.phase }, { on := 3, ground := Ground.phase }, { on := 4, ground := Ground.phase }, { on := 5, ground := Ground.phase }, { on := 6, ground := Ground.phase }, { on := 7, ground := Ground.phase }, { on := 8, ground := Ground.phase }, { on := 9, ground := Ground.phase }, { on := 10, ground := Ground.phase }, { on := 11, ground := Ground.phase }, { on := 12, ground := Ground.phase }, { on := 13, ground := Ground.phase }, { on := 14, ground := Ground.phase }], guard := none }) (v := ?_) rfl (by kernel_rfl) (by kernel_rfl) (by kernel_rfl) (fun _ _ _ h => h) (Or.inl ⟨by rfl, ?_⟩) ?_
  rotate_left
  · (intro w _; go_simp <;> with_reducible rfl)
  try simp only [Act.put, List.setIfInBounds_toArray, List.set_cons_zero, List.set_cons_succ]
  refine anyHT_done (by kernel_rfl) ?_ _
  have hX0 : Below w1.heap.size w1 w2 := below_trans' (below_drew (Below.refl _ _)) hb2
  have hX1 : Below w2.heap.size w2 (w2.alloc (.cells #[.int .i64 f0, .int .i64 f1, .slice As Y.f2.length cs, .slice none 0 0, .slice Ag Y.f4.length cg, .int .i64 f5, .int .i64 num, .int .i64 0] 122)) := below_alloc (Below.refl _ _) _
  have hX := below_trans' hX0 hX1
  have hnew := fun (b : Nat) (hb : w1.heap.size ≤ b) => newCls_new cls w1.heap.size k hb
  have hold := newCls_old cls w1.heap.size k
  have HS := Aside0.mk ((HO1.out.again hold).moved (fun b _ hl => hX.block b hl))
  have hPN : PieceAt (newCls cls w1.heap.size k) k (w2.alloc (.cells #[.int .i64 f0, .int .i64 f1, .slice As Y.f2.length cs, .slice none 0 0, .slice Ag Y.f4.length cg, .int .i64 f5, .int .i64 num, .int .i64 0] 122)) w2.heap.size ⟨f0, f1, Y.f2, [], Y.f4, f5⟩ num 0 :=
    ⟨hnew _ hX0.size, _, _, _, blk_new w2 _, Dat.of_own eI_len eI_K (pw_own_below os hX1) (fun b hb => hnew b (own_base os b hb)), Dat.nil _ _ _ _ _, Dat.of_own e32_len e32_K (pw_own_below og hX1) (fun b hb => hnew b (own_base og b hb))⟩
  have HPN := Aside0.mk hPN
  have HLX := Aside0.mk (((HK1.out.led hk.1 HL.out).again hold).moved (fun b _ hl => hX.block b hl))
  have HNX := Aside0.mk (((HK1.out.news hk.2 HN.out).again hold).moved (fun b _ hl => hX.block b hl))
  have HKX : Aside0 (Keeps (fun b => ¬ Mine cls k b) w (w2.alloc (.cells #[.int .i64 f0, .int .i64 f1, .slice As Y.f2.length cs, .slice none 0 0, .slice Ag Y.f4.length cg, .int .i64 f5, .int .i64 num, .int .i64 0] 122))) := ⟨(HK1.out.mono (fun b _ hm e => hm (.inl e))).trans (.of_below hX)⟩
  have HCL : Aside0 (∀ b, b < w.heap.size → newCls cls w1.heap.size k b = cls b) := ⟨fun b hb => hold b (Nat.lt_of_lt_of_le hb HK1.out.size)⟩
  have HNF : Aside0 (w2.heap.size ∉ nodes.map (·.2)) := ⟨fun hm => by
    obtain ⟨n, hn, e⟩ := List.mem_map.1 hm
    have := pieces_lt HO1.out.pieces n hn
    have := hX0.size
    omega⟩
  have HPC : Aside0 (newCls cls w1.heap.size k pb = k) := ⟨(hold pb (blk_lt HPB.out)).trans HO2.out.cl⟩
  have n2 : (w2.alloc (.cells #[.int .i64 f0, .int .i64 f1, .slice As Y.f2.length cs, .slice none 0 0, .slice Ag Y.f4.length cg, .int .i64 f5, .int .i64 num, .int .i64 0] 122)).cell? ⟨w2.heap.size, 2, none⟩ = some (.slice As Y.f2.length cs) := blk_cell (blk_new w2 _) 2
  have HPX := Aside0.mk (pw_blk_below HPB.out hX)
  have hbX : base ≤ (w2.alloc (.cells #[.int .i64 f0, .int .i64 f1, .slice As Y.f2.length cs, .slice none 0 0, .slice Ag Y.f4.length cg, .int .i64 f5, .int .i64 num, .int .i64 0] 122)).heap.size := Nat.le_trans hbase HKX.out.size
  have HBX := Aside0.mk hbX
  generalize hc1 : newCls cls w1.heap.size k = c1 at *
  clear hHeld hb2 os og hX0 hX1 hX hnew hold hPN HO1 HO2 HO2b HPB HK1 HL HN HSP HP hnode a3 a4 p0 p1 p2 p3 p4 p5 p6 hbX hc1
  generalize (w2.alloc (.cells #[.int .i64 f0, .int .i64 f1, .slice As Y.f2.length cs, .slice none 0 0, .slice Ag Y.f4.length cg, .int .i64 f5, .int .i64 num, .int .i64 0] 122)) = X at *
  generalize w2.heap.size = N at *
  generalize hys : Y.f2 = ys at *
  have a0 : X.cell? ⟨Bs, 0, none⟩ = some (.iface 49 (.pointer (some ⟨Bg, 0, none⟩))) := blk_cell HS.out.sp 0
  have a5 : X.cell? ⟨Bs, 5, none⟩ = some (.int .i64 clock) := blk_cell HS.out.sp 5
  have p0 : X.cell? ⟨pb, 0, none⟩ = some (.int .i64 f0) := blk_cell HPX.out 0
  have p1 : X.cell? ⟨pb, 1, none⟩ = some (.int .i64 f1) := blk_cell HPX.out 1
  have hlen := HLEN.out
  have hvo := HPO.out.voice
  have huo := HPO.out.use
  dsimp only at hvo huo
  have hm1 := fun (a : Addr) (w : World) => take_ahead a w
  have hm2 := fun (a : Addr) (w : World) => take_method a w
  by_cases hgr : grantedB g f0 (ys.length : Int) = true
  · have HTy := Aside0.mk (Take_yes c1 X.drew Bg g f0 f1 (ys.length : Int) clock (HLX.out.moved (fun _ _ _ => rfl)) hvo huo (by omega) hclock HGR.out hgr)
    have HE := Aside0.mk (granted_some hgr)
    clear hvo huo hgr hys
    go_wp2_with fail
    refine (wpIn_wide (n := 0)).1 ?_
    refine region_anyHT (fun W' => W'.cell? ⟨Bs, 0, none⟩ = some (.iface 49 (.pointer (some ⟨Bg, 0, none⟩))) ∧ W'.cell? ⟨Bs, 5, none⟩ = some (.int .i64 clock) ∧ W'.cell? ⟨pb, 0, none⟩ = some (.int .i64 f0) ∧ W'.cell? ⟨pb, 1, none⟩ = some (.int .i64 f1) ∧ W'.cell? ⟨N, 2, none⟩ = some (.slice As (ys.length : Nat) cs)) [26] (by kernel_rfl) (⟨a0, a5, p0, p1, n2⟩) (fun hHeld => ?_)
    refine anyHT_pure (fun _ => trivial) (by kernel_rfl) (i := 0) (oi := { dst := some 80, op := Op.move (Operand.tmp 0), type := 55, pos := "speaker.go:213", after := #[], guard := none }) (v := ?_) rfl (by kernel_rfl) (by kernel_rfl) (by kernel_rfl) (fun _ _ _ h => h) (Or.inl ⟨by rfl, ?_⟩) ?_
    rotate_left
    · (intro w _; go_simp <;> with_reducible rfl)
    try simp only [Act.put, List.setIfInBounds_toArray, List.set_cons_zero, List.set_cons_succ]
    refine anyHT_pure (fun _ => trivial) (by kernel_rfl) (i := 1) (oi := { dst := some 81, op := Op.nilCheck (Operand.tmp 80), type := 0, pos := "speaker.go:213", after := #[{ on := 0, ground := Ground.data }], guard := none }) (v := ?_) rfl (by kernel_rfl) (by kernel_rfl) (by kernel_rfl) (fun _ _ _ h => h) (Or.inl ⟨by rfl, ?_⟩) ?_
    rotate_left
    · (intro w _; go_simp <;> with_reducible rfl)
    try simp only [Act.put, List.setIfInBounds_toArray, List.set_cons_zero, List.set_cons_succ]
    refine anyHT_pure (fun _ => trivial) (by kernel_rfl) (i := 2) (oi := { dst := some 82, op := Op.fieldAddr 111 (Operand.tmp 81) 0, type := 0, pos := "speaker.go:213", after := #[{ on := 1, ground := Ground.data }], guard := none }) (v := ?_) rfl (by kernel_rfl) (by kernel_rfl) (by kernel_rfl) (fun _ _ _ h => h) (Or.inl ⟨by rfl, ?_⟩) ?_
    rotate_left
    · (intro w _; go_simp <;> with_reducible rfl)
    try simp only [Act.put, List.setIfInBounds_toArray, List.set_cons_zero, List.set_cons_succ]
    refine anyHT_take (fun _ => trivial) (by kernel_rfl) [24, 25, 26, 27, 28, 29, 30, 31] (i := 3) (oi := { dst := some 83, op := Op.load 109 (Operand.tmp 82), type := 109, pos := "speaker.go:213", after := #[{ on := 2, ground := Ground.data }], guard := none }) (v := ?_) rfl (by kernel_rfl) (by kernel_rfl) (by kernel_rfl) (by kernel_rfl) (by kernel_rfl) (by decide) (fun _ _ _ h => h) (Or.inl ⟨by rfl, ?_⟩) hHeld ?_
    rotate_left
    · (intro w hSw; (try dsimp only at hSw); go_simp <;> with_reducible rfl)
    try simp only [Act.put, List.setIfInBounds_toArray, List.set_cons_zero, List.set_cons_succ]
    refine anyHT_pure (fun _ => trivial) (by kernel_rfl) (i := 4) (oi := { dst := some 84, op := Op.move (Operand.tmp 6), type := 107, pos := "speaker.go:213", after := #[], guard := none }) (v := ?_) rfl (by kernel_rfl) (by kernel_rfl) (by kernel_rfl) (fun _ _ _ h => h) (Or.inl ⟨by rfl, ?_⟩) ?_
    rotate_left
    · (intro w _; go_simp <;> with_reducible rfl)
    try simp only [Act.put, List.setIfInBounds_toArray, List.set_cons_zero, List.set_cons_succ]
    refine anyHT_pure (fun _ => trivial) (by kernel_rfl) (i := 5) (oi := { dst := some 85, op := Op.nilCheck (Operand.tmp 84), type := 0, pos := "speaker.go:213", after := #[{ on := 4, ground := Ground.data }], guard := none }) (v := ?_) rfl (by kernel_rfl) (by kernel_rfl) (by kernel_rfl) (fun _ _ _ h => h) (Or.inl ⟨by rfl, ?_⟩) ?_
    rotate_left
    · (intro w _; go_simp <;> with_reducible rfl)
    try simp only [Act.put, List.setIfInBounds_toArray, List.set_cons_zero, List.set_cons_succ]
    refine anyHT_pure (fun _ => trivial) (by kernel_rfl) (i := 6) (oi := { dst := some 86, op := Op.fieldAddr 122 (Operand.tmp 85) 0, type := 0, pos := "speaker.go:213", after := #[{ on := 5, ground := Ground.data }], guard := none }) (v := ?_) rfl (by kernel_rfl) (by kernel_rfl) (by kernel_rfl) (fun _ _ _ h => h) (Or.inl ⟨by rfl, ?_⟩) ?_
    rotate_left
    · (intro w _; go_simp <;> with_reducible rfl)
    try simp only [Act.put, List.setIfInBounds_toArray, List.set_cons_zero, List.set_cons_succ]
    refine anyHT_pure (fun _ => trivial) (by kernel_rfl) (i := 7) (oi := { dst := some 87, op := Op.fieldAddr 30 (Operand.tmp 86) 0, type := 0, pos := "speaker.go:213", after := #[{ on := 6, ground := Ground.data }], guard := none }) (v := ?_) rfl (by kernel_rfl) (by kernel_rfl) (by kernel_rfl) (fun _ _ _ h => h) (Or.inl ⟨by rfl, ?_⟩) ?_
    rotate_left
    · (intro w _; go_simp <;> with_reducible rfl)
    try simp only [Act.put, List.setIfInBounds_toArray, List.set_cons_zero, List.set_cons_succ]
    refine anyHT_take (fun _ => trivial) (by kernel_rfl) [26, 27, 28, 29, 30, 31] (i := 8) (oi := { dst := some 88, op := Op.load 3 (Operand.tmp 87), type := 3, pos := "speaker.go:213", after := #[{ on := 7, ground := Ground.data }], guard := none }) (v := ?_) rfl (by kernel_rfl) (by kernel_rfl) (by kernel_rfl) (by kernel_rfl) (by kernel_rfl) (by decide) (fun _ _ _ h => h) (Or.inl ⟨by rfl, ?_⟩) hHeld ?_
    rotate_left
    · (intro w hSw; (try dsimp only at hSw); go_simp <;> with_reducible rfl)
    try simp only [Act.put, List.setIfInBounds_toArray, List.set_cons_zero, List.set_cons_succ]
    refine anyHT_pure (fun _ => trivial) (by kernel_rfl) (i := 9) (oi := { dst := some 89, op := Op.move (Operand.tmp 6), type := 107, pos := "speaker.go:213", after := #[], guard := none }) (v := ?_) rfl (by kernel_rfl) (by kernel_rfl) (by kernel_rfl) (fun _ _ _ h => h) (Or.inl ⟨by rfl, ?_⟩) ?_
    rotate_left
    · (intro w _; go_simp <;> with_reducible rfl)
    try simp only [Act.put, List.setIfInBounds_toArray, List.set_cons_zero, List.set_cons_succ]
    refine anyHT_pure (fun _ => trivial) (by kernel_rfl) (i := 10) (oi := { dst := some 90, op := Op.nilCheck (Operand.tmp 89), type := 0, pos := "speaker.go:213", after := #[{ on := 9, ground := Ground.data }], guard := none }) (v := ?_) rfl (by kernel_rfl) (by kernel_rfl) (by kernel_rfl) (fun _ _ _ h => h) (Or.inl ⟨by rfl, ?_⟩) ?_
    rotate_left
    · (intro w _; go_simp <;> with_reducible rfl)
    try simp only [Act.put, List.setIfInBounds_toArray, List.set_cons_zero, List.set_cons_succ]
    refine anyHT_pure (fun _ => trivial) (by kernel_rfl) (i := 11) (oi := { dst := some 91, op := Op.fieldAddr 122 (Operand.tmp 90) 0, type := 0, pos := "speaker.go:213", after := #[{ on := 10, ground := Ground.data }], guard := none }) (v := ?_) rfl (by kernel_rfl) (by kernel_rfl) (by kernel_rfl) (fun _ _ _ h => h) (Or.inl ⟨by rfl, ?_⟩) ?_
    rotate_left
    · (intro w _; go_simp <;> with_reducible rfl)
    try simp only [Act.put, List.setIfInBounds_toArray, List.set_cons_zero, List.set_cons_succ]
    refine anyHT_pure (fun _ => trivial) (by kernel_rfl) (i := 12) (oi := { dst := some 92, op := Op.fieldAddr 30 (Operand.tmp 91) 1, type := 0, pos := "speaker.go:213", after := #[{ on := 11, ground := Ground.data }], guard := none }) (v := ?_) rfl (by kernel_rfl) (by kernel_rfl) (by kernel_rfl) (fun _ _ _ h => h) (Or.inl ⟨by rfl, ?_⟩) ?_
    rotate_left
    · (intro w _; go_simp <;> with_reducible rfl)
    try simp only [Act.put, List.setIfInBounds_toArray, List.set_cons_zero, List.set_cons_succ]
    refine anyHT_take (fun _ => trivial) (by kernel_rfl) [26, 27, 28, 29, 30, 31] (i := 13) (oi := { dst := some 93, op := Op.load 3 (Operand.tmp 92), type := 3, pos := "speaker.go:213", after := #[{ on := 12, ground := Ground.data }], guard := none }) (v := ?_) rfl (by kernel_rfl) (by kernel_rfl) (by kernel_rfl) (by kernel_rfl) (by kernel_rfl) (by decide) (fun _ _ _ h => h) (Or.inl ⟨by rfl, ?_⟩) hHeld ?_
    rotate_left
    · (intro w hSw; (try dsimp only at hSw); go_simp <;> with_reducible rfl)
    try simp only [Act.put, List.setIfInBounds_toArray, List.set_cons_zero, List.set_cons_succ]
    refine anyHT_pure (fun _ => trivial) (by kernel_rfl) (i := 14) (oi := { dst := some 94, op := Op.move (Operand.tmp 7), type := 107, pos := "speaker.go:213", after := #[], guard := none }) (v := ?_) rfl (by kernel_rfl) (by kernel_rfl) (by kernel_rfl) (fun _ _ _ h => h) (Or.inl ⟨by rfl, ?_⟩) ?_
    rotate_left
    · (intro w _; go_simp <;> with_reducible rfl)
    try simp only [Act.put, List.setIfInBounds_toArray, List.set_cons_zero, List.set_cons_succ]
    refine anyHT_pure (fun _ => trivial) (by kernel_rfl) (i := 15) (oi := { dst := some 95, op := Op.nilCheck (Operand.tmp 94), type := 0, pos := "speaker.go:213", after := #[{ on := 14, ground := Ground.data }], guard := none }) (v := ?_) rfl (by kernel_rfl) (by kernel_rfl) (by kernel_rfl) (fun _ _ _ h => h) (Or.inl ⟨by rfl, ?_⟩) ?_
    rotate_left
    · (intro w _; go_simp <;> with_reducible rfl)
    try simp only [Act.put, List.setIfInBounds_toArray, List.set_cons_zero, List.set_cons_succ]
    refine anyHT_pure (fun _ => trivial) (by kernel_rfl) (i := 16) (oi := { dst := some 96, op := Op.fieldAddr 122 (Operand.tmp 95) 0, type := 0, pos := "speaker.go:213", after := #[{ on := 15, ground := Ground.data }], guard := none }) (v := ?_) rfl (by kernel_rfl) (by kernel_rfl) (by kernel_rfl) (fun _ _ _ h => h) (Or.inl ⟨by rfl, ?_⟩) ?_
    rotate_left
    · (intro w _; go_simp <;> with_reducible rfl)
    try simp only [Act.put, List.setIfInBounds_toArray, List.set_cons_zero, List.set_cons_succ]
    refine anyHT_pure (fun _ => trivial) (by kernel_rfl) (i := 17) (oi := { dst := some 97, op := Op.fieldAddr 30 (Operand.tmp 96) 2, type := 0, pos := "speaker.go:213", after := #[{ on := 16, ground := Ground.data }], guard := none }) (v := ?_) rfl (by kernel_rfl) (by kernel_rfl) (by kernel_rfl) (fun _ _ _ h => h) (Or.inl ⟨by rfl, ?_⟩) ?_
    rotate_left
    · (intro w _; go_simp <;> with_reducible rfl)
    try simp only [Act.put, List.setIfInBounds_toArray, List.set_cons_zero, List.set_cons_succ]
    refine anyHT_take (fun _ => trivial) (by kernel_rfl) [19, 26, 27, 28, 29, 30, 31] (i := 18) (oi := { dst := some 98, op := Op.load 22 (Operand.tmp 97), type := 22, pos := "speaker.go:213", after := #[{ on := 17, ground := Ground.data }], guard := none }) (v := ?_) rfl (by kernel_rfl) (by kernel_rfl) (by kernel_rfl) (by kernel_rfl) (by kernel_rfl) (by decide) (fun _ _ _ h => h) (Or.inl ⟨by rfl, ?_⟩) hHeld ?_
    rotate_left
    · (intro w hSw; (try dsimp only at hSw); go_simp <;> with_reducible rfl)
    try simp only [Act.put, List.setIfInBounds_toArray, List.set_cons_zero, List.set_cons_succ]
    refine anyHT_pure (fun _ => trivial) (by kernel_rfl) (i := 19) (oi := { dst := some 99, op := Op.call { callee := Callee.builtin Builtin.len, args := #[Operand.tmp 98], argTypes := #[22] }, type := 3, pos := "speaker.go:213", after := #[{ on := 18, ground := Ground.data }], guard := none }) (v := ?_) rfl (by kernel_rfl) (by kernel_rfl) (by kernel_rfl) (fun _ _ _ h => h) (Or.inl ⟨by rfl, ?_⟩) ?_
    rotate_left
    · (intro w _; go_simp <;> with_reducible rfl)
    try simp only [Act.put, List.setIfInBounds_toArray, List.set_cons_zero, List.set_cons_succ]
    refine anyHT_pure (fun _ => trivial) (by kernel_rfl) (i := 20) (oi := { dst := some 100, op := Op.move (Operand.tmp 0), type := 55, pos := "speaker.go:213", after := #[], guard := none }) (v := ?_) rfl (by kernel_rfl) (by kernel_rfl) (by kernel_rfl) (fun _ _ _ h => h) (Or.inl ⟨by rfl, ?_⟩) ?_
    rotate_left
    · (intro w _; go_simp <;> with_reducible rfl)
    try simp only [Act.put, List.setIfInBounds_toArray, List.set_cons_zero, List.set_cons_succ]
    refine anyHT_pure (fun _ => trivial) (by kernel_rfl) (i := 21) (oi := { dst := some 101, op := Op.nilCheck (Operand.tmp 100), type := 0, pos := "speaker.go:213", after := #[{ on := 20, ground := Ground.data }], guard := none }) (v := ?_) rfl (by kernel_rfl) (by kernel_rfl) (by kernel_rfl) (fun _ _ _ h => h) (Or.inl ⟨by rfl, ?_⟩) ?_
    rotate_left
    · (intro w _; go_simp <;> with_reducible rfl)
    try simp only [Act.put, List.setIfInBounds_toArray, List.set_cons_zero, List.set_cons_succ]
    refine anyHT_pure (fun _ => trivial) (by kernel_rfl) (i := 22) (oi := { dst := some 102, op := Op.fieldAddr 111 (Operand.tmp 101) 4, type := 0, pos := "speaker.go:213", after := #[{ on := 21, ground := Ground.data }], guard := none }) (v := ?_) rfl (by kernel_rfl) (by kernel_rfl) (by kernel_rfl) (fun _ _ _ h => h) (Or.inl ⟨by rfl, ?_⟩) ?_
    rotate_left
    · (intro w _; go_simp <;> with_reducible rfl)
    try simp only [Act.put, List.setIfInBounds_toArray, List.set_cons_zero, List.set_cons_succ]
    refine anyHT_take (fun _ => trivial) (by kernel_rfl) [26, 27, 28, 29, 30, 31] (i := 23) (oi := { dst := some 103, op := Op.load 3 (Operand.tmp 102), type := 3, pos := "speaker.go:213", after := #[{ on := 22, ground := Ground.data }], guard := none }) (v := ?_) rfl (by kernel_rfl) (by kernel_rfl) (by kernel_rfl) (by kernel_rfl) (by kernel_rfl) (by decide) (fun _ _ _ h => h) (Or.inl ⟨by rfl, ?_⟩) hHeld ?_
    rotate_left
    · (intro w hSw; (try dsimp only at hSw); go_simp <;> with_reducible rfl)
    try simp only [Act.put, List.setIfInBounds_toArray, List.set_cons_zero, List.set_cons_succ]
    refine anyHT_pure (fun _ => trivial) (by kernel_rfl) (i := 24) (oi := { dst := some 104, op := Op.nilCheck (Operand.tmp 83), type := 109, pos := "speaker.go:213", after := #[{ on := 3, ground := Ground.data }], guard := none }) (v := ?_) rfl (by kernel_rfl) (by kernel_rfl) (by kernel_rfl) (fun _ _ _ h => h) (Or.inl ⟨by rfl, ?_⟩) ?_
    rotate_left
    · (intro w _; go_simp <;> with_reducible rfl)
    try simp only [Act.put, List.setIfInBounds_toArray, List.set_cons_zero, List.set_cons_succ]
    refine anyHT_pure (fun _ => trivial) (by kernel_rfl) (i := 25) (oi := { dst := some 105, op := Op.move (Operand.tmp 83), type := 109, pos := "speaker.go:213", after := #[{ on := 3, ground := Ground.data }, { on := 24, ground := Ground.data }], guard := none }) (v := ?_) rfl (by kernel_rfl) (by kernel_rfl) (by kernel_rfl) (fun _ _ _ h => h) (Or.inl ⟨by rfl, ?_⟩) ?_
    rotate_left
    · (intro w _; go_simp <;> with_reducible rfl)
    try simp only [Act.put, List.setIfInBounds_toArray, List.set_cons_zero, List.set_cons_succ]
    refine anyHT_one (i := 26) (o := { dst := some 106, op := Op.call { callee := Callee.invoke (Operand.tmp 105) "Take", args := #[Operand.tmp 88, Operand.tmp 93, Operand.tmp 99, Operand.tmp 103], argTypes := #[3, 3, 3, 3] }, type := 51, pos := "speaker.go:213", after := #[{ on := 25, ground := Ground.data }, { on := 8, ground := Ground.data }, { on := 13, ground := Ground.data }, { on := 19, ground := Ground.data }, { on := 23, ground := Ground.data }], guard := none }) (by kernel_rfl) rfl (by rfl) (fun K hK => ?_)
    go_simp
    refine ⟨trivial, rfl, ?_⟩
    refine (callsIn_wide.2 HTy.out).mono ?_
    rintro e w3 ⟨rfl, hL3, hk3⟩
    refine hK.out _ _ (fun h => absurd (by decide) h) ?_
    clear hK K
    try simp only [Act.put, List.setIfInBounds_toArray, List.set_cons_zero, List.set_cons_succ]
    refine anyHT_pure (fun _ => trivial) (by kernel_rfl) (i := 27) (oi := { dst := some 79, op := Op.move (Operand.tmp 106), type := 51, pos := "speaker.go:213", after := #[{ on := 26, ground := Ground.data }], guard := none }) (v := ?_) rfl (by kernel_rfl) (by kernel_rfl) (by kernel_rfl) (fun _ _ _ h => h) (Or.inl ⟨by rfl, ?_⟩) ?_
    rotate_left
    · (intro w _; go_simp <;> with_reducible rfl)
    try simp only [Act.put, List.setIfInBounds_toArray, List.set_cons_zero, List.set_cons_succ]
    refine anyHT_pure (fun _ => trivial) (by kernel_rfl) (i := 28) (oi := { dst := some 107, op := Op.extract (Operand.tmp 79) 0, type := 3, pos := "speaker.go:213", after := #[{ on := 27, ground := Ground.data }], guard := none }) (v := ?_) rfl (by kernel_rfl) (by kernel_rfl) (by kernel_rfl) (fun _ _ _ h => h) (Or.inl ⟨by rfl, ?_⟩) ?_
    rotate_left
    · (intro w _; go_simp <;> with_reducible rfl)
    try simp only [Act.put, List.setIfInBounds_toArray, List.set_cons_zero, List.set_cons_succ]
    refine anyHT_pure (fun _ => trivial) (by kernel_rfl) (i := 29) (oi := { dst := some 108, op := Op.extract (Operand.tmp 79) 1, type := 25, pos := "speaker.go:213", after := #[{ on := 27, ground := Ground.data }, { on := 30, ground := Ground.gcOnly Departure.lateStores }], guard := none }) (v := ?_) rfl (by kernel_rfl) (by kernel_rfl) (by kernel_rfl) (fun _ _ _ h => h) (Or.inl ⟨by rfl, ?_⟩) ?_
    rotate_left
    · (intro w _; go_simp <;> with_reducible rfl)
    try simp only [Act.put, List.setIfInBounds_toArray, List.set_cons_zero, List.set_cons_succ]
    refine anyHT_pure (fun _ => trivial) (by kernel_rfl) (i := 30) (oi := { dst := some 8, op := Op.assign (Operand.tmp 107), type := 3, pos := "speaker.go:213", after := #[{ on := 28, ground := Ground.data }, { on := 26, ground := Ground.chain }, { on := 0, ground := Ground.phase }, { on := 1, ground := Ground.phase }, { on := 2, ground := Ground.phase }, { on := 3, ground := Ground.phase }, { on := 4, ground := Ground.phase }, { on := 5, ground := Ground.phase }, { on := 6, ground := Ground.phase }, { on := 7, ground := Ground.phase }, { on := 8, ground := Ground.phase }, { on := 9, ground := Ground.phase }, { on := 10, ground := Ground.phase }, { on := 11, ground := Ground.phase }, { on := 12, ground := Ground.phase }, { on := 13, ground := Ground.phase }, { on := 14, ground := Ground.phase }, { on := 15, ground := Ground.phase }, { on := 16, ground := Ground.phase }, { on := 17, ground := Ground.phase }, { on := 18, ground := Ground.phase }, { on := 19, ground := Ground.phase }, { on := 20, ground := Ground.phase }, { on := 21, ground := Ground.phase }, { on := 22, ground := Ground.phase }, { on := 23, ground := Ground.phase }, { on := 24, ground := Ground.phase }, { on := 25, ground := Ground.phase }, { on := 26, ground := Ground.phase }, { on := 27, ground := Ground.phase }, { on := 28, ground := Ground.phase }, { on := 29, ground := Ground.textOnly Departure.lateStores }], guard := none }) (v := ?_) rfl (by kernel_rfl) (by kernel_rfl) (by kernel_rfl) (fun _ _ _ h => h) (Or.inl ⟨by rfl, ?_⟩) ?_
    rotate_left
    · (intro w _; go_simp <;> with_reducible rfl)
    try simp only [Act.put, List.setIfInBounds_toArray, List.set_cons_zero, List.set_cons_succ]
    refine anyHT_pure (fun _ => trivial) (by kernel_rfl) (i := 31) (oi := { dst := some 9, op := Op.assign (Operand.tmp 108), type := 25, pos := "speaker.go:213", after := #[{ on := 29, ground := Ground.data }, { on := 30, ground := Ground.chain }, { on := 0, ground := Ground.phase }, { on := 1, ground := Ground.phase }, { on := 2, ground := Ground.phase }, { on := 3, ground := Ground.phase }, { on := 4, ground := Ground.phase }, { on := 5, ground := Ground.phase }, { on := 6, ground := Ground.phase }, { on := 7, ground := Ground.phase }, { on := 8, ground := Ground.phase }, { on := 9, ground := Ground.phase }, { on := 10, ground := Ground.phase }, { on := 11, ground := Ground.phase }, { on := 12, ground := Ground.phase }, { on := 13, ground := Ground.phase }, { on := 14, ground := Ground.phase }, { on := 15, ground := Ground.phase }, { on := 16, ground := Ground.phase }, { on := 17, ground := Ground.phase }, { on := 18, ground := Ground.phase }, { on := 19, ground := Ground.phase }, { on := 20, ground := Ground.phase }, { on := 21, ground := Ground.phase }, { on := 22, ground := Ground.phase }, { on := 23, ground := Ground.phase }, { on := 24, ground := Ground.phase }, { on := 25, ground := Ground.phase }, { on := 26, ground := Ground.phase }, { on := 27, ground := Ground.phase }, { on := 28, ground := Ground.phase }, { on := 29, ground := Ground.phase }, { on := 30, ground := Ground.phase }], guard := none }) (v := ?_) rfl (by kernel_rfl) (by kernel_rfl) (by kernel_rfl) (fun _ _ _ h => h) (Or.inl ⟨by rfl, ?_⟩) ?_
    rotate_left
    · (intro w _; go_simp <;> with_reducible rfl)
    try simp only [Act.put, List.setIfInBounds_toArray, List.set_cons_zero, List.set_cons_succ]
    refine anyHT_done (by kernel_rfl) ?_ _
    have hX3 : ∀ b, c1 b = k → b < X.heap.size → w3.heap[b]? = X.heap[b]? := fun b hb hl => hk3.block b (by rw [hb]; exact hk.1) hl
    have hS3 := HS.out.moved hX3
    have hN3 := HNX.out.moved (W' := w3) (fun b hb hl => hk3.block b (by rw [hb]; decide) hl)
    have hP3 := (hX3 pb HPC.out (blk_lt HPX.out)).trans HPX.out
    have HPN3 := Aside0.mk (HPN.out.moved hX3)
    have HK3 : Aside0 (Keeps (fun b => ¬ Mine cls k b) w w3) := ⟨by
      refine ⟨hk3.os.trans HKX.out.os, hk3.tape.trans HKX.out.tape, hk3.output.trans HKX.out.output, Nat.le_trans HKX.out.size hk3.size, fun b hm hl => ?_⟩
      exact (hk3.block b (fun e => hm (by rw [HCL.out b hl] at e; exact .inr (.inl e))) (Nat.lt_of_lt_of_le hl HKX.out.size)).trans (HKX.out.block b hm hl)⟩
    have hb3 : base ≤ w3.heap.size := Nat.le_trans HBX.out hk3.size
    have q1 : w3.cell? ⟨Bs, 5, none⟩ = some (.int .i64 clock) := blk_cell hS3.sp 5
    have q2 : w3.cell? ⟨pb, 6, none⟩ = some (.int .i64 num) := blk_cell hP3 6
    have HS3 := Aside0.mk hS3
    have HN3 := Aside0.mk hN3
    have HL3 := Aside0.mk hL3
    have HB3 := Aside0.mk hb3
    clear hX3 hS3 hN3 hP3 hL3 hk3 hb3 hHeld a0 a5 p0 p1 n2 HTy HS HLX HNX HPX HPN hm1 hm2
    go_wp2_with fail
    refine (news_ok Bs pb 1 clock num ⟨#[]⟩ w3 q1 q2).mono ?_
    rintro e w4 ⟨rfl, hb4⟩
    have HB4 := Aside0.mk hb4
    clear hb4 q1 q2
    go_wp2_with fail
    refine (tell_ok c1 base Bn ns ⟨1, clock, num, emptyB⟩ w4 (HN3.out.moved (fun b _ hl => HB4.out.block b hl)) hns (Nat.le_trans HB3.out HB4.out.size)).mono ?_
    rintro e w5 ⟨⟨u5, rfl⟩, cls2, hc2, hN5, hk5⟩
    have hS5 := spin_tell hk (HS3.out.moved (fun b _ hl => HB4.out.block b hl)) hc2 hk5
    have hP5 := ((HPN3.out.moved (fun b _ hl => HB4.out.block b hl)).again hc2).moved (W' := w5) (fun b hb hl => hk5.block b (by rw [← hc2 b hl, hb]; exact hk.2) hl)
    have hW5 := went_tell HCL.out (HL3.out.moved (fun b _ hl => HB4.out.block b hl)) (HK3.out.trans (.of_below HB4.out)) hc2 ⟨_, _, _, hS5⟩ hN5 hk5
    have s6 : w5.cell? ⟨Bs, 6, none⟩ = some (.int .i64 0) := blk_cell hS5.sp 6
    have s7 : w5.cell? ⟨Bs, 7, none⟩ = some nowv := blk_cell hS5.sp 7
    have s8 : w5.cell? ⟨Bs, 8, none⟩ = some (.int .i64 said) := blk_cell hS5.sp 8
    have t6 : w5.frozen? ⟨Bs, 6, none⟩ = false := blk_frozen hS5.sp 6
    have t7 : w5.frozen? ⟨Bs, 7, none⟩ = false := blk_frozen hS5.sp 7
    have t8 : w5.frozen? ⟨Bs, 8, none⟩ = false := blk_frozen hS5.sp 8
    have HZ : Aside0 (Went cls cls2 k base w (((w5.setCell ⟨Bs, 6, none⟩ (.int .i64 1)).setCell ⟨Bs, 7, none⟩ (.pointer (some ⟨N, 0, none⟩))).setCell ⟨Bs, 8, none⟩ (.int .i64 0)) Bs Bl Br Bg Bn
        ⟨⟨q, number, pn, pd, clock, some ⟨ys, Y.f4, num, 0⟩, late⟩, { g with used := g.used + (ys.length : Int) }, ns ++ [⟨1, clock, num, emptyB⟩]⟩) := ⟨by
      refine hW5.spk (nowv' := .pointer (some ⟨N, 0, none⟩)) (said' := 0) hk hS5 (blk_put (blk_put (blk_put hS5.sp 6 (.int .i64 1) rfl) 7 (.pointer (some ⟨N, 0, none⟩)) rfl) 8 (.int .i64 0) rfl) ?_ ?_ rfl ?_
      · exact (((Keeps.refl _ w5).setCell (a := ⟨Bs, 6, none⟩) (fun _ h => h rfl) _).setCell (a := ⟨Bs, 7, none⟩) (fun _ h => h rfl) _).setCell (a := ⟨Bs, 8, none⟩) (fun _ h => h rfl) _
      · intro b hb
        rw [Below.heap_setCell _ _ _ _ hb, Below.heap_setCell _ _ _ _ hb, Below.heap_setCell _ _ _ _ hb]
      · exact ⟨N, f0, f1, f5, rfl, rfl, hP5, HNF.out⟩⟩
    clear hS5 hP5 hW5 hN5 hk5 hc2 HB4 HS3 HN3 HL3 HB3 HPN3 HK3
    go_wp2
    go_ret
    refine ⟨rfl, cls2, ?_⟩
    rw [HBE.out, HE.out]
    exact HZ.out
  · have hgr' : grantedB g f0 (ys.length : Int) = false := by simpa using hgr
    have HTn := Aside0.mk (Take_no c1 X.drew Bg g f0 f1 (ys.length : Int) clock (HLX.out.moved (fun _ _ _ => rfl)) hvo huo (by omega) hclock HGR.out hgr')
    have HE := Aside0.mk (granted_none hgr')
    clear hvo huo hgr hgr' hys
    go_wp2_with fail
    refine (wpIn_wide (n := 0)).1 ?_
    refine region_anyHT (fun W' => W'.cell? ⟨Bs, 0, none⟩ = some (.iface 49 (.pointer (some ⟨Bg, 0, none⟩))) ∧ W'.cell? ⟨Bs, 5, none⟩ = some (.int .i64 clock) ∧ W'.cell? ⟨pb, 0, none⟩ = some (.int .i64 f0) ∧ W'.cell? ⟨pb, 1, none⟩ = some (.int .i64 f1) ∧ W'.cell? ⟨N, 2, none⟩ = some (.slice As (ys.length : Nat) cs)) [26] (by kernel_rfl) (⟨a0, a5, p0, p1, n2⟩) (fun hHeld => ?_)
    refine anyHT_pure (fun _ => trivial) (by kernel_rfl) (i := 0) (oi := { dst := some 80, op := Op.move (Operand.tmp 0), type := 55, pos := "speaker.go:213", after := #[], guard := none }) (v := ?_) rfl (by kernel_rfl) (by kernel_rfl) (by kernel_rfl) (fun _ _ _ h => h) (Or.inl ⟨by rfl, ?_⟩) ?_
    rotate_left
    · (intro w _; go_simp <;> with_reducible rfl)
    try simp only [Act.put, List.setIfInBounds_toArray, List.set_cons_zero, List.set_cons_succ]
    refine anyHT_pure (fun _ => trivial) (by kernel_rfl) (i := 1) (oi := { dst := some 81, op := Op.nilCheck (Operand.tmp 80), type := 0, pos := "speaker.go:213", after := #[{ on := 0, ground := Ground.data }], guard := none }) (v := ?_) rfl (by kernel_rfl) (by kernel_rfl) (by kernel_rfl) (fun _ _ _ h => h) (Or.inl ⟨by rfl, ?_⟩) ?_
    rotate_left
    · (intro w _; go_simp <;> with_reducible rfl)
    try simp only [Act.put, List.setIfInBounds_toArray, List.set_cons_zero, List.set_cons_succ]
    refine anyHT_pure (fun _ => trivial) (by kernel_rfl) (i := 2) (oi := { dst := some 82, op := Op.fieldAddr 111 (Operand.tmp 81) 0, type := 0, pos := "speaker.go:213", after := #[{ on := 1, ground := Ground.data }], guard := none }) (v := ?_) rfl (by kernel_rfl) (by kernel_rfl) (by kernel_rfl) (fun _ _ _ h => h) (Or.inl ⟨by rfl, ?_⟩) ?_
    rotate_left
    · (intro w _; go_simp <;> with_reducible rfl)
    try simp only [Act.put, List.setIfInBounds_toArray, List.set_cons_zero, List.set_cons_succ]
    refine anyHT_take (fun _ => trivial) (by kernel_rfl) [24, 25, 26, 27, 28, 29, 30, 31] (i := 3) (oi := { dst := some 83, op := Op.load 109 (Operand.tmp 82), type := 109, pos := "speaker.go:213", after := #[{ on := 2, ground := Ground.data }], guard := none }) (v := ?_) rfl (by kernel_rfl) (by kernel_rfl) (by kernel_rfl) (by kernel_rfl) (by kernel_rfl) (by decide) (fun _ _ _ h => h) (Or.inl ⟨by rfl, ?_⟩) hHeld ?_
    rotate_left
    · (intro w hSw; (try dsimp only at hSw); go_simp <;> with_reducible rfl)
    try simp only [Act.put, List.setIfInBounds_toArray, List.set_cons_zero, List.set_cons_succ]
    refine anyHT_pure (fun _ => trivial) (by kernel_rfl) (i := 4) (oi := { dst := some 84, op := Op.move (Operand.tmp 6), type := 107, pos := "speaker.go:213", after := #[], guard := none }) (v := ?_) rfl (by kernel_rfl) (by kernel_rfl) (by kernel_rfl) (fun _ _ _ h => h) (Or.inl ⟨by rfl, ?_⟩) ?_
    rotate_left
    · (intro w _; go_simp <;> with_reducible rfl)
    try simp only [Act.put, List.setIfInBounds_toArray, List.set_cons_zero, List.set_cons_succ]
    refine anyHT_pure (fun _ => trivial) (by kernel_rfl) (i := 5) (oi := { dst := some 85, op := Op.nilCheck (Operand.tmp 84), type := 0, pos := "speaker.go:213", after := #[{ on := 4, ground := Ground.data }], guard := none }) (v := ?_) rfl (by kernel_rfl) (by kernel_rfl) (by kernel_rfl) (fun _ _ _ h => h) (Or.inl ⟨by rfl, ?_⟩) ?_
    rotate_left
    · (intro w _; go_simp <;> with_reducible rfl)
    try simp only [Act.put, List.setIfInBounds_toArray, List.set_cons_zero, List.set_cons_succ]
    refine anyHT_pure (fun _ => trivial) (by kernel_rfl) (i := 6) (oi := { dst := some 86, op := Op.fieldAddr 122 (Operand.tmp 85) 0, type := 0, pos := "speaker.go:213", after := #[{ on := 5, ground := Ground.data }], guard := none }) (v := ?_) rfl (by kernel_rfl) (by kernel_rfl) (by kernel_rfl) (fun _ _ _ h => h) (Or.inl ⟨by rfl, ?_⟩) ?_
    rotate_left
    · (intro w _; go_simp <;> with_reducible rfl)
    try simp only [Act.put, List.setIfInBounds_toArray, List.set_cons_zero, List.set_cons_succ]
    refine anyHT_pure (fun _ => trivial) (by kernel_rfl) (i := 7) (oi := { dst := some 87, op := Op.fieldAddr 30 (Operand.tmp 86) 0, type := 0, pos := "speaker.go:213", after := #[{ on := 6, ground := Ground.data }], guard := none }) (v := ?_) rfl (by kernel_rfl) (by kernel_rfl) (by kernel_rfl) (fun _ _ _ h => h) (Or.inl ⟨by rfl, ?_⟩) ?_
    rotate_left
    · (intro w _; go_simp <;> with_reducible rfl)
    try simp only [Act.put, List.setIfInBounds_toArray, List.set_cons_zero, List.set_cons_succ]
    refine anyHT_take (fun _ => trivial) (by kernel_rfl) [26, 27, 28, 29, 30, 31] (i := 8) (oi := { dst := some 88, op := Op.load 3 (Operand.tmp 87), type := 3, pos := "speaker.go:213", after := #[{ on := 7, ground := Ground.data }], guard := none }) (v := ?_) rfl (by kernel_rfl) (by kernel_rfl) (by kernel_rfl) (by kernel_rfl) (by kernel_rfl) (by decide) (fun _ _ _ h => h) (Or.inl ⟨by rfl, ?_⟩) hHeld ?_
    rotate_left
    · (intro w hSw; (try dsimp only at hSw); go_simp <;> with_reducible rfl)
    try simp only [Act.put, List.setIfInBounds_toArray, List.set_cons_zero, List.set_cons_succ]
    refine anyHT_pure (fun _ => trivial) (by kernel_rfl) (i := 9) (oi := { dst := some 89, op := Op.move (Operand.tmp 6), type := 107, pos := "speaker.go:213", after := #[], guard := none }) (v := ?_) rfl (by kernel_rfl) (by kernel_rfl) (by kernel_rfl) (fun _ _ _ h => h) (Or.inl ⟨by rfl, ?_⟩) ?_
    rotate_left
    · (intro w _; go_simp <;> with_reducible rfl)
    try simp only [Act.put, List.setIfInBounds_toArray, List.set_cons_zero, List.set_cons_succ]
    refine anyHT_pure (fun _ => trivial) (by kernel_rfl) (i := 10) (oi := { dst := some 90, op := Op.nilCheck (Operand.tmp 89), type := 0, pos := "speaker.go:213", after := #[{ on := 9, ground := Ground.data }], guard := none }) (v := ?_) rfl (by kernel_rfl) (by kernel_rfl) (by kernel_rfl) (fun _ _ _ h => h) (Or.inl ⟨by rfl, ?_⟩) ?_
    rotate_left
    · (intro w _; go_simp <;> with_reducible rfl)
    try simp only [Act.put, List.setIfInBounds_toArray, List.set_cons_zero, List.set_cons_succ]
    refine anyHT_pure (fun _ => trivial) (by kernel_rfl) (i := 11) (oi := { dst := some 91, op := Op.fieldAddr 122 (Operand.tmp 90) 0, type := 0, pos := "speaker.go:213", after := #[{ on := 10, ground := Ground.data }], guard := none }) (v := ?_) rfl (by kernel_rfl) (by kernel_rfl) (by kernel_rfl) (fun _ _ _ h => h) (Or.inl ⟨by rfl, ?_⟩) ?_
    rotate_left
    · (intro w _; go_simp <;> with_reducible rfl)
    try simp only [Act.put, List.setIfInBounds_toArray, List.set_cons_zero, List.set_cons_succ]
    refine anyHT_pure (fun _ => trivial) (by kernel_rfl) (i := 12) (oi := { dst := some 92, op := Op.fieldAddr 30 (Operand.tmp 91) 1, type := 0, pos := "speaker.go:213", after := #[{ on := 11, ground := Ground.data }], guard := none }) (v := ?_) rfl (by kernel_rfl) (by kernel_rfl) (by kernel_rfl) (fun _ _ _ h => h) (Or.inl ⟨by rfl, ?_⟩) ?_
    rotate_left
    · (intro w _; go_simp <;> with_reducible rfl)
    try simp only [Act.put, List.setIfInBounds_toArray, List.set_cons_zero, List.set_cons_succ]
    refine anyHT_take (fun _ => trivial) (by kernel_rfl) [26, 27, 28, 29, 30, 31] (i := 13) (oi := { dst := some 93, op := Op.load 3 (Operand.tmp 92), type := 3, pos := "speaker.go:213", after := #[{ on := 12, ground := Ground.data }], guard := none }) (v := ?_) rfl (by kernel_rfl) (by kernel_rfl) (by kernel_rfl) (by kernel_rfl) (by kernel_rfl) (by decide) (fun _ _ _ h => h) (Or.inl ⟨by rfl, ?_⟩) hHeld ?_
    rotate_left
    · (intro w hSw; (try dsimp only at hSw); go_simp <;> with_reducible rfl)
    try simp only [Act.put, List.setIfInBounds_toArray, List.set_cons_zero, List.set_cons_succ]
    refine anyHT_pure (fun _ => trivial) (by kernel_rfl) (i := 14) (oi := { dst := some 94, op := Op.move (Operand.tmp 7), type := 107, pos := "speaker.go:213", after := #[], guard := none }) (v := ?_) rfl (by kernel_rfl) (by kernel_rfl) (by kernel_rfl) (fun _ _ _ h => h) (Or.inl ⟨by rfl, ?_⟩) ?_
    rotate_left
    · (intro w _; go_simp <;> with_reducible rfl)
    try simp only [Act.put, List.setIfInBounds_toArray, List.set_cons_zero, List.set_cons_succ]
    refine anyHT_pure (fun _ => trivial) (by kernel_rfl) (i := 15) (oi := { dst := some 95, op := Op.nilCheck (Operand.tmp 94), type := 0, pos := "speaker.go:213", after := #[{ on := 14, ground := Ground.data }], guard := none }) (v := ?_) rfl (by kernel_rfl) (by kernel_rfl) (by kernel_rfl) (fun _ _ _ h => h) (Or.inl ⟨by rfl, ?_⟩) ?_
    rotate_left
    · (intro w _; go_simp <;> with_reducible rfl)
    try simp only [Act.put, List.setIfInBounds_toArray, List.set_cons_zero, List.set_cons_succ]
    refine anyHT_pure (fun _ => trivial) (by kernel_rfl) (i := 16) (oi := { dst := some 96, op := Op.fieldAddr 122 (Operand.tmp 95) 0, type := 0, pos := "speaker.go:213", after := #[{ on := 15, ground := Ground.data }], guard := none }) (v := ?_) rfl (by kernel_rfl) (by kernel_rfl) (by kernel_rfl) (fun _ _ _ h => h) (Or.inl ⟨by rfl, ?_⟩) ?_
    rotate_left
    · (intro w _; go_simp <;> with_reducible rfl)
    try simp only [Act.put, List.setIfInBounds_toArray, List.set_cons_zero, List.set_cons_succ]
    refine anyHT_pure (fun _ => trivial) (by kernel_rfl) (i := 17) (oi := { dst := some 97, op := Op.fieldAddr 30 (Operand.tmp 96) 2, type := 0, pos := "speaker.go:213", after := #[{ on := 16, ground := Ground.data }], guard := none }) (v := ?_) rfl (by kernel_rfl) (by kernel_rfl) (by kernel_rfl) (fun _ _ _ h => h) (Or.inl ⟨by rfl, ?_⟩) ?_
    rotate_left
    · (intro w _; go_simp <;> with_reducible rfl)
    try simp only [Act.put, List.setIfInBounds_toArray, List.set_cons_zero, List.set_cons_succ]
    refine anyHT_take (fun _ => trivial) (by kernel_rfl) [19, 26, 27, 28, 29, 30, 31] (i := 18) (oi := { dst := some 98, op := Op.load 22 (Operand.tmp 97), type := 22, pos := "speaker.go:213", after := #[{ on := 17, ground := Ground.data }], guard := none }) (v := ?_) rfl (by kernel_rfl) (by kernel_rfl) (by kernel_rfl) (by kernel_rfl) (by kernel_rfl) (by decide) (fun _ _ _ h => h) (Or.inl ⟨by rfl, ?_⟩) hHeld ?_
    rotate_left
    · (intro w hSw; (try dsimp only at hSw); go_simp <;> with_reducible rfl)
    try simp only [Act.put, List.setIfInBounds_toArray, List.set_cons_zero, List.set_cons_succ]
    refine anyHT_pure (fun _ => trivial) (by kernel_rfl) (i := 19) (oi := { dst := some 99, op := Op.call { callee := Callee.builtin Builtin.len, args := #[Operand.tmp 98], argTypes := #[22] }, type := 3, pos := "speaker.go:213", after := #[{ on := 18, ground := Ground.data }], guard := none }) (v := ?_) rfl (by kernel_rfl) (by kernel_rfl) (by kernel_rfl) (fun _ _ _ h => h) (Or.inl ⟨by rfl, ?_⟩) ?_
    rotate_left
    · (intro w _; go_simp <;> with_reducible rfl)
    try simp only [Act.put, List.setIfInBounds_toArray, List.set_cons_zero, List.set_cons_succ]
    refine anyHT_pure (fun _ => trivial) (by kernel_rfl) (i := 20) (oi := { dst := some 100, op := Op.move (Operand.tmp 0), type := 55, pos := "speaker.go:213", after := #[], guard := none }) (v := ?_) rfl (by kernel_rfl) (by kernel_rfl) (by kernel_rfl) (fun _ _ _ h => h) (Or.inl ⟨by rfl, ?_⟩) ?_
    rotate_left
    · (intro w _; go_simp <;> with_reducible rfl)
    try simp only [Act.put, List.setIfInBounds_toArray, List.set_cons_zero, List.set_cons_succ]
    refine anyHT_pure (fun _ => trivial) (by kernel_rfl) (i := 21) (oi := { dst := some 101, op := Op.nilCheck (Operand.tmp 100), type := 0, pos := "speaker.go:213", after := #[{ on := 20, ground := Ground.data }], guard := none }) (v := ?_) rfl (by kernel_rfl) (by kernel_rfl) (by kernel_rfl) (fun _ _ _ h => h) (Or.inl ⟨by rfl, ?_⟩) ?_
    rotate_left
    · (intro w _; go_simp <;> with_reducible rfl)
    try simp only [Act.put, List.setIfInBounds_toArray, List.set_cons_zero, List.set_cons_succ]
    refine anyHT_pure (fun _ => trivial) (by kernel_rfl) (i := 22) (oi := { dst := some 102, op := Op.fieldAddr 111 (Operand.tmp 101) 4, type := 0, pos := "speaker.go:213", after := #[{ on := 21, ground := Ground.data }], guard := none }) (v := ?_) rfl (by kernel_rfl) (by kernel_rfl) (by kernel_rfl) (fun _ _ _ h => h) (Or.inl ⟨by rfl, ?_⟩) ?_
    rotate_left
    · (intro w _; go_simp <;> with_reducible rfl)
    try simp only [Act.put, List.setIfInBounds_toArray, List.set_cons_zero, List.set_cons_succ]
    refine anyHT_take (fun _ => trivial) (by kernel_rfl) [26, 27, 28, 29, 30, 31] (i := 23) (oi := { dst := some 103, op := Op.load 3 (Operand.tmp 102), type := 3, pos := "speaker.go:213", after := #[{ on := 22, ground := Ground.data }], guard := none }) (v := ?_) rfl (by kernel_rfl) (by kernel_rfl) (by kernel_rfl) (by kernel_rfl) (by kernel_rfl) (by decide) (fun _ _ _ h => h) (Or.inl ⟨by rfl, ?_⟩) hHeld ?_
    rotate_left
    · (intro w hSw; (try dsimp only at hSw); go_simp <;> with_reducible rfl)
    try simp only [Act.put, List.setIfInBounds_toArray, List.set_cons_zero, List.set_cons_succ]
    refine anyHT_pure (fun _ => trivial) (by kernel_rfl) (i := 24) (oi := { dst := some 104, op := Op.nilCheck (Operand.tmp 83), type := 109, pos := "speaker.go:213", after := #[{ on := 3, ground := Ground.data }], guard := none }) (v := ?_) rfl (by kernel_rfl) (by kernel_rfl) (by kernel_rfl) (fun _ _ _ h => h) (Or.inl ⟨by rfl, ?_⟩) ?_
    rotate_left
    · (intro w _; go_simp <;> with_reducible rfl)
    try simp only [Act.put, List.setIfInBounds_toArray, List.set_cons_zero, List.set_cons_succ]
    refine anyHT_pure (fun _ => trivial) (by kernel_rfl) (i := 25) (oi := { dst := some 105, op := Op.move (Operand.tmp 83), type := 109, pos := "speaker.go:213", after := #[{ on := 3, ground := Ground.data }, { on := 24, ground := Ground.data }], guard := none }) (v := ?_) rfl (by kernel_rfl) (by kernel_rfl) (by kernel_rfl) (fun _ _ _ h => h) (Or.inl ⟨by rfl, ?_⟩) ?_
    rotate_left
    · (intro w _; go_simp <;> with_reducible rfl)
    try simp only [Act.put, List.setIfInBounds_toArray, List.set_cons_zero, List.set_cons_succ]
    refine anyHT_one (i := 26) (o := { dst := some 106, op := Op.call { callee := Callee.invoke (Operand.tmp 105) "Take", args := #[Operand.tmp 88, Operand.tmp 93, Operand.tmp 99, Operand.tmp 103], argTypes := #[3, 3, 3, 3] }, type := 51, pos := "speaker.go:213", after := #[{ on := 25, ground := Ground.data }, { on := 8, ground := Ground.data }, { on := 13, ground := Ground.data }, { on := 19, ground := Ground.data }, { on := 23, ground := Ground.data }], guard := none }) (by kernel_rfl) rfl (by rfl) (fun K hK => ?_)
    go_simp
    refine ⟨trivial, rfl, ?_⟩
    refine (callsIn_wide.2 HTn.out).mono ?_
    rintro e w3 ⟨rfl, hb3⟩
    refine hK.out _ _ (fun h => absurd (by decide) h) ?_
    clear hK K
    try simp only [Act.put, List.setIfInBounds_toArray, List.set_cons_zero, List.set_cons_succ]
    refine anyHT_pure (fun _ => trivial) (by kernel_rfl) (i := 27) (oi := { dst := some 79, op := Op.move (Operand.tmp 106), type := 51, pos := "speaker.go:213", after := #[{ on := 26, ground := Ground.data }], guard := none }) (v := ?_) rfl (by kernel_rfl) (by kernel_rfl) (by kernel_rfl) (fun _ _ _ h => h) (Or.inl ⟨by rfl, ?_⟩) ?_
    rotate_left
    · (intro w _; go_simp <;> with_reducible rfl)
    try simp only [Act.put, List.setIfInBounds_toArray, List.set_cons_zero, List.set_cons_succ]
    refine anyHT_pure (fun _ => trivial) (by kernel_rfl) (i := 28) (oi := { dst := some 107, op := Op.extract (Operand.tmp 79) 0, type := 3, pos := "speaker.go:213", after := #[{ on := 27, ground := Ground.data }], guard := none }) (v := ?_) rfl (by kernel_rfl) (by kernel_rfl) (by kernel_rfl) (fun _ _ _ h => h) (Or.inl ⟨by rfl, ?_⟩) ?_
    rotate_left
    · (intro w _; go_simp <;> with_reducible rfl)
    try simp only [Act.put, List.setIfInBounds_toArray, List.set_cons_zero, List.set_cons_succ]
    refine anyHT_pure (fun _ => trivial) (by kernel_rfl) (i := 29) (oi := { dst := some 108, op := Op.extract (Operand.tmp 79) 1, type := 25, pos := "speaker.go:213", after := #[{ on := 27, ground := Ground.data }, { on := 30, ground := Ground.gcOnly Departure.lateStores }], guard := none }) (v := ?_) rfl (by kernel_rfl) (by kernel_rfl) (by kernel_rfl) (fun _ _ _ h => h) (Or.inl ⟨by rfl, ?_⟩) ?_
    rotate_left
    · (intro w _; go_simp <;> with_reducible rfl)
    try simp only [Act.put, List.setIfInBounds_toArray, List.set_cons_zero, List.set_cons_succ]
    refine anyHT_pure (fun _ => trivial) (by kernel_rfl) (i := 30) (oi := { dst := some 8, op := Op.assign (Operand.tmp 107), type := 3, pos := "speaker.go:213", after := #[{ on := 28, ground := Ground.data }, { on := 26, ground := Ground.chain }, { on := 0, ground := Ground.phase }, { on := 1, ground := Ground.phase }, { on := 2, ground := Ground.phase }, { on := 3, ground := Ground.phase }, { on := 4, ground := Ground.phase }, { on := 5, ground := Ground.phase }, { on := 6, ground := Ground.phase }, { on := 7, ground := Ground.phase }, { on := 8, ground := Ground.phase }, { on := 9, ground := Ground.phase }, { on := 10, ground := Ground.phase }, { on := 11, ground := Ground.phase }, { on := 12, ground := Ground.phase }, { on := 13, ground := Ground.phase }, { on := 14, ground := Ground.phase }, { on := 15, ground := Ground.phase }, { on := 16, ground := Ground.phase }, { on := 17, ground := Ground.phase }, { on := 18, ground := Ground.phase }, { on := 19, ground := Ground.phase }, { on := 20, ground := Ground.phase }, { on := 21, ground := Ground.phase }, { on := 22, ground := Ground.phase }, { on := 23, ground := Ground.phase }, { on := 24, ground := Ground.phase }, { on := 25, ground := Ground.phase }, { on := 26, ground := Ground.phase }, { on := 27, ground := Ground.phase }, { on := 28, ground := Ground.phase }, { on := 29, ground := Ground.textOnly Departure.lateStores }], guard := none }) (v := ?_) rfl (by kernel_rfl) (by kernel_rfl) (by kernel_rfl) (fun _ _ _ h => h) (Or.inl ⟨by rfl, ?_⟩) ?_
    rotate_left
    · (intro w _; go_simp <;> with_reducible rfl)
    try simp only [Act.put, List.setIfInBounds_toArray, List.set_cons_zero, List.set_cons_succ]
    refine anyHT_pure (fun _ => trivial) (by kernel_rfl) (i := 31) (oi := { dst := some 9, op := Op.assign (Operand.tmp 108), type := 25, pos := "speaker.go:213", after := #[{ on := 29, ground := Ground.data }, { on := 30, ground := Ground.chain }, { on := 0, ground := Ground.phase }, { on := 1, ground := Ground.phase }, { on := 2, ground := Ground.phase }, { on := 3, ground := Ground.phase }, { on := 4, ground := Ground.phase }, { on := 5, ground := Ground.phase }, { on := 6, ground := Ground.phase }, { on := 7, ground := Ground.phase }, { on := 8, ground := Ground.phase }, { on := 9, ground := Ground.phase }, { on := 10, ground := Ground.phase }, { on := 11, ground := Ground.phase }, { on := 12, ground := Ground.phase }, { on := 13, ground := Ground.phase }, { on := 14, ground := Ground.phase }, { on := 15, ground := Ground.phase }, { on := 16, ground := Ground.phase }, { on := 17, ground := Ground.phase }, { on := 18, ground := Ground.phase }, { on := 19, ground := Ground.phase }, { on := 20, ground := Ground.phase }, { on := 21, ground := Ground.phase }, { on := 22, ground := Ground.phase }, { on := 23, ground := Ground.phase }, { on := 24, ground := Ground.phase }, { on := 25, ground := Ground.phase }, { on := 26, ground := Ground.phase }, { on := 27, ground := Ground.phase }, { on := 28, ground := Ground.phase }, { on := 29, ground := Ground.phase }, { on := 30, ground := Ground.phase }], guard := none }) (v := ?_) rfl (by kernel_rfl) (by kernel_rfl) (by kernel_rfl) (fun _ _ _ h => h) (Or.inl ⟨by rfl, ?_⟩) ?_
    rotate_left
    · (intro w _; go_simp <;> with_reducible rfl)
    try simp only [Act.put, List.setIfInBounds_toArray, List.set_cons_zero, List.set_cons_succ]
    refine anyHT_done (by kernel_rfl) ?_ _
    have hX3 : Below X.heap.size X w3 := below_trans' (below_drew (Below.refl X.heap.size X)) hb3
    have HB3 := Aside0.mk hX3
    have q1 : w3.cell? ⟨Bs, 5, none⟩ = some (.int .i64 clock) := pw_cell_below hX3 a5
    have q2 : w3.cell? ⟨pb, 6, none⟩ = some (.int .i64 num) := pw_cell_below hX3 (blk_cell HPX.out 6)
    clear hX3 hb3 hHeld a0 a5 p0 p1 n2 HTn hm1 hm2
    go_wp2_with fail
    refine (news_ok Bs pb 4 clock num ⟨#[]⟩ w3 q1 q2).mono ?_
    rintro e w4 ⟨rfl, hb4⟩
    have HB4 := Aside0.mk (below_trans' HB3.out hb4)
    clear hb4 q1 q2 HB3
    go_wp2_with fail
    refine (tell_ok c1 base Bn ns ⟨4, clock, num, emptyB⟩ w4 (HNX.out.moved (fun b _ hl => HB4.out.block b hl)) hns (Nat.le_trans HBX.out HB4.out.size)).mono ?_
    rintro e w5 ⟨⟨u5, rfl⟩, cls2, hc2, hN5, hk5⟩
    have hS5 := spin_tell hk (HS.out.moved (fun b _ hl => HB4.out.block b hl)) hc2 hk5
    have HW5 := Aside0.mk (went_tell HCL.out (HLX.out.moved (fun b _ hl => HB4.out.block b hl)) (HKX.out.trans (.of_below HB4.out)) hc2 ⟨_, _, _, hS5⟩ hN5 hk5)
    clear hS5 hN5 hk5 hc2
    go_wp2
    go_ret
    refine ⟨rfl, cls2, ?_⟩
    rw [HBE.out, HE.out]
    exact HW5.out
end Go.Proofs.Ytoodagohkepcpaa
