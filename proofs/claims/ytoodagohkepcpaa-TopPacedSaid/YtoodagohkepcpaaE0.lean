/- A sample is heard. -/
import Derived.Test.YtoodagohkepcpaaD9
namespace Go.Proofs.Ytoodagohkepcpaa
open Go.RowKit Go.Shelf Go.Proofs.YtoodagohkepcpaaW.PrintWords
set_option maxRecDepth 100000

set_option maxHeartbeats 8000000 in
theorem hear_cur (cls : Nat → Nat) (k base : Nat) (w : World) (Bs Bl Br Bg Bn : Nat) (x : St) (c : Cur) (hk : k ≠ 3 ∧ k ≠ 4) (h : Sys cls k base w Bs Bl Br Bg Bn x) (hc : x.s.cur = some c) (hlt : c.said < c.xs.length) (hroom : room x ≤ 1000000000) (hlen : c.xs.length ≤ 1099511627776) (hbase : base ≤ w.heap.size) :
    Calls Try.prog 46 #[.pointer (some ⟨Bs, 0, none⟩), .func (.func 43) #[] #[.pointer (some ⟨Bn, 0, none⟩)]] w fun e w' => e = .returned (.int .i64 (hearF x).1) ∧ ∃ cls', Went cls cls' k base w w' Bs Bl Br Bg Bn (hearF x).2 := by
  have hE : hearF x = (rd c.xs (c.said : Int), ⟨{ x.s with cur := some { c with ss := leftF c, said := c.said + 1 }, late := false }, x.g, x.ns ++ toldF c x.s.clock⟩) := by
    unfold hearF
    rw [hc]
  rw [hE]
  clear hE
  have hrm : x.ns.length + c.ss.length ≤ 1000000000 := by unfold room at hroom; rw [hc] at hroom; simp only [roomC] at hroom; omega
  have HS := Aside0.mk (sign_ok cls k base w Bs Bl Br Bg Bn x c hk h hc hrm (by omega) hbase)
  have H := Aside0.mk h
  obtain ⟨⟨nodes, nowv, said, hsp⟩, _, _⟩ := h
  have f4 : w.cell? ⟨Bs, 6, none⟩ = some (.int .i64 (stateF x.s.cur)) := blk_cell hsp.sp 6
  rw [hc] at f4
  simp only [stateF] at f4
  clear hsp hc hroom
  go_enter Try.func46, Try.ntmps46
  go_wp2_with fail
  refine HS.out.mono ?_
  rintro e w2 ⟨⟨u2, rfl⟩, cls1, hW1⟩
  obtain ⟨nodes1, nowv1, said1, hsp1⟩ := hW1.sys.sp
  obtain ⟨bn, g0, g1, g5, rfl, rfl, hP1, hnb1⟩ := hsp1.cur
  obtain ⟨v2, v3, v4, hbn, D2, _, _⟩ := hP1.ex
  obtain ⟨A2, c2, rfl, hc2, hC2, hk2⟩ := D2.ex
  dsimp only at hbn hC2 hk2 hc2
  obtain ⟨ad, rfl, hcell⟩ := Kd.at_int hC2 (c.said : Int) (by omega) (by omega)
  rw [Int.toNat_natCast] at hcell
  obtain ⟨_, cells, had⟩ := hk2 ad rfl (by omega)
  have hne : (ad.add c.said).block ≠ Bs := by rw [add_block]; exact blk_ne had hsp1.sp (by decide)
  have r1 : w2.cell? ⟨Bs, 8, none⟩ = some (.int .i64 (c.said : Int)) := blk_cell hsp1.sp 8
  have r2 : w2.frozen? ⟨Bs, 8, none⟩ = false := blk_frozen hsp1.sp 8
  have r3 : w2.cell? ⟨Bs, 9, none⟩ = some (.bool x.s.late) := blk_cell hsp1.sp 9
  have r4 : w2.frozen? ⟨Bs, 9, none⟩ = false := blk_frozen hsp1.sp 9
  have hw : IntKind.i64.wrap ((c.said : Int) + 1) = (c.said : Int) + 1 := IntWalk.i64_in _ (by omega)
  have hZb := blk_put (blk_put hsp1.sp 8 (.int .i64 ((c.said : Int) + 1)) rfl) 9 (.bool false) rfl
  have hZn := blk_far (blk_far hbn (p := ⟨Bs, 8, none⟩) (blk_ne hbn hsp1.sp (by decide)) (.int .i64 ((c.said : Int) + 1))) (p := ⟨Bs, 9, none⟩) (blk_ne hbn hsp1.sp (by decide)) (.bool false)
  have hZc : ((w2.setCell ⟨Bs, 8, none⟩ (.int .i64 ((c.said : Int) + 1))).setCell ⟨Bs, 9, none⟩ (.bool false)).cell? (ad.add c.said) = some (.int .i64 (rd c.xs (c.said : Int))) :=
    (World.cell?_of_block ((Below.heap_setCell _ _ _ _ hne).trans (Below.heap_setCell _ _ _ _ hne))).trans hcell
  have HZ : Aside0 (Went cls cls1 k base w ((w2.setCell ⟨Bs, 8, none⟩ (.int .i64 ((c.said : Int) + 1))).setCell ⟨Bs, 9, none⟩ (.bool false)) Bs Bl Br Bg Bn ⟨{ x.s with cur := some { c with ss := leftF c, said := c.said + 1 }, late := false }, x.g, x.ns ++ toldF c x.s.clock⟩) := ⟨by
    refine hW1.spk (s' := { x.s with cur := some { c with ss := leftF c, said := c.said + 1 }, late := false }) (nowv' := .pointer (some ⟨bn, 0, none⟩)) (said' := (c.said : Int) + 1) hk hsp1 hZb ?_ ?_ rfl ⟨bn, g0, g1, g5, rfl, rfl, hP1, hnb1⟩
    · exact ((Keeps.refl _ w2).setCell (a := ⟨Bs, 8, none⟩) (fun _ h => h rfl) _).setCell (a := ⟨Bs, 9, none⟩) (fun _ h => h rfl) _
    · intro b hb
      rw [Below.heap_setCell _ _ _ _ hb, Below.heap_setCell _ _ _ _ hb]⟩
  have z1 : ((w2.setCell ⟨Bs, 8, none⟩ (.int .i64 ((c.said : Int) + 1))).setCell ⟨Bs, 9, none⟩ (.bool false)).cell? ⟨Bs, 7, none⟩ = some (.pointer (some ⟨bn, 0, none⟩)) := blk_cell hZb 7
  have z2 : ((w2.setCell ⟨Bs, 8, none⟩ (.int .i64 ((c.said : Int) + 1))).setCell ⟨Bs, 9, none⟩ (.bool false)).cell? ⟨bn, 2, none⟩ = some (.slice (some ad) c.xs.length c2) := blk_cell hZn 2
  have z3 : ((w2.setCell ⟨Bs, 8, none⟩ (.int .i64 ((c.said : Int) + 1))).setCell ⟨Bs, 9, none⟩ (.bool false)).cell? ⟨Bs, 8, none⟩ = some (.int .i64 ((c.said : Int) + 1)) := blk_cell hZb 8
  have hw2 : IntKind.i64.wrap ((c.said : Int) + 1 - 1) = (c.said : Int) := by rw [Int.add_sub_cancel]; exact IntWalk.i64_in _ (by omega)
  have hz0 : (0 : Int) ≤ (c.said : Int) := by omega
  have hz1 : (c.said : Int) < (c.xs.length : Int) := by omega
  clear hW1 hsp1 hP1 hnb1 hbn D2 hC2 hk2 hc2 hcell had hne hZb hZn HS H
  go_wp2
  clear r1 r2 r3 r4
  generalize ((w2.setCell ⟨Bs, 8, none⟩ (.int .i64 ((c.said : Int) + 1))).setCell ⟨Bs, 9, none⟩ (.bool false)) = Z at *
  go_quiet (fail)
  go_wp2
  go_ret
  exact ⟨rfl, cls1, HZ.out.below (pw_below_drewN (Below.refl _ _) _)⟩

set_option maxHeartbeats 8000000 in
theorem hear_none (cls : Nat → Nat) (k base : Nat) (w : World) (Bs Bl Br Bg Bn : Nat) (x : St) (hk : k ≠ 3 ∧ k ≠ 4) (h : Sys cls k base w Bs Bl Br Bg Bn x) (hc : x.s.cur = none) (hroom : room x ≤ 1000000000) (hq : x.s.q.length ≤ 1000000) (hbase : base ≤ w.heap.size) :
    Calls Try.prog 46 #[.pointer (some ⟨Bs, 0, none⟩), .func (.func 43) #[] #[.pointer (some ⟨Bn, 0, none⟩)]] w fun e w' => e = .returned (.int .i64 (hearF x).1) ∧ ∃ cls', Went cls cls' k base w w' Bs Bl Br Bg Bn (hearF x).2 := by
  have hE : hearF x = (0, ⟨{ x.s with late := decide (0 < x.s.q.length) }, x.g, x.ns ++ lateF x⟩) := by
    unfold hearF
    rw [hc]
  rw [hE]
  clear hE
  have hrm : x.ns.length ≤ 1000000000 := by unfold room at hroom; omega
  have H := Aside0.mk h
  obtain ⟨⟨nodes, nowv, said, hsp⟩, _, _⟩ := h
  have f4 : w.cell? ⟨Bs, 6, none⟩ = some (.int .i64 (stateF x.s.cur)) := blk_cell hsp.sp 6
  rw [hc] at f4
  simp only [stateF] at f4
  have f1 : w.cell? ⟨Bs, 1, none⟩ = some (.pointer (some ⟨Bl, 0, none⟩)) := blk_cell hsp.sp 1
  have f2 : w.cell? ⟨Bl, 1, none⟩ = some (.int .i64 (x.s.q.length : Int)) := blk_cell hsp.li 1
  have f5 : w.cell? ⟨Bs, 9, none⟩ = some (.bool x.s.late) := blk_cell hsp.sp 9
  have f6 : w.frozen? ⟨Bs, 9, none⟩ = false := blk_frozen hsp.sp 9
  have hcur : CurAt cls k w nodes nowv said none := trivial
  have HSET := fun (s' : Sp) (ns' : List S75) (c2 : Nat → Nat) (w5 : World) (n5 : List (Nat × Nat)) (nv : Value) (sd : Int) (hW : Went cls c2 k base w w5 Bs Bl Br Bg Bn ⟨x.s, x.g, ns'⟩) (hS : SpIn c2 k w5 Bs Bl Br Bg x.s n5 nv sd) (b : Bool) =>
    hW.spk (s' := { x.s with late := b }) (nowv' := nv) (said' := sd) (W' := w5.setCell ⟨Bs, 9, none⟩ (.bool b)) hk hS (blk_put hS.sp 9 (.bool b) rfl) ((Keeps.refl _ w5).setCell (a := ⟨Bs, 9, none⟩) (fun _ h => h rfl) _) (fun b' hb => Below.heap_setCell _ _ _ _ hb) rfl hS.cur
  by_cases hq0 : 0 < x.s.q.length
  · have hd : decide ((x.s.q.length : Int) > 0) = true := by simp; omega
    have hd' : decide (0 < x.s.q.length) = true := by simpa using hq0
    rw [hd']
    cases hla : x.s.late with
    | true =>
      rw [hla] at f5
      have hlf : lateF x = [] := by
        unfold lateF
        split
        · rfl
        · rw [hla]; rfl
      have HZ := Aside0.mk (HSET x.s x.ns cls w nodes nowv said (Went.refl H.out) hsp true)
      rw [hlf, List.append_nil]
      clear hsp hcur HSET hlf hc hroom
      go_enter Try.func46, Try.ntmps46
      go_wp2
      go_ret
      exact ⟨rfl, cls, HZ.out⟩
    | false =>
      rw [hla] at f5
      have hp := hsp.pieces
      cases hqq : x.s.q with
      | nil => rw [hqq] at hq0; simp at hq0
      | cons p q =>
        rw [hqq] at hp
        cases nodes with
        | nil => exact hp.elim
        | cons n nodes =>
          obtain ⟨nb, pb⟩ := n
          obtain ⟨v2, v3, v4, hpb, _⟩ := hp.1.ex
          have g1 : w.cell? ⟨Bl, 0, none⟩ = some (.pointer (some ⟨Br, 0, none⟩)) := blk_cell hsp.li 0
          have g2 : w.cell? ⟨Br, 1, none⟩ = some (.pointer (some ⟨nb, 0, none⟩)) := blk_cell hsp.ro 1
          have g3 : w.cell? ⟨nb, 0, none⟩ = some (.pointer (some ⟨pb, 0, none⟩)) := blk_cell hsp.chain.1 0
          have g4 : w.cell? ⟨Bs, 5, none⟩ = some (.int .i64 x.s.clock) := blk_cell hsp.sp 5
          have g5 : w.cell? ⟨pb, 6, none⟩ = some (.int .i64 p.num) := blk_cell hpb 6
          have hlf : lateF x = [⟨6, x.s.clock, p.num, emptyB⟩] := by
            unfold lateF
            rw [hqq, hla]
            rfl
          rw [hlf]
          have HSP := Aside0.mk hsp
          have HSETA := Aside0.mk HSET
          clear hsp hcur HSET hlf hc hroom hp hpb hqq
          go_enter Try.func46, Try.ntmps46
          go_wp2_with fail
          refine (news_ok Bs pb 6 x.s.clock p.num ⟨#[]⟩ w g4 g5).mono ?_
          rintro e w4 ⟨rfl, hb4⟩
          have HB4 := Aside0.mk hb4
          clear hb4 g1 g2 g3 g4 g5
          go_wp2_with fail
          refine (tell_ok cls base Bn x.ns ⟨6, x.s.clock, p.num, emptyB⟩ w4 (H.out.ne.moved (fun b _ hl => HB4.out.block b hl)) hrm (Nat.le_trans hbase HB4.out.size)).mono ?_
          rintro e w5 ⟨⟨u5, rfl⟩, cls2, hc2, hN5, hk5⟩
          have hS5 := spin_tell hk (HSP.out.moved (fun b _ hl => HB4.out.block b hl)) hc2 hk5
          have hW5 := went_tell (cls := cls) (w := w) (fun _ _ => rfl) (H.out.le.moved (fun b _ hl => HB4.out.block b hl)) (.of_below HB4.out) hc2 ⟨_, _, _, hS5⟩ hN5 hk5
          have HZ := Aside0.mk (HSETA.out x.s _ cls2 w5 _ _ _ hW5 hS5 true)
          have s9 : w5.cell? ⟨Bs, 9, none⟩ = some (.bool x.s.late) := blk_cell hS5.sp 9
          have t9 : w5.frozen? ⟨Bs, 9, none⟩ = false := blk_frozen hS5.sp 9
          clear hS5 hW5 hN5 hk5 hc2 HB4 HSP HSETA
          go_wp2
          go_ret
          exact ⟨rfl, cls2, HZ.out⟩
  · have hd : decide ((x.s.q.length : Int) > 0) = false := decide_eq_false (by omega)
    have hd' : decide (0 < x.s.q.length) = false := by simpa using hq0
    have hq1 : x.s.q = [] := List.eq_nil_of_length_eq_zero (Nat.eq_zero_of_not_pos hq0)
    have hlf : lateF x = [] := by unfold lateF; rw [hq1]
    rw [hd', hlf, List.append_nil]
    have HZ := Aside0.mk (HSET x.s x.ns cls w nodes nowv said (Went.refl H.out) hsp false)
    clear hsp hcur HSET hlf hc hroom hq1
    go_enter Try.func46, Try.ntmps46
    go_wp2
    go_ret
    exact ⟨rfl, cls, HZ.out⟩
end Go.Proofs.Ytoodagohkepcpaa
