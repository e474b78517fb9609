/- A piece is ended; a sample is heard. -/
import Derived.Test.YtoodagohkepcpaaD8
namespace Go.Proofs.Ytoodagohkepcpaa
open Go.RowKit Go.Shelf Go.Proofs.YtoodagohkepcpaaW.PrintWords
set_option maxRecDepth 100000

set_option maxHeartbeats 4000000 in
theorem end_no (cls : Nat → Nat) (k base : Nat) (w : World) (Bs Bl Br Bg Bn : Nat) (x : St) (u : Value) (h : Sys cls k base w Bs Bl Br Bg Bn x) (hb : endF x = (false, x)) :
    Calls Try.prog 45 #[.pointer (some ⟨Bs, 0, none⟩), u] w fun e w' => e = .returned (.bool false) ∧ ∃ n, w' = w.drewN n := by
  obtain ⟨⟨nodes, nowv, said, hsp⟩, _, _⟩ := h
  have f4 : w.cell? ⟨Bs, 6, none⟩ = some (.int .i64 (stateF x.s.cur)) := blk_cell hsp.sp 6
  cases hc : x.s.cur with
  | none =>
    rw [hc] at f4
    simp only [stateF] at f4
    clear hsp hb hc
    go_enter Try.func45, Try.ntmps45
    go_wp2
    go_quiet (fail)
    go_wp2
    go_ret
    exact ⟨rfl, _, rfl⟩
  | some c =>
    rw [hc] at f4
    simp only [stateF] at f4
    have hcu := hsp.cur
    rw [hc] at hcu
    obtain ⟨bn, f0, f1, f5, rfl, rfl, hP, hnb⟩ := hcu
    obtain ⟨v2, v3, v4, hbn, D2, D3, D4⟩ := hP.ex
    obtain ⟨A2, c2, rfl, hc2, hC2, hk2⟩ := D2.ex
    have l1 : w.cell? ⟨Bs, 7, none⟩ = some (.pointer (some ⟨bn, 0, none⟩)) := blk_cell hsp.sp 7
    have l2 : w.cell? ⟨bn, 2, none⟩ = some (.slice A2 c.xs.length c2) := blk_cell hbn 2
    have l3 : w.cell? ⟨Bs, 8, none⟩ = some (.int .i64 (c.said : Int)) := blk_cell hsp.sp 8
    have hlt : c.said < c.xs.length := by
      unfold endF at hb
      rw [hc] at hb
      dsimp only at hb
      by_cases h : c.said < c.xs.length
      · exact h
      · rw [if_neg h] at hb
        cases hb
    have hd : decide ((c.said : Int) < (c.xs.length : Int)) = true := by simpa using hlt
    have hd' : decide (c.said < c.xs.length) = true := by simpa using hlt
    clear hsp hb hc hP hnb hbn D2 D3 D4 hC2 hk2 hc2 hlt
    go_enter Try.func45, Try.ntmps45
    go_wp2
    go_quiet (fail)
    go_wp2
    go_ret
    exact ⟨rfl, _, rfl⟩

set_option maxHeartbeats 8000000 in
theorem end_yes (cls : Nat → Nat) (k base : Nat) (w : World) (Bs Bl Br Bg Bn : Nat) (x : St) (c : Cur) (hk : k ≠ 3 ∧ k ≠ 4) (h : Sys cls k base w Bs Bl Br Bg Bn x) (hc : x.s.cur = some c) (hge : ¬ c.said < c.xs.length) (hroom : room x ≤ 1000000000) (hsaid : c.said ≤ 1099511627776) (hbase : base ≤ w.heap.size) :
    Calls Try.prog 45 #[.pointer (some ⟨Bs, 0, none⟩), .func (.func 43) #[] #[.pointer (some ⟨Bn, 0, none⟩)]] w fun e w' => e = .returned (.bool true) ∧ ∃ cls', Went cls cls' k base w w' Bs Bl Br Bg Bn (endF x).2 := by
  have hE : (endF x).2 = ⟨{ x.s with cur := none }, x.g, (x.ns ++ toldF c x.s.clock) ++ [⟨3, x.s.clock, c.num, emptyB⟩]⟩ := by
    unfold endF
    rw [hc]
    dsimp only
    rw [if_neg hge]
  rw [hE]
  clear hE
  have hrm : x.ns.length + c.ss.length + 1 ≤ 1000000000 := by unfold room at hroom; rw [hc] at hroom; simp only [roomC] at hroom; omega
  have HS := Aside0.mk (fun W (hb : Below w.heap.size w W) => sign_ok cls k base W Bs Bl Br Bg Bn x c hk (h.below hb) hc (by omega) hsaid (Nat.le_trans hbase hb.size))
  have H := Aside0.mk h
  obtain ⟨⟨nodes, nowv, said, hsp⟩, _, _⟩ := h
  have f4 : w.cell? ⟨Bs, 6, none⟩ = some (.int .i64 (stateF x.s.cur)) := blk_cell hsp.sp 6
  rw [hc] at f4
  simp only [stateF] at f4
  have hcu := hsp.cur
  rw [hc] at hcu
  obtain ⟨bn, f0, f1, f5, rfl, rfl, hP, hnb⟩ := hcu
  obtain ⟨v2, v3, v4, hbn, D2, D3, D4⟩ := hP.ex
  obtain ⟨A2, c2, rfl, hc2, hC2, hk2⟩ := D2.ex
  have l1 : w.cell? ⟨Bs, 7, none⟩ = some (.pointer (some ⟨bn, 0, none⟩)) := blk_cell hsp.sp 7
  have l2 : w.cell? ⟨bn, 2, none⟩ = some (.slice A2 c.xs.length c2) := blk_cell hbn 2
  have l3 : w.cell? ⟨Bs, 8, none⟩ = some (.int .i64 (c.said : Int)) := blk_cell hsp.sp 8
  have hd : decide ((c.said : Int) < (c.xs.length : Int)) = false := by simpa using hge
  have hd' : decide (c.said < c.xs.length) = false := by simpa using hge
  have htl := told_left c x.s.clock
  have HC := Aside0.mk hc
  clear hsp hc hP hnb hbn D2 D3 D4 hC2 hk2 hc2 hge hroom
  go_enter Try.func45, Try.ntmps45
  go_wp2
  go_quiet (fail)
  go_wp2_with fail
  refine (HS.out _ (pw_below_drewN (Below.refl _ _) _)).mono ?_
  rintro e w2 ⟨⟨u2, rfl⟩, cls1, hW1⟩
  have hW1 := (Went.refl H.out).below (pw_below_drewN (Below.refl _ _) nq) |>.trans hW1
  obtain ⟨nodes1, nowv1, said1, hsp1⟩ := hW1.sys.sp
  obtain ⟨bn1, g0, g1, g5, rfl, rfl, hP1, hnb1⟩ := hsp1.cur
  obtain ⟨v2, v3, v4, hbn1, _⟩ := hP1.ex
  dsimp only at hbn1
  have r1 : w2.cell? ⟨Bs, 7, none⟩ = some (.pointer (some ⟨bn1, 0, none⟩)) := blk_cell hsp1.sp 7
  have r2 : w2.cell? ⟨Bs, 5, none⟩ = some (.int .i64 x.s.clock) := blk_cell hsp1.sp 5
  have r3 : w2.cell? ⟨bn1, 6, none⟩ = some (.int .i64 c.num) := blk_cell hbn1 6
  have HW1 := Aside0.mk hW1
  have HSP1 := Aside0.mk hsp1
  clear hW1 hsp1 hP1 hnb1 hbn1 l1 l2 l3 f4 hd hd' H HS
  go_wp2_with fail
  refine (news_ok Bs bn1 3 x.s.clock c.num ⟨#[]⟩ w2 r2 r3).mono ?_
  rintro e w4 ⟨rfl, hb4⟩
  have HB4 := Aside0.mk hb4
  clear hb4 r1 r2 r3
  go_wp2_with fail
  refine (tell_ok cls1 base Bn (x.ns ++ toldF c x.s.clock) ⟨3, x.s.clock, c.num, emptyB⟩ w4 (HW1.out.sys.ne.moved (fun b _ hl => HB4.out.block b hl)) (by rw [List.length_append]; omega) (Nat.le_trans hbase (Nat.le_trans HW1.out.keep.size HB4.out.size))).mono ?_
  rintro e w5 ⟨⟨u5, rfl⟩, cls2, hc2, hN5, hk5⟩
  have hS5 := spin_tell hk (HSP1.out.moved (fun b _ hl => HB4.out.block b hl)) hc2 hk5
  have hW5 := went_tell (cls := cls) HW1.out.cl (HW1.out.sys.le.moved (fun b _ hl => HB4.out.block b hl)) (HW1.out.keep.trans (.of_below HB4.out)) hc2 ⟨_, _, _, hS5⟩ hN5 hk5
  have s6 : w5.cell? ⟨Bs, 6, none⟩ = some (.int .i64 1) := blk_cell hS5.sp 6
  have t6 : w5.frozen? ⟨Bs, 6, none⟩ = false := blk_frozen hS5.sp 6
  have HZ : Aside0 (Went cls cls2 k base w (w5.setCell ⟨Bs, 6, none⟩ (.int .i64 0)) Bs Bl Br Bg Bn ⟨{ x.s with cur := none }, x.g, (x.ns ++ toldF c x.s.clock) ++ [⟨3, x.s.clock, c.num, emptyB⟩]⟩) := ⟨by
    refine hW5.spk (s' := { x.s with cur := none }) hk hS5 (blk_put hS5.sp 6 (.int .i64 0) rfl) ?_ ?_ rfl trivial
    · exact (Keeps.refl _ w5).setCell (a := ⟨Bs, 6, none⟩) (fun _ h => h rfl) _
    · intro b hb
      rw [Below.heap_setCell _ _ _ _ hb]⟩
  clear hS5 hW5 hN5 hk5 hc2 HB4 HW1 HSP1 htl
  go_wp2
  go_ret
  exact ⟨rfl, cls2, HZ.out⟩
end Go.Proofs.Ytoodagohkepcpaa
