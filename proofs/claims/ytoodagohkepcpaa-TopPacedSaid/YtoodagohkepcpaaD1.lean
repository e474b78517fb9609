/- Small contracts about a speaker and a ledger; telling a piece of news. -/
import Derived.Test.YtoodagohkepcpaaD0
import Derived.LaidEql
namespace Go.Proofs.Ytoodagohkepcpaa
open Go.RowKit Go.Shelf Go.Proofs.YtoodagohkepcpaaW.PrintWords
set_option maxRecDepth 100000

set_option maxHeartbeats 1000000 in
theorem ready_led (Bg : Nat) (w : World) {cs : Array Value} (h : w.heap[Bg]? = some (.cells cs 102)) (h0 : cs[0]? = some (.bool true)) :
    Calls Try.prog 38 #[.pointer (some ⟨Bg, 0, none⟩)] w fun e w' => e = .returned (.bool true) ∧ ∃ n, w' = w.drewN n := by
  have hc : w.cell? ⟨Bg, 0, none⟩ = some (.bool true) := (blk_cell h 0).trans h0
  clear h h0
  go_enter Try.func38, Try.ntmps38
  go_wp2
  go_ret
  exact ⟨rfl, 0, rfl⟩
set_option maxHeartbeats 1000000 in
theorem ready_sp (Bs Bl : Nat) (w : World) {cs : Array Value} (h : w.heap[Bs]? = some (.cells cs 111)) (h0 : cs[1]? = some (.pointer (some ⟨Bl, 0, none⟩))) :
    Calls Try.prog 41 #[.pointer (some ⟨Bs, 0, none⟩)] w fun e w' => e = .returned (.bool true) ∧ ∃ n, w' = w.drewN n := by
  have hc : w.cell? ⟨Bs, 1, none⟩ = some (.pointer (some ⟨Bl, 0, none⟩)) := (blk_cell h 1).trans h0
  clear h h0
  go_enter Try.func41, Try.ntmps41
  go_wp2
  go_ret
  exact ⟨rfl, 0, rfl⟩

set_option maxHeartbeats 2000000 in
theorem tell_ok (cls : Nat → Nat) (base Bn : Nat) (ns : List S75) (s : S75) (w : World) (hN : NewsAt cls base w Bn ns) (hl : ns.length ≤ 1000000000) (hbase : base ≤ w.heap.size) :
    Calls Try.prog 43 #[.agg #[.int .i64 s.f0, .int .i64 s.f1, .int .i64 s.f2, .string s.f3], .pointer (some ⟨Bn, 0, none⟩)] w fun e w' => (∃ u, e = .returned u) ∧ ∃ cls', (∀ b, b < w.heap.size → cls' b = cls b) ∧ NewsAt cls' base w' Bn (ns ++ [s]) ∧ Keeps (fun b => cls b ≠ 4) w w' := by
  obtain ⟨v, h1, h2, h3, h4⟩ := hN
  have hc : (w.alloc (.cells #[.int .i64 s.f0, .int .i64 s.f1, .int .i64 s.f2, .string s.f3] 75)).cell? ⟨Bn, 0, none⟩ = some v := blk_cell (blk_alloc h1 _) 0
  have H1 := Aside0.mk h1
  have H2 := Aside0.mk h2
  have H3 := Aside0.mk h3
  have H4 := Aside0.mk h4
  have hb := blk_lt h1
  clear h1 h2 h3 h4
  go_enter Try.func43, Try.ntmps43
  go_wp2_with (at_builtin; refine append_list rfl (.tmp 3) (.tmp 5) 43 75 (.agg #[.int .i64 0, .int .i64 0, .int .i64 0, .string ⟨#[]⟩]) 4 40 rfl Try.underlying43 info75 rfl (by decide) (by decide) base v ns.length (Flat e75 ns) (some ⟨_, 0, none⟩) 1 1 (e75 s) rfl rfl (pw_own_below H2.out ?ownb) rfl (Cells.new' ?newb _ #[.int .i64 s.f0, .int .i64 s.f1, .int .i64 s.f2, .string s.f3] 75 1) (e75_one s) ?bytes ?base ?_)
  try (case newb => first | exact rfl | (simp; done))
  case ownb => exact below_alloc (below_alloc (Below.refl _ _) _) _
  case bytes => omega
  case base => (try simp); omega
  intro u1 w1 hA
  obtain ⟨A1, c1, rfl⟩ := own_slice hA.own
  have hown := hA.own
  rw [show Flat e75 ns ++ e75 s = Flat e75 (ns ++ [s]) from by rw [Flat_append, Flat_one]] at hown
  have hbn := blk_alloc (blk_alloc H1.out (.cells #[.int .i64 s.f0, .int .i64 s.f1, .int .i64 s.f2, .string s.f3] 75)) (.cells #[.int .i64 s.f0, .int .i64 s.f1, .int .i64 s.f2, .string s.f3] 75)
  have hv0 : ∀ b, v.ownBlock = some b → b < w.heap.size := fun b hb => own_lt H2.out b hb
  have hbn1 := blk_grown hbn hA.grown (own_ne (pw_own_below H2.out (below_alloc (below_alloc (Below.refl _ _) _) _)) hbn (by decide))
  have hK : Keeps (fun b => cls b ≠ 4) w (w1.setCell ⟨Bn, 0, none⟩ (.slice A1 (ns.length + 1) c1)) :=
    ((((Keeps.refl _ w).alloc _).alloc _).grown hA.grown (fun b hb _ hp => hp (H4.out b hb))).setCell (fun _ hp => hp H3.out) _
  have hplace : ∀ b, (Value.slice A1 (ns.length + 1) c1).ownBlock = some b → newCls cls w.heap.size 4 b = 4 := by
    intro b hb
    rcases hA.place with h | h
    · rw [h] at hb
      rw [newCls_old _ _ _ b (hv0 b hb)]
      exact H4.out b hb
    · rw [h] at hb
      injection hb with hb
      exact newCls_new _ _ _ (by rw [← hb]; simp; omega)
  have HN : Aside0 (NewsAt (newCls cls w.heap.size 4) base (w1.setCell ⟨Bn, 0, none⟩ (.slice A1 (ns.length + 1) c1)) Bn (ns ++ [s])) :=
    ⟨_, blk_put hbn1 0 (.slice A1 (ns.length + 1) c1) rfl, by rw [List.length_append, List.length_singleton]; exact own_far hown (own_ne hown hbn1 (by decide)) _, by rw [newCls_old _ _ _ _ hb]; exact H3.out, hplace⟩
  have HK := Aside0.mk hK
  have hcl : w1.cell? ⟨Bn, 0, none⟩ = some v := blk_cell hbn1 0
  have hfr : w1.frozen? ⟨Bn, 0, none⟩ = false := blk_frozen hbn1 0
  clear hA hown hbn hv0 hbn1 hK hplace hc
  go_wp2
  go_end0
  exact ⟨⟨_, rfl⟩, _, newCls_old _ _ _, HN.out, HK.out⟩
end Go.Proofs.Ytoodagohkepcpaa
