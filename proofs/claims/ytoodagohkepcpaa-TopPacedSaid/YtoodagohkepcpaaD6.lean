/- A piece is not begun. -/
import Derived.Test.YtoodagohkepcpaaD5
import Derived.BigQuiet
import Derived.LaidEqlPtr
namespace Go.Proofs.Ytoodagohkepcpaa
open Go.RowKit Go.Shelf Go.Proofs.YtoodagohkepcpaaW.PrintWords
set_option maxRecDepth 100000

theorem info141 : (Try.prog.info? 141).map (·.size) = some 3 := by kernel_rfl
theorem node_eq (a : Addr) (W : World) : (binOp .eql 113 (.pointer (some a)) (.pointer (some a))).run Try.prog W = .ok (.bool true) W := by
  obtain ⟨j, hj, _⟩ := Option.map_eq_some_iff.1 info141
  exact run_eql_ptr_same W a Try.underlying113 hj
theorem node_ne {a b : Nat} {W : World} {ca cb : Array Value} {ta tb : TypeId} (ha : W.heap[a]? = some (.cells ca ta (0, 0))) (hb : W.heap[b]? = some (.cells cb tb (0, 0))) (hne : a ≠ b) :
    ∀ n, (binOp .eql 113 (.pointer (some ⟨a, 0, none⟩)) (.pointer (some ⟨b, 0, none⟩))).run Try.prog (W.drewN n) = .ok (.bool false) (W.drewN n) := by
  intro n
  obtain ⟨j, hj, hs⟩ := Option.map_eq_some_iff.1 info141
  exact run_eql_ptr_other (W.drewN n) Try.underlying113 hj (by rw [hs]; decide) (fun e => hne (by injection e)) (blk_drewN ha n) (blk_drewN hb n)
theorem sys_drawn {cls : Nat → Nat} {k base : Nat} {W : World} {Bs Bl Br Bg Bn : Nat} {x : St} (h : Sys cls k base W Bs Bl Br Bg Bn x) (n : Nat) : Went cls cls k base W (W.drewN n) Bs Bl Br Bg Bn x :=
  (Went.refl h).below (pw_below_drewN (Below.refl _ _) n)
set_option maxHeartbeats 4000000 in
theorem begin_no (cls : Nat → Nat) (k base : Nat) (w : World) (Bs Bl Br Bg Bn : Nat) (x : St) (u : Value) (h : Sys cls k base w Bs Bl Br Bg Bn x) (hb : beginF x = (false, x)) (hgot : ∀ p ∈ x.s.q, 0 ≤ p.got) :
    Calls Try.prog 44 #[.pointer (some ⟨Bs, 0, none⟩), u] w fun e w' => e = .returned (.bool false) ∧ ∃ n, w' = w.drewN n := by
  obtain ⟨⟨nodes, nowv, said, hsp⟩, _, _⟩ := h
  have f1 : w.cell? ⟨Bs, 1, none⟩ = some (.pointer (some ⟨Bl, 0, none⟩)) := blk_cell hsp.sp 1
  have f2 : w.cell? ⟨Bl, 0, none⟩ = some (.pointer (some ⟨Br, 0, none⟩)) := blk_cell hsp.li 0
  have f3 : w.cell? ⟨Br, 1, none⟩ = some (.pointer (some ⟨nxt Br nodes, 0, none⟩)) := blk_cell hsp.ro 1
  have f4 : w.cell? ⟨Bs, 6, none⟩ = some (.int .i64 (stateF x.s.cur)) := blk_cell hsp.sp 6
  cases hc : x.s.cur with
  | some c =>
    rw [hc] at f4
    simp only [stateF] at f4
    clear hsp hb hgot hc
    generalize nxt Br nodes = nx at *
    go_enter Try.func44, Try.ntmps44
    go_wp2
    go_quiet (fail)
    go_wp2
    go_ret
    exact ⟨rfl, _, rfl⟩
  | none =>
    rw [hc] at f4
    simp only [stateF] at f4
    cases hq : x.s.q with
    | nil =>
      have hl := hsp.pieces.length
      rw [hq] at hl
      obtain rfl : nodes = [] := List.eq_nil_of_length_eq_zero hl
      simp only [nxt] at f3
      have hee := fun (W : World) => node_eq ⟨Br, 0, none⟩ W
      clear hsp hb hgot hc hq hl
      go_enter Try.func44, Try.ntmps44
      go_wp2
      go_quiet (fail)
      go_wp2
      go_ret
      exact ⟨rfl, _, rfl⟩
    | cons p q =>
      have hp := hsp.pieces
      rw [hq] at hp
      cases nodes with
      | nil => exact hp.elim
      | cons n nodes =>
        obtain ⟨nb, pb⟩ := n
        simp only [nxt] at f3
        have hne : nb ≠ Br := by
          have := List.nodup_cons.1 hsp.nodup
          simp at this
          exact fun e => this.1.1 e.symm
        obtain ⟨v2, v3, v4, hpb, _⟩ := hp.1.ex
        have f5 : w.cell? ⟨nb, 0, none⟩ = some (.pointer (some ⟨pb, 0, none⟩)) := blk_cell hsp.chain.1 0
        have f6 : w.cell? ⟨pb, 7, none⟩ = some (.int .i64 p.got) := blk_cell hpb 7
        have f7 : w.cell? ⟨pb, 5, none⟩ = some (.int .i64 p.sp.f5) := blk_cell hpb 5
        have hlt : p.got < p.sp.f5 := by
          unfold beginF at hb
          rw [hc, hq] at hb
          dsimp only at hb
          by_cases h : p.got < p.sp.f5
          · exact h
          · rw [if_neg h] at hb
            split at hb <;> cases hb
        have hd : decide (p.got < p.sp.f5) = true := by simpa using hlt
        have hee := node_ne hsp.chain.1 hsp.ro hne
        clear hsp hb hgot hc hq hp hpb hlt
        go_enter Try.func44, Try.ntmps44
        go_wp2
        go_quiet (fail)
        go_wp2
        go_ret
        exact ⟨rfl, _, rfl⟩
end Go.Proofs.Ytoodagohkepcpaa
