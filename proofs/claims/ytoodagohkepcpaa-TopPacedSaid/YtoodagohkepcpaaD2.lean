/- A piece of news; the list's insertion and removal. -/
import Derived.Test.YtoodagohkepcpaaD1
import Derived.RegionTactic
import Derived.BigRegion
namespace Go.Proofs.Ytoodagohkepcpaa
open Go.RowKit Go.Shelf Go.Proofs.YtoodagohkepcpaaW.PrintWords
set_option maxRecDepth 100000

set_option maxHeartbeats 2000000 in
theorem news_ok (Bs pb : Nat) (kind clock num : Int) (name : ByteArray) (w : World) (h1 : w.cell? ⟨Bs, 5, none⟩ = some (.int .i64 clock)) (h2 : w.cell? ⟨pb, 6, none⟩ = some (.int .i64 num)) :
    Calls Try.prog 66 #[.pointer (some ⟨Bs, 0, none⟩), .int .i64 kind, .pointer (some ⟨pb, 0, none⟩), .string name] w fun e w' => e = .returned (.agg #[.int .i64 kind, .int .i64 clock, .int .i64 num, .string name]) ∧ Below w.heap.size w w' := by
  have hb0 := World.block_lt_of_cell? w _ h1
  have hb1 := World.block_lt_of_cell? w _ h2
  go_enter Try.func66, Try.ntmps66
  go_wp2
  go_region
  go_wp2
  refine bodyPost_ret (results_cell_row (p := 8) (ty := 75) rfl _ _ w.heap.size 75 _ (0, 0) _ rfl (blk_drew (blk_new w _)) Try.underlying75 rfl (by kernel_rfl)) rfl ?_
  exact ⟨rfl, below_drew (below_alloc (Below.refl _ _) _)⟩

/-! ### the list -/
theorem chain_mem {W : World} {Br : Nat} {l : List (Nat × Nat)} : ∀ {pv : Nat}, Chain W Br pv l → ∀ n ∈ l, ∃ cs, W.heap[n.1]? = some (.cells cs 141) := by
  induction l with
  | nil => intro _ _ n hn; simp at hn
  | cons m l ih =>
    intro pv h n hn
    rcases List.mem_cons.1 hn with rfl | hn
    · exact ⟨_, h.1⟩
    · exact ih h.2 n hn
/-- The first element is taken out. -/
structure Out (cls : Nat → Nat) (k : Nat) (W W' : World) (Bs Bl Br Bg : Nat) (s : Sp) (n : Nat × Nat) (nodes : List (Nat × Nat)) (p : Pc) (q : List Pc) (nowv : Value) (said : Int) : Prop where
  sp : SpIn cls k W' Bs Bl Br Bg { s with q := q } nodes nowv said
  piece : PieceAt cls k W' n.2 p.sp p.num p.got
  fresh : n.2 ∉ nodes.map (·.2)
  node : W'.heap[n.1]? = some (.cells (nodeCells n.2 (nxt Br nodes) Br) 141)
  keep : Keeps (fun b => cls b ≠ k) W W'
theorem lst_cons (Br : Nat) (n : Nat × Nat) (m : Nat × Nat) (l : List (Nat × Nat)) : lst Br (n :: m :: l) = lst Br (m :: l) := rfl
/-- The block that stands behind the first element. -/
theorem nxt_cells {cls : Nat → Nat} {k : Nat} {w : World} {Bs Bl Br Bg : Nat} {s : Sp} {nodes : List (Nat × Nat)} {nowv : Value} {said : Int} (h : SpIn cls k w Bs Bl Br Bg s nodes nowv said) :
    (∃ cs, w.heap[nxt Br nodes]? = some (.cells cs 141) ∧ ∃ v, cs[2]? = some v) ∧ cls (nxt Br nodes) = k := by
  cases nodes with
  | nil => exact ⟨⟨_, h.ro, _, rfl⟩, h.kl.2.2.1⟩
  | cons m l => exact ⟨⟨_, h.chain.1, _, rfl⟩, h.kl.2.2.2 m (by simp)⟩
theorem out_mk {cls : Nat → Nat} {k : Nat} {w : World} {Bs Bl Br Bg : Nat} {s : Sp} {n : Nat × Nat} {nodes : List (Nat × Nat)} {p : Pc} {q : List Pc} {nowv : Value} {said : Int}
    (h : SpIn cls k w Bs Bl Br Bg s (n :: nodes) nowv said) (hq : s.q = p :: q) (W' : World)
    (hW : W' = (((w.setCell ⟨Br, 1, none⟩ (.pointer (some ⟨nxt Br nodes, 0, none⟩))).setCell ⟨nxt Br nodes, 2, none⟩ (.pointer (some ⟨Br, 0, none⟩))).drew).setCell ⟨Bl, 1, none⟩ (.int .i64 (q.length : Int))) :
    Out cls k w W' Bs Bl Br Bg s n nodes p q nowv said := by
  obtain ⟨nb, pb⟩ := n
  obtain ⟨hsp, hli, hro, ⟨hch, hrest⟩, hpc, hnd, hpnd, hcl, hcu⟩ := h
  rw [hq] at hpc
  have hnd1 := List.nodup_cons.1 hnd
  have hnd2 := List.nodup_cons.1 hnd1.2
  have hne : nb ≠ Br := fun e => hnd1.1 (by simp [e])
  dsimp only at hch hrest
  -- the block behind
  have hnx : ∃ cs, w.heap[nxt Br nodes]? = some (.cells cs 141) := by
    cases nodes with
    | nil => exact ⟨_, hro⟩
    | cons m l => exact ⟨_, hrest.1⟩
  obtain ⟨csx, hcsx⟩ := hnx
  have hnxb : nb ≠ nxt Br nodes := by
    cases nodes with
    | nil => exact hne
    | cons m l => exact fun e => hnd2.1 (by simp [e, nxt])
  have r1 := blk_put hro 1 (.pointer (some ⟨nxt Br nodes, 0, none⟩)) rfl
  have x1 : ∃ cs, (w.setCell ⟨Br, 1, none⟩ (.pointer (some ⟨nxt Br nodes, 0, none⟩))).heap[nxt Br nodes]? = some (.cells cs 141) := by
    by_cases e : nxt Br nodes = Br
    · rw [e] at r1 ⊢; exact ⟨_, r1⟩
    · exact ⟨_, blk_far hcsx (p := ⟨Br, 1, none⟩) e _⟩
  obtain ⟨cs1, x1⟩ := x1
  have K3 : Kept3 w W' := by
    rw [hW]
    have k1 := (Kept3.refl w).set_ hro (by decide) 1 (.pointer (some ⟨nxt Br nodes, 0, none⟩))
    have k2 := k1.set_ x1 (by decide) 2 (.pointer (some ⟨Br, 0, none⟩))
    have k3 := k2.drew
    refine k3.set_ (g := Bl) (t := 115) (cs := #[.pointer (some ⟨Br, 0, none⟩), .int .i64 (s.q.length : Int)]) ?_ (by decide) 1 _
    exact blk_drew (blk_far (blk_far hli (p := ⟨Br, 1, none⟩) (blk_ne hli hro (by decide)) _) (p := ⟨nxt Br nodes, 2, none⟩) (blk_ne hli hcsx (by decide)) _)
  have hfar : ∀ b cs t, w.heap[b]? = some (.cells cs t (0, 0)) → b ≠ Br → b ≠ nxt Br nodes → b ≠ Bl → W'.heap[b]? = some (.cells cs t (0, 0)) := by
    intro b cs t hb h1 h2 h3
    rw [hW]
    exact blk_far (blk_drew (blk_far (blk_far hb (p := ⟨Br, 1, none⟩) h1 _) (p := ⟨nxt Br nodes, 2, none⟩) h2 _)) (p := ⟨Bl, 1, none⟩) h3 _
  refine ⟨⟨?_, ?_, ?_, ?_, ?_, ?_, ?_, ?_, ?_⟩, ?_, ?_, ?_, ?_⟩
  · exact hfar Bs _ _ hsp (blk_ne hsp hro (by decide)) (blk_ne hsp hcsx (by decide)) (blk_ne hsp hli (by decide))
  · rw [hW]
    exact blk_put (blk_drew (blk_far (blk_far hli (p := ⟨Br, 1, none⟩) (blk_ne hli hro (by decide)) _) (p := ⟨nxt Br nodes, 2, none⟩) (blk_ne hli hcsx (by decide)) _)) 1 (.int .i64 (q.length : Int)) rfl
  · rw [hW]
    refine blk_far (blk_drew ?_) (p := ⟨Bl, 1, none⟩) (blk_ne hro hli (by decide)) _
    cases nodes with
    | nil => exact blk_put r1 2 (.pointer (some ⟨Br, 0, none⟩)) rfl
    | cons m l => exact blk_far r1 (p := ⟨m.1, 2, none⟩) (fun e => hnd1.1 (by simp; exact .inr (.inl e))) _
  · cases nodes with
    | nil => trivial
    | cons m l =>
      have hnd3 := List.nodup_cons.1 hnd2.2
      refine ⟨?_, hrest.2.moved fun n' hn' => ?_⟩
      · rw [hW]
        refine blk_far (blk_drew ?_) (p := ⟨Bl, 1, none⟩) (blk_ne hrest.1 hli (by decide)) _
        exact blk_put (blk_far hrest.1 (p := ⟨Br, 1, none⟩) (fun e => hnd1.1 (by simp; exact .inr (.inl e.symm))) _) 2 (.pointer (some ⟨Br, 0, none⟩)) rfl
      · obtain ⟨cs', hcs'⟩ := chain_mem hrest.2 n' hn'
        rw [hfar n'.1 _ _ hcs' (fun e => hnd1.1 (by simp; exact .inr (.inr ⟨n'.2, by rw [← e]; exact hn'⟩))) (fun e => hnd3.1 (by simp [nxt] at e; simp; exact ⟨n'.2, by rw [← e]; exact hn'⟩)) (blk_ne hcs' hli (by decide)), hcs']
  · exact hpc.2.imp (fun _ _ _ _ _ hp => hp.kept K3)
  · exact List.nodup_cons.2 ⟨fun h => hnd1.1 (by simp at h ⊢; exact .inr h), hnd2.2⟩
  · exact (List.nodup_cons.1 hpnd).2
  · exact ⟨hcl.1, hcl.2.1, hcl.2.2.1, fun n' hn' => hcl.2.2.2 n' (by simp [hn'])⟩
  · have := hcu.kept K3
    unfold CurAt at this ⊢
    dsimp only
    cases hc : s.cur with
    | none => trivial
    | some c =>
      rw [hc] at this
      obtain ⟨bn, f0, f1, f5, e1, e2, e3, e4⟩ := this
      exact ⟨bn, f0, f1, f5, e1, e2, e3, fun h => e4 (by simp at h ⊢; exact .inr h)⟩
  · exact hpc.1.kept K3
  · exact (List.nodup_cons.1 hpnd).1
  · exact hfar nb _ _ hch hne hnxb (blk_ne hch hli (by decide))
  · rw [hW]
    have hkx : cls (nxt Br nodes) = k := by
      cases nodes with
      | nil => exact hcl.2.2.1
      | cons m l => exact hcl.2.2.2 m (by simp)
    exact ((((Keeps.refl _ w).setCell (a := ⟨Br, 1, none⟩) (fun _ h => h hcl.2.2.1) _).setCell (a := ⟨nxt Br nodes, 2, none⟩) (fun _ h => h hkx) _).drewN 1).setCell (a := ⟨Bl, 1, none⟩) (fun _ h => h hcl.2.1) _

set_option maxHeartbeats 4000000 in
theorem remove_ok (cls : Nat → Nat) (k : Nat) (w : World) (Bs Bl Br Bg : Nat) (s : Sp) (n : Nat × Nat) (nodes : List (Nat × Nat)) (p : Pc) (q : List Pc) (nowv : Value) (said : Int)
    (h : SpIn cls k w Bs Bl Br Bg s (n :: nodes) nowv said) (hq : s.q = p :: q) (hlen : q.length ≤ 1000000) :
    Calls Try.prog 65 #[.pointer (some ⟨Bl, 0, none⟩), .pointer (some ⟨n.1, 0, none⟩)] w fun e w' => (∃ u, e = .returned u) ∧ Out cls k w w' Bs Bl Br Bg s n nodes p q nowv said := by
  have HO := Aside0.mk (fun W' hW => out_mk h hq W' hW)
  obtain ⟨nb, pb⟩ := n
  obtain ⟨hsp, hli, hro, ⟨hch, hrest⟩, hpc, hnd, hpnd, hcl, hcu⟩ := h
  dsimp only at *
  have hnx : ∃ cs v, w.heap[nxt Br nodes]? = some (.cells cs 141) ∧ cs[2]? = some v := by
    cases nodes with
    | nil => exact ⟨_, _, hro, rfl⟩
    | cons m l => exact ⟨_, _, hrest.1, rfl⟩
  obtain ⟨csx, vx, hcsx, hvx⟩ := hnx
  generalize nxt Br nodes = nx at *
  have c1 : w.cell? ⟨nb, 1, none⟩ = some (.pointer (some ⟨nx, 0, none⟩)) := blk_cell hch 1
  have c2 : w.cell? ⟨nb, 2, none⟩ = some (.pointer (some ⟨Br, 0, none⟩)) := blk_cell hch 2
  have c3 : w.cell? ⟨Br, 1, none⟩ = some (.pointer (some ⟨nb, 0, none⟩)) := blk_cell hro 1
  have c4 : w.cell? ⟨nx, 2, none⟩ = some vx := (blk_cell hcsx 2).trans hvx
  have c5 : w.frozen? ⟨Br, 1, none⟩ = false := blk_frozen hro 1
  have c6 : w.frozen? ⟨nx, 2, none⟩ = false := blk_frozen hcsx 2
  have X0 := Aside0.mk (blk_drew (blk_far (blk_far hli (p := ⟨Br, 1, none⟩) (blk_ne hli hro (by decide)) (.pointer (some ⟨nx, 0, none⟩))) (p := ⟨nx, 2, none⟩) (blk_ne hli hcsx (by decide)) (.pointer (some ⟨Br, 0, none⟩))))
  rw [hq] at X0
  clear hsp hli hro hch hrest hpc hnd hpnd hcl hcu hcsx hvx hq
  go_enter Try.func65, Try.ntmps65
  go_wp2
  go_region
  clear c1 c2 c3 c4 c5 c6
  generalize ((w.setCell ⟨Br, 1, none⟩ (.pointer (some ⟨nx, 0, none⟩))).setCell ⟨nx, 2, none⟩ (.pointer (some ⟨Br, 0, none⟩))).drew = X at *
  have c7 : X.cell? ⟨Bl, 1, none⟩ = some (.int .i64 (((p :: q).length : Nat) : Int)) := blk_cell X0.out 1
  have c8 : X.frozen? ⟨Bl, 1, none⟩ = false := blk_frozen X0.out 1
  rw [List.length_cons, show ((q.length + 1 : Nat) : Int) = (q.length : Int) + 1 from by omega] at c7
  have hw : IntKind.i64.wrap ((q.length : Int) + 1 - 1) = (q.length : Int) := by rw [Int.add_sub_cancel]; exact IntWalk.i64_in _ (by omega)
  go_wp2
  go_end0
  exact ⟨⟨_, rfl⟩, HO.out _ rfl⟩
end Go.Proofs.Ytoodagohkepcpaa
