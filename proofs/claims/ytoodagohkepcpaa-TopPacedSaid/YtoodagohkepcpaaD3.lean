/- A piece is laid behind the others. -/
import Derived.Test.YtoodagohkepcpaaD2
namespace Go.Proofs.Ytoodagohkepcpaa
open Go.RowKit Go.Shelf Go.Proofs.YtoodagohkepcpaaW.PrintWords
set_option maxRecDepth 100000

theorem lst_mem (l : List (Nat × Nat)) : ∀ pv, l ≠ [] → lst pv l ∈ l.map (·.1) := by
  induction l with
  | nil => intro pv h; exact absurd rfl h
  | cons n l ih =>
    intro pv _
    cases l with
    | nil => simp [lst]
    | cons m l =>
      have := ih n.1 (by simp)
      simp only [List.map_cons, lst] at this ⊢
      exact List.mem_cons_of_mem _ this
theorem chain_snoc {w W' : World} {Br N pb : Nat} (l : List (Nat × Nat)) : ∀ pv, Chain w Br pv l → (l.map (·.1)).Nodup → (∀ n ∈ l, n.1 ≠ lst pv l → W'.heap[n.1]? = w.heap[n.1]?) →
    (l ≠ [] → ∀ cs cs', w.heap[lst pv l]? = some (.cells cs 141) → cs.setIfInBounds 1 (.pointer (some ⟨N, 0, none⟩)) = cs' → W'.heap[lst pv l]? = some (.cells cs' 141)) → W'.heap[N]? = some (.cells (nodeCells pb Br (lst pv l)) 141) → Chain W' Br pv (l ++ [(N, pb)]) := by
  induction l with
  | nil => intro pv _ _ _ _ hN; exact ⟨hN, trivial⟩
  | cons n l ih =>
    intro pv h hnd hm hl hN
    have hnd' := List.nodup_cons.1 hnd
    cases l with
    | nil => exact ⟨hl (by simp) _ _ h.1 rfl, hN, trivial⟩
    | cons m l =>
      refine ⟨?_, ih n.1 h.2 hnd'.2 (fun n' hn' hne => hm n' (by simp at hn' ⊢; exact .inr hn') hne) (fun _ cs cs' hc he => hl (by simp) cs cs' hc he) hN⟩
      rw [hm n (by simp) (fun e => hnd'.1 (by have h1 := lst_mem (m :: l) n.1 (by simp); show n.1 ∈ _; rw [e]; exact h1))]
      exact h.1
theorem chain_mem' {W : World} {Br : Nat} {l : List (Nat × Nat)} : ∀ {pv : Nat}, Chain W Br pv l → ∀ n ∈ l, ∃ cs v, W.heap[n.1]? = some (.cells cs 141) ∧ cs[1]? = some v := by
  induction l with
  | nil => intro _ _ n hn; simp at hn
  | cons m l ih =>
    intro pv h n hn
    rcases List.mem_cons.1 hn with rfl | hn
    · exact ⟨_, _, h.1, rfl⟩
    · exact ih h.2 n hn
theorem pieces_snoc {cls : Nat → Nat} {k : Nat} {W : World} {n : Nat × Nat} {p : Pc} (hp : PieceAt cls k W n.2 p.sp p.num p.got) (l : List (Nat × Nat)) : ∀ q : List Pc, PiecesAt cls k W l q → PiecesAt cls k W (l ++ [n]) (q ++ [p]) := by
  induction l with
  | nil =>
    intro q h
    cases q with
    | nil => exact ⟨hp, trivial⟩
    | cons p q => exact h.elim
  | cons m l ih =>
    intro q h
    cases q with
    | nil => exact h.elim
    | cons p q => exact ⟨h.1, ih q h.2⟩
theorem nxt_snoc (Br : Nat) (n : Nat × Nat) (l : List (Nat × Nat)) (pv : Nat) : lst pv (l ++ [n]) = n.1 := by
  induction l generalizing pv with
  | nil => rfl
  | cons m l ih => exact ih m.1

theorem put_mk {cls : Nat → Nat} {k : Nat} {w : World} {Bs Bl Br Bg : Nat} {s : Sp} {nodes : List (Nat × Nat)} {nowv : Value} {said : Int} {pb : Nat} {p : Pc}
    (h : SpIn cls k w Bs Bl Br Bg s nodes nowv said) (hp : PieceAt cls k w pb p.sp p.num p.got) (hpb : pb ∉ nodes.map (·.2)) (hcur : ∀ c, s.cur = some c → nowv ≠ .pointer (some ⟨pb, 0, none⟩)) (W' : World)
    (hW : W' = (((w.alloc (.cells (nodeCells pb Br (lst Br nodes)) 141)).setCell ⟨lst Br nodes, 1, none⟩ (.pointer (some ⟨w.heap.size, 0, none⟩))).setCell ⟨Br, 2, none⟩ (.pointer (some ⟨w.heap.size, 0, none⟩))).setCell ⟨Bl, 1, none⟩ (.int .i64 ((s.q ++ [p]).length : Int))) :
    SpIn (newCls cls w.heap.size k) k W' Bs Bl Br Bg { s with q := s.q ++ [p] } (nodes ++ [(w.heap.size, pb)]) nowv said ∧ Keeps (fun b => cls b ≠ k) w W' := by
  have h' := h
  obtain ⟨hsp, hli, hro, hch, hpc, hnd, hpnd, hcl, hcu⟩ := h
  have hnd1 := List.nodup_cons.1 hnd
  have hold := newCls_old cls w.heap.size k
  have hlx : ∃ cs, w.heap[lst Br nodes]? = some (.cells cs 141) := by
    by_cases he : nodes = []
    · rw [he]; exact ⟨_, hro⟩
    · obtain ⟨n, hn, e⟩ := List.mem_map.1 (lst_mem nodes Br he)
      rw [← e]
      exact chain_mem hch n hn
  obtain ⟨csl, hcsl⟩ := hlx
  have hlk : cls (lst Br nodes) = k := by
    by_cases he : nodes = []
    · rw [he]; exact hcl.2.2.1
    · obtain ⟨n, hn, e⟩ := List.mem_map.1 (lst_mem nodes Br he)
      rw [← e]
      exact hcl.2.2.2 n hn
  have a0 := fun (b : Nat) (o : Obj) (hb : w.heap[b]? = some o) => blk_alloc hb (.cells (nodeCells pb Br (lst Br nodes)) 141)
  have x1 : ∀ (L : Nat) (cl : Array Value), w.heap[L]? = some (.cells cl 141) → ∃ cs, ((w.alloc (.cells (nodeCells pb Br (lst Br nodes)) 141)).setCell ⟨L, 1, none⟩ (.pointer (some ⟨w.heap.size, 0, none⟩))).heap[Br]? = some (.cells cs 141) := by
    intro L cl hL
    by_cases e : Br = L
    · subst e; exact ⟨_, blk_put (a0 _ _ hL) 1 _ rfl⟩
    · exact ⟨_, blk_far (a0 _ _ hro) (p := ⟨L, 1, none⟩) e _⟩
  obtain ⟨cs1, x1⟩ := x1 _ _ hcsl
  have hli3 := blk_far (blk_far (a0 _ _ hli) (p := ⟨lst Br nodes, 1, none⟩) (blk_ne hli hcsl (by decide)) (.pointer (some ⟨w.heap.size, 0, none⟩))) (p := ⟨Br, 2, none⟩) (blk_ne hli hro (by decide)) (.pointer (some ⟨w.heap.size, 0, none⟩))
  have K3 : Kept3 w W' := by
    rw [hW]
    have k0 : Kept3 w (w.alloc (.cells (nodeCells pb Br (lst Br nodes)) 141)) := (Kept3.refl w).below (below_alloc (Below.refl _ _) _)
    exact ((k0.set_ (a0 _ _ hcsl) (by decide) 1 _).set_ x1 (by decide) 2 _).set_ hli3 (by decide) 1 _
  have hfar : ∀ b cs t, w.heap[b]? = some (.cells cs t (0, 0)) → b ≠ Br → b ≠ lst Br nodes → b ≠ Bl → W'.heap[b]? = some (.cells cs t (0, 0)) := by
    intro b cs t hb h1 h2 h3
    rw [hW]
    exact blk_far (blk_far (blk_far (a0 _ _ hb) (p := ⟨lst Br nodes, 1, none⟩) h2 _) (p := ⟨Br, 2, none⟩) h1 _) (p := ⟨Bl, 1, none⟩) h3 _
  have hszl := blk_lt hcsl
  have hszr := blk_lt hro
  have hszb := blk_lt hli
  refine ⟨⟨?_, ?_, ?_, ?_, ?_, ?_, ?_, ?_, ?_⟩, ?_⟩
  · exact hfar Bs _ _ hsp (blk_ne hsp hro (by decide)) (blk_ne hsp hcsl (by decide)) (blk_ne hsp hli (by decide))
  · rw [hW]
    exact blk_put hli3 1 (.int .i64 ((s.q ++ [p]).length : Int)) rfl
  · rw [hW, nxt_snoc Br]
    refine blk_far ?_ (p := ⟨Bl, 1, none⟩) (blk_ne hro hli (by decide)) _
    cases nodes with
    | nil => exact blk_put (blk_put (a0 _ _ hro) 1 (.pointer (some ⟨w.heap.size, 0, none⟩)) rfl) 2 (.pointer (some ⟨w.heap.size, 0, none⟩)) rfl
    | cons m l =>
      have hne : Br ≠ lst Br (m :: l) := fun e => hnd1.1 (by rw [e]; exact lst_mem _ _ (by simp))
      exact blk_put (blk_far (a0 _ _ hro) (p := ⟨lst Br (m :: l), 1, none⟩) hne _) 2 (.pointer (some ⟨w.heap.size, 0, none⟩)) rfl
  · refine chain_snoc nodes Br hch hnd1.2 (fun n hn hne => ?_) (fun he cs cs' hc hcs' => ?_) ?_
    · obtain ⟨cs, hcs⟩ := chain_mem hch n hn
      rw [hfar n.1 _ _ hcs (fun e => hnd1.1 (by rw [← e]; exact List.mem_map_of_mem hn)) hne (blk_ne hcs hli (by decide)), hcs]
    · rw [hW]
      refine blk_far (blk_far (blk_put (a0 _ _ hc) 1 (.pointer (some ⟨w.heap.size, 0, none⟩)) hcs') (p := ⟨Br, 2, none⟩) (fun e => hnd1.1 (by have e' : lst Br nodes = Br := e; have := lst_mem nodes Br he; rw [e'] at this; exact this)) _) (p := ⟨Bl, 1, none⟩) (blk_ne hcsl hli (by decide)) _
    · rw [hW]
      exact blk_far (blk_far (blk_far (blk_new w _) (p := ⟨lst Br nodes, 1, none⟩) (by dsimp only; omega) _) (p := ⟨Br, 2, none⟩) (by dsimp only; omega) _) (p := ⟨Bl, 1, none⟩) (by dsimp only; omega) _
  · exact pieces_snoc (n := (w.heap.size, pb)) ((hp.again hold).kept K3) nodes s.q (hpc.imp fun _ _ _ _ _ hp => (hp.again hold).kept K3)
  · have hN : w.heap.size ∉ Br :: nodes.map (·.1) := by
      intro hm
      rcases List.mem_cons.1 hm with e | hm
      · omega
      · obtain ⟨n, hn, e⟩ := List.mem_map.1 hm
        have := hch.lt n hn
        omega
    rw [List.map_append, ← List.cons_append, List.nodup_append]
    exact ⟨hnd, by simp, fun a ha b hb => by simp at hb; subst hb; exact fun e => hN (e ▸ ha)⟩
  · rw [List.map_append, List.nodup_append]
    exact ⟨hpnd, by simp, fun a ha b hb => by simp at hb; subst hb; exact fun e => hpb (e ▸ ha)⟩
  · refine ⟨(hold _ (blk_lt hsp)).trans hcl.1, (hold _ hszb).trans hcl.2.1, (hold _ hszr).trans hcl.2.2.1, fun n hn => ?_⟩
    rcases List.mem_append.1 hn with hn | hn
    · exact (hold _ (hch.lt n hn)).trans (hcl.2.2.2 n hn)
    · simp at hn
      subst hn
      exact newCls_new _ _ _ (Nat.le_refl _)
  · have := (hcu.again hold).kept K3
    unfold CurAt at this ⊢
    dsimp only
    cases hc : s.cur with
    | none => trivial
    | some c =>
      rw [hc] at this
      obtain ⟨bn, f0, f1, f5, e1, e2, e3, e4⟩ := this
      refine ⟨bn, f0, f1, f5, e1, e2, e3, fun h => ?_⟩
      rw [List.map_append] at h
      rcases List.mem_append.1 h with h | h
      · exact e4 h
      · simp at h
        subst h
        exact hcur c hc e1
  · rw [hW]
    exact ((((Keeps.refl _ w).alloc _).setCell (a := ⟨lst Br nodes, 1, none⟩) (fun _ h => h hlk) _).setCell (a := ⟨Br, 2, none⟩) (fun _ h => h hcl.2.2.1) _).setCell (a := ⟨Bl, 1, none⟩) (fun _ h => h hcl.2.1) _

set_option maxHeartbeats 4000000 in
theorem insert_ok (cls : Nat → Nat) (k : Nat) (w : World) (Bs Bl Br Bg : Nat) (s : Sp) (nodes : List (Nat × Nat)) (nowv : Value) (said : Int) (pb : Nat) (p : Pc)
    (h : SpIn cls k w Bs Bl Br Bg s nodes nowv said) (hp : PieceAt cls k w pb p.sp p.num p.got) (hpb : pb ∉ nodes.map (·.2)) (hcur : ∀ c, s.cur = some c → nowv ≠ .pointer (some ⟨pb, 0, none⟩)) (hlen : s.q.length ≤ 1000000) :
    Calls Try.prog 64 #[.pointer (some ⟨Bl, 0, none⟩), .pointer (some ⟨Br, 0, none⟩), .pointer (some ⟨pb, 0, none⟩)] w fun e w' => (∃ u, e = .returned u) ∧
      SpIn (newCls cls w.heap.size k) k w' Bs Bl Br Bg { s with q := s.q ++ [p] } (nodes ++ [(w.heap.size, pb)]) nowv said ∧ Keeps (fun b => cls b ≠ k) w w' := by
  have HO := Aside0.mk (fun W' hW => put_mk h hp hpb hcur W' hW)
  obtain ⟨hsp, hli, hro, hch, hpc, hnd, hpnd, hcl, hcu⟩ := h
  have hlx : ∃ cs v, w.heap[lst Br nodes]? = some (.cells cs 141) ∧ cs[1]? = some v := by
    by_cases he : nodes = []
    · rw [he]; exact ⟨_, _, hro, rfl⟩
    · obtain ⟨n, hn, e⟩ := List.mem_map.1 (lst_mem nodes Br he)
      rw [← e]
      exact chain_mem' hch n hn
  obtain ⟨csl, vl, hcsl, hvl⟩ := hlx
  generalize lst Br nodes = L at *
  have W0 : w.alloc (.cells (nodeCells pb Br L) 141) = w.alloc (.cells #[.pointer (some ⟨pb, 0, none⟩), .pointer (some ⟨Br, 0, none⟩), .pointer (some ⟨L, 0, none⟩)] 141) := rfl
  rw [W0] at HO
  clear W0
  generalize hO : Obj.cells #[.pointer (some ⟨pb, 0, none⟩), .pointer (some ⟨Br, 0, none⟩), .pointer (some ⟨L, 0, none⟩)] 141 = O at *
  have c1 : w.cell? ⟨Br, 2, none⟩ = some (.pointer (some ⟨L, 0, none⟩)) := blk_cell hro 2
  have a1 := blk_alloc hro O
  have a2 := blk_alloc hcsl O
  have a3 := blk_alloc hli O
  have c2 : (w.alloc O).cell? ⟨Br, 2, none⟩ = some (.pointer (some ⟨L, 0, none⟩)) := blk_cell a1 2
  have c3 : (w.alloc O).cell? ⟨L, 1, none⟩ = some vl := (blk_cell a2 1).trans hvl
  have c4 : (w.alloc O).frozen? ⟨L, 1, none⟩ = false := blk_frozen a2 1
  have c5 : (w.alloc O).frozen? ⟨Br, 2, none⟩ = false := blk_frozen a1 2
  have a4 := blk_far (blk_far a3 (p := ⟨L, 1, none⟩) (blk_ne hli hcsl (by decide)) (.pointer (some ⟨w.heap.size, 0, none⟩))) (p := ⟨Br, 2, none⟩) (blk_ne hli hro (by decide)) (.pointer (some ⟨w.heap.size, 0, none⟩))
  have c6 := blk_cell a4 1
  have c7 := blk_frozen a4 1
  have hw : IntKind.i64.wrap ((s.q.length : Int) + 1) = (s.q.length : Int) + 1 := IntWalk.i64_in _ (by omega)
  rw [List.length_append, List.length_singleton, show ((s.q.length + 1 : Nat) : Int) = (s.q.length : Int) + 1 from by omega] at HO
  subst hO
  clear hsp hli hro hch hpc hnd hpnd hcl hcu hcsl hvl a1 a2 a3 a4 hp hpb hcur
  go_enter Try.func64, Try.ntmps64
  go_wp2
  go_end0
  exact ⟨⟨_, rfl⟩, HO.out _ rfl⟩
end Go.Proofs.Ytoodagohkepcpaa
