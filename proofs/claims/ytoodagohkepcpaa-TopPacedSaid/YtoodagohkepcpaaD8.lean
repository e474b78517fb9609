/- The signs that are due are told. -/
import Derived.Test.YtoodagohkepcpaaD7
namespace Go.Proofs.Ytoodagohkepcpaa
open Go.RowKit Go.Shelf Go.Proofs.YtoodagohkepcpaaW.PrintWords
set_option maxRecDepth 100000

theorem PieceAt.far {cls : Nat → Nat} {k : Nat} {W : World} {b bn : Nat} {p : S30} {num got : Int} {cs : Array Value} (h : PieceAt cls k W b p num got) (hb : b ≠ bn) (hbn : W.heap[bn]? = some (.cells cs 122)) (i : Nat) (u : Value) : PieceAt cls k (W.setCell ⟨bn, i, none⟩ u) b p num got := by
  obtain ⟨v2, v3, v4, h1, h2, h3, h4⟩ := h.ex
  exact ⟨h.cl, v2, v3, v4, blk_far h1 (p := ⟨bn, i, none⟩) hb _, h2.step (plain_int _) (fun b c _ h => blk_far h (p := ⟨bn, i, none⟩) (blk_ne h hbn (by decide)) _), h3.step (plain_int _) (fun b c _ h => blk_far h (p := ⟨bn, i, none⟩) (blk_ne h hbn (by decide)) _), h4.step plain_32 (fun b c _ h => blk_far h (p := ⟨bn, i, none⟩) (blk_ne h hbn (by decide)) _)⟩
section
variable {cls c2 : Nat → Nat} {k base : Nat} {w w5 : World} {Bs Bl Br Bg Bn : Nat} {s : Sp} {g : Gr} {ns : List S75} {nodes : List (Nat × Nat)} {said : Int}
theorem Went.curSet {bn : Nat} {cs : Array Value} (hk : k ≠ 3 ∧ k ≠ 4) (h : Went cls c2 k base w w5 Bs Bl Br Bg Bn ⟨s, g, ns⟩) (hS : SpIn c2 k w5 Bs Bl Br Bg s nodes (.pointer (some ⟨bn, 0, none⟩)) said)
    (hbn : w5.heap[bn]? = some (.cells cs 122)) (hcl : c2 bn = k) (hnb : bn ∉ nodes.map (·.2)) (i : Nat) (u : Value) {c c' : Cur} (hc : s.cur = some c) (hsaid : said = c'.said) {f0 f1 f5 : Int}
    (hP : PieceAt c2 k (w5.setCell ⟨bn, i, none⟩ u) bn ⟨f0, f1, c'.xs, [], c'.ss, f5⟩ c'.num 0) : Went cls c2 k base w (w5.setCell ⟨bn, i, none⟩ u) Bs Bl Br Bg Bn ⟨{ s with cur := some c' }, g, ns⟩ := by
  have hne : ∀ (b : Nat) (cs' : Array Value) (t : TypeId), w5.heap[b]? = some (.cells cs' t (0, 0)) → t ≠ 122 → (w5.setCell ⟨bn, i, none⟩ u).heap[b]? = some (.cells cs' t (0, 0)) := fun b cs' t hb ht => blk_far hb (p := ⟨bn, i, none⟩) (blk_ne hb hbn ht) u
  have hf : ∀ b, b ≠ bn → (w5.setCell ⟨bn, i, none⟩ u).heap[b]? = w5.heap[b]? := fun b hb => Below.heap_setCell _ _ _ _ hb
  refine ⟨h.cl, ⟨⟨nodes, .pointer (some ⟨bn, 0, none⟩), said, ?_⟩, h.sys.le.moved (fun b hb _ => hf b (fun e => hk.1 (by rw [← hcl, ← e]; exact hb))), h.sys.ne.moved (fun b hb _ => hf b (fun e => hk.2 (by rw [← hcl, ← e]; exact hb)))⟩, h.keep.setCell (fun hl hm => hm (.inl (by rw [← h.cl bn hl]; exact hcl))) _⟩
  refine ⟨?_, hne _ _ _ hS.li (by decide), hne _ _ _ hS.ro (by decide), hS.chain.moved (fun n hn => ?_), hS.pieces.imp (fun n hn _ _ _ hp => hp.far (fun e => hnb (by rw [← e]; exact List.mem_map_of_mem hn)) hbn _ _), hS.nodup, hS.pnodup, hS.kl, ⟨bn, f0, f1, f5, rfl, hsaid, hP, hnb⟩⟩
  · have := hne _ _ _ hS.sp (by decide)
    rw [hc] at this
    exact this
  · obtain ⟨cs', hcs'⟩ := chain_mem hS.chain n hn
    rw [hne _ _ _ hcs' (by decide), hcs']
end
theorem told_nil (c : Cur) (clock : Int) (h : c.ss = []) : toldF c clock = [] ∧ leftF c = [] := by unfold toldF leftF; rw [h]; exact ⟨rfl, rfl⟩
theorem told_not (c : Cur) (clock : Int) {s0 : S32} {rest : List S32} (h : c.ss = s0 :: rest) (hd : ¬ s0.f0 ≤ (c.said : Int)) : toldF c clock = [] ∧ leftF c = c.ss := by
  unfold toldF leftF
  rw [h, List.takeWhile_cons_of_neg (by simpa [dueF] using hd), List.dropWhile_cons_of_neg (by simpa [dueF] using hd)]
  exact ⟨rfl, rfl⟩
theorem told_cons (c : Cur) (clock : Int) {s0 : S32} {rest : List S32} (h : c.ss = s0 :: rest) (hd : s0.f0 ≤ (c.said : Int)) : toldF c clock = ⟨2, clock, c.num, s0.f1⟩ :: toldF { c with ss := rest } clock ∧ leftF c = leftF { c with ss := rest } := by
  unfold toldF leftF
  dsimp only
  rw [h, List.takeWhile_cons_of_pos (by simpa [dueF] using hd), List.dropWhile_cons_of_pos (by simpa [dueF] using hd)]
  exact ⟨rfl, rfl⟩
/-- Some signs have been told. -/
structure SgInv (cls : Nat → Nat) (k base : Nat) (w : World) (Bs Bl Br Bg Bn : Nat) (x : St) (c : Cur) (gg : Nat) (wr : World) : Prop where
  ex : ∃ cls' ss' ns', Went cls cls' k base w wr Bs Bl Br Bg Bn ⟨{ x.s with cur := some { c with ss := ss' } }, x.g, ns'⟩ ∧ ss'.length ≤ gg ∧ ns' ++ toldF { c with ss := ss' } x.s.clock = x.ns ++ toldF c x.s.clock ∧ leftF { c with ss := ss' } = leftF c ∧ ns'.length + ss'.length ≤ 1000000000

set_option maxHeartbeats 8000000 in
theorem sign_ok (cls : Nat → Nat) (k base : Nat) (w : World) (Bs Bl Br Bg Bn : Nat) (x : St) (c : Cur) (hk : k ≠ 3 ∧ k ≠ 4) (h : Sys cls k base w Bs Bl Br Bg Bn x) (hc : x.s.cur = some c) (hroom : x.ns.length + c.ss.length ≤ 1000000000) (hsaid : c.said ≤ 1099511627776) (hbase : base ≤ w.heap.size) :
    Calls Try.prog 67 #[.pointer (some ⟨Bs, 0, none⟩), .func (.func 43) #[] #[.pointer (some ⟨Bn, 0, none⟩)]] w fun e w' => (∃ u, e = .returned u) ∧ ∃ cls', Went cls cls' k base w w' Bs Bl Br Bg Bn ⟨{ x.s with cur := some { c with ss := leftF c } }, x.g, x.ns ++ toldF c x.s.clock⟩ := by
  have HI : Aside0 (SgInv cls k base w Bs Bl Br Bg Bn x c c.ss.length w) := ⟨⟨cls, c.ss, x.ns, by
    obtain ⟨⟨q, number, pn, pd, clock, cur, late⟩, g, ns⟩ := x
    dsimp only at hc
    subst hc
    exact Went.refl h, Nat.le_refl _, rfl, rfl, hroom⟩⟩
  clear h hc hroom
  go_enter Try.func67, Try.ntmps67
  go_wp2
  go_loopg [4] c.ss.length (fun gg _ wr => Aside0 (SgInv cls k base w Bs Bl Br Bg Bn x c gg wr))
  case atStart => exact HI
  case round =>
    obtain ⟨c1, ss', ns', hW, hg, hT, hLf, hrm⟩ := hrel.out.ex
    obtain ⟨nodes, nowv, said, hsp⟩ := hW.sys.sp
    obtain ⟨bn, f0, f1, f5, rfl, hsd, hP, hnb⟩ := hsp.cur
    dsimp only at hsd hP
    subst hsd
    obtain ⟨v2, v3, v4, hbn, D2, D3, D4⟩ := hP.ex
    dsimp only at hbn D2 D3 D4
    obtain ⟨A4, c4, rfl, hc4, hC4, hk4⟩ := D4.ex
    have l1 : wr.cell? ⟨Bs, 7, none⟩ = some (.pointer (some ⟨bn, 0, none⟩)) := blk_cell hsp.sp 7
    have l2 : wr.cell? ⟨bn, 4, none⟩ = some (.slice A4 ss'.length c4) := blk_cell hbn 4
    have l3 : wr.cell? ⟨Bs, 8, none⟩ = some (.int .i64 (c.said : Int)) := blk_cell hsp.sp 8
    cases ss' with
    | nil =>
      have HW : Aside0 (Went cls c1 k base w wr Bs Bl Br Bg Bn ⟨{ x.s with cur := some { c with ss := leftF c } }, x.g, x.ns ++ toldF c x.s.clock⟩) := ⟨by
        have h1 := told_nil { c with ss := [] } x.s.clock rfl
        rw [h1.1, List.append_nil] at hT
        rw [h1.2] at hLf
        rw [← hT, ← hLf]
        exact hW⟩
      clear hW hg hT hLf hrm hsp hP hnb hbn D2 D3 D4 hC4 hk4 hrel HI hc4
      go_wp2
      go_quiet (fail)
      go_wp2
      go_end0
      exact ⟨⟨_, rfl⟩, c1, HW.out.below (pw_below_drewN (Below.refl _ _) _)⟩
    | cons s0 rest =>
      obtain ⟨ad, rfl, hS0, hS1⟩ := at_T32 hC4 0 (by omega) (by simp)
      rw [show ad.add ((0 : Int).toNat * 2) = ad from by simp [Addr.add]] at hS0 hS1
      simp only [rd_T32, show (0 : Int).toNat = 0 from rfl, List.getD_cons_zero] at hS0 hS1
      have HLR : Aside0 ((s0 :: rest).length = rest.length + 1) := ⟨rfl⟩
      have hLp : 0 < (s0 :: rest).length := by simp
      have hLz : (0 : Int) < ((s0 :: rest).length : Int) := by omega
      have hd1 : decide ((0 : Int) < ((s0 :: rest).length : Int)) = true := decide_eq_true hLz
      have hd2 : decide (0 < (s0 :: rest).length) = true := decide_eq_true hLp
      by_cases hdue : s0.f0 ≤ (c.said : Int)
      · have hd3 : decide (s0.f0 ≤ (c.said : Int)) = true := decide_eq_true hdue
        have hTC := told_cons { c with ss := s0 :: rest } x.s.clock rfl hdue
        have HW := Aside0.mk hW
        have HT := Aside0.mk hT
        have HLF := Aside0.mk hLf
        have HTC := Aside0.mk hTC
        have HSP := Aside0.mk hsp
        have HPP := Aside0.mk hP
        have HNB := Aside0.mk hnb
        have HBN := Aside0.mk hbn
        have HD2 := Aside0.mk D2
        have HD3 := Aside0.mk D3
        have HC4 := Aside0.mk hC4
        have HK4 := Aside0.mk hk4
        have HCC := Aside0.mk hc4
        clear hW hT hLf hTC hsp hP hnb hbn D2 D3 D4 hC4 hk4 hrel HI hdue hc4
        generalize hL : (s0 :: rest).length = L at *
        go_wp2
        go_quiet (fail)
        have m1 : (wr.drewN nq).cell? ⟨Bs, 7, none⟩ = some (.pointer (some ⟨bn, 0, none⟩)) := l1
        have m2 : (wr.drewN nq).cell? ⟨bn, 4, none⟩ = some (.slice (some ad) L c4) := l2
        have m3 : (wr.drewN nq).cell? ⟨ad.block, ad.off + 1, none⟩ = some (.string s0.f1) := hS1
        have m4 : (wr.drewN nq).cell? ⟨Bs, 5, none⟩ = some (.int .i64 x.s.clock) := blk_cell HSP.out.sp 5
        have m5 : (wr.drewN nq).cell? ⟨bn, 6, none⟩ = some (.int .i64 c.num) := blk_cell HBN.out 6
        have HSP2 := Aside0.mk (HSP.out.moved (W' := wr.drewN nq) (fun _ _ _ => rfl))
        have HW2 := Aside0.mk (HW.out.below (pw_below_drewN (Below.refl _ _) nq))
        have HB2 : Aside0 (Below wr.heap.size wr (wr.drewN nq)) := ⟨pw_below_drewN (Below.refl _ _) nq⟩
        clear l1 l2 l3 hS0 hS1 HSP HW
        generalize wr.drewN nq = X at *
        go_wp2_with fail
        refine (wpIn_wide (n := 0)).1 ?_
        refine region_anyHT (fun W' => Below X.heap.size X W' ∧ W'.cell? ⟨Bs, 7, none⟩ = some (.pointer (some ⟨bn, 0, none⟩)) ∧ W'.cell? ⟨bn, 4, none⟩ = some (.slice (some ad) L c4) ∧ W'.cell? ⟨ad.block, ad.off + 1, none⟩ = some (.string s0.f1) ∧ W'.cell? ⟨Bs, 5, none⟩ = some (.int .i64 x.s.clock) ∧ W'.cell? ⟨bn, 6, none⟩ = some (.int .i64 c.num)) [18] (by kernel_rfl) (⟨pw_below_drewN (Below.refl _ _) 1, m1, m2, m3, m4, m5⟩) (fun hHeld => ?_)
        refine anyHT_pure (fun _ => trivial) (by kernel_rfl) (i := 0) (oi := { dst := some 32, op := Op.move (Operand.tmp 1), type := 116, pos := "speaker.go:225", after := #[], guard := none }) (v := ?_) rfl (by kernel_rfl) (by kernel_rfl) (by kernel_rfl) (fun _ _ _ h => h) (Or.inl ⟨by rfl, ?_⟩) ?_
        rotate_left
        · (intro w _; go_simp <;> with_reducible rfl)
        try simp only [Act.put, List.setIfInBounds_toArray, List.set_cons_zero, List.set_cons_succ]
        refine anyHT_pure (fun _ => trivial) (by kernel_rfl) (i := 1) (oi := { dst := some 33, op := Op.move (Operand.tmp 0), type := 55, pos := "speaker.go:225", after := #[], guard := none }) (v := ?_) rfl (by kernel_rfl) (by kernel_rfl) (by kernel_rfl) (fun _ _ _ h => h) (Or.inl ⟨by rfl, ?_⟩) ?_
        rotate_left
        · (intro w _; go_simp <;> with_reducible rfl)
        try simp only [Act.put, List.setIfInBounds_toArray, List.set_cons_zero, List.set_cons_succ]
        refine anyHT_pure (fun _ => trivial) (by kernel_rfl) (i := 2) (oi := { dst := some 34, op := Op.move (Operand.tmp 0), type := 55, pos := "speaker.go:225", after := #[], guard := none }) (v := ?_) rfl (by kernel_rfl) (by kernel_rfl) (by kernel_rfl) (fun _ _ _ h => h) (Or.inl ⟨by rfl, ?_⟩) ?_
        rotate_left
        · (intro w _; go_simp <;> with_reducible rfl)
        try simp only [Act.put, List.setIfInBounds_toArray, List.set_cons_zero, List.set_cons_succ]
        refine anyHT_pure (fun _ => trivial) (by kernel_rfl) (i := 3) (oi := { dst := some 35, op := Op.nilCheck (Operand.tmp 34), type := 0, pos := "speaker.go:225", after := #[{ on := 2, ground := Ground.data }], guard := none }) (v := ?_) rfl (by kernel_rfl) (by kernel_rfl) (by kernel_rfl) (fun _ _ _ h => h) (Or.inl ⟨by rfl, ?_⟩) ?_
        rotate_left
        · (intro w _; go_simp <;> with_reducible rfl)
        try simp only [Act.put, List.setIfInBounds_toArray, List.set_cons_zero, List.set_cons_succ]
        refine anyHT_pure (fun _ => trivial) (by kernel_rfl) (i := 4) (oi := { dst := some 36, op := Op.fieldAddr 111 (Operand.tmp 35) 6, type := 0, pos := "speaker.go:225", after := #[{ on := 3, ground := Ground.data }], guard := none }) (v := ?_) rfl (by kernel_rfl) (by kernel_rfl) (by kernel_rfl) (fun _ _ _ h => h) (Or.inl ⟨by rfl, ?_⟩) ?_
        rotate_left
        · (intro w _; go_simp <;> with_reducible rfl)
        try simp only [Act.put, List.setIfInBounds_toArray, List.set_cons_zero, List.set_cons_succ]
        refine anyHT_take (fun _ => trivial) (by kernel_rfl) [17, 18] (i := 5) (oi := { dst := some 37, op := Op.load 107 (Operand.tmp 36), type := 107, pos := "speaker.go:225", after := #[{ on := 4, ground := Ground.data }], guard := none }) (v := ?_) rfl (by kernel_rfl) (by kernel_rfl) (by kernel_rfl) (by kernel_rfl) (by kernel_rfl) (by decide) (fun _ _ _ h => h) (Or.inl ⟨by rfl, ?_⟩) hHeld ?_
        rotate_left
        · (intro w hSw; (try dsimp only at hSw); go_simp <;> with_reducible rfl)
        try simp only [Act.put, List.setIfInBounds_toArray, List.set_cons_zero, List.set_cons_succ]
        refine anyHT_pure (fun _ => trivial) (by kernel_rfl) (i := 6) (oi := { dst := some 38, op := Op.move (Operand.tmp 0), type := 55, pos := "speaker.go:225", after := #[], guard := none }) (v := ?_) rfl (by kernel_rfl) (by kernel_rfl) (by kernel_rfl) (fun _ _ _ h => h) (Or.inl ⟨by rfl, ?_⟩) ?_
        rotate_left
        · (intro w _; go_simp <;> with_reducible rfl)
        try simp only [Act.put, List.setIfInBounds_toArray, List.set_cons_zero, List.set_cons_succ]
        refine anyHT_pure (fun _ => trivial) (by kernel_rfl) (i := 7) (oi := { dst := some 39, op := Op.nilCheck (Operand.tmp 38), type := 0, pos := "speaker.go:225", after := #[{ on := 6, ground := Ground.data }], guard := none }) (v := ?_) rfl (by kernel_rfl) (by kernel_rfl) (by kernel_rfl) (fun _ _ _ h => h) (Or.inl ⟨by rfl, ?_⟩) ?_
        rotate_left
        · (intro w _; go_simp <;> with_reducible rfl)
        try simp only [Act.put, List.setIfInBounds_toArray, List.set_cons_zero, List.set_cons_succ]
        refine anyHT_pure (fun _ => trivial) (by kernel_rfl) (i := 8) (oi := { dst := some 40, op := Op.fieldAddr 111 (Operand.tmp 39) 6, type := 0, pos := "speaker.go:225", after := #[{ on := 7, ground := Ground.data }], guard := none }) (v := ?_) rfl (by kernel_rfl) (by kernel_rfl) (by kernel_rfl) (fun _ _ _ h => h) (Or.inl ⟨by rfl, ?_⟩) ?_
        rotate_left
        · (intro w _; go_simp <;> with_reducible rfl)
        try simp only [Act.put, List.setIfInBounds_toArray, List.set_cons_zero, List.set_cons_succ]
        refine anyHT_take (fun _ => trivial) (by kernel_rfl) [10, 11, 12, 13, 14, 15, 16, 17, 18] (i := 9) (oi := { dst := some 41, op := Op.load 107 (Operand.tmp 40), type := 107, pos := "speaker.go:225", after := #[{ on := 8, ground := Ground.data }], guard := none }) (v := ?_) rfl (by kernel_rfl) (by kernel_rfl) (by kernel_rfl) (by kernel_rfl) (by kernel_rfl) (by decide) (fun _ _ _ h => h) (Or.inl ⟨by rfl, ?_⟩) hHeld ?_
        rotate_left
        · (intro w hSw; (try dsimp only at hSw); go_simp <;> with_reducible rfl)
        try simp only [Act.put, List.setIfInBounds_toArray, List.set_cons_zero, List.set_cons_succ]
        refine anyHT_pure (fun _ => trivial) (by kernel_rfl) (i := 10) (oi := { dst := some 42, op := Op.nilCheck (Operand.tmp 41), type := 0, pos := "speaker.go:225", after := #[{ on := 9, ground := Ground.data }], guard := none }) (v := ?_) rfl (by kernel_rfl) (by kernel_rfl) (by kernel_rfl) (fun _ _ _ h => h) (Or.inl ⟨by rfl, ?_⟩) ?_
        rotate_left
        · (intro w _; go_simp <;> with_reducible rfl)
        try simp only [Act.put, List.setIfInBounds_toArray, List.set_cons_zero, List.set_cons_succ]
        refine anyHT_pure (fun _ => trivial) (by kernel_rfl) (i := 11) (oi := { dst := some 43, op := Op.fieldAddr 122 (Operand.tmp 42) 0, type := 0, pos := "speaker.go:225", after := #[{ on := 10, ground := Ground.data }], guard := none }) (v := ?_) rfl (by kernel_rfl) (by kernel_rfl) (by kernel_rfl) (fun _ _ _ h => h) (Or.inl ⟨by rfl, ?_⟩) ?_
        rotate_left
        · (intro w _; go_simp <;> with_reducible rfl)
        try simp only [Act.put, List.setIfInBounds_toArray, List.set_cons_zero, List.set_cons_succ]
        refine anyHT_pure (fun _ => trivial) (by kernel_rfl) (i := 12) (oi := { dst := some 44, op := Op.fieldAddr 30 (Operand.tmp 43) 4, type := 0, pos := "speaker.go:225", after := #[{ on := 11, ground := Ground.data }], guard := none }) (v := ?_) rfl (by kernel_rfl) (by kernel_rfl) (by kernel_rfl) (fun _ _ _ h => h) (Or.inl ⟨by rfl, ?_⟩) ?_
        rotate_left
        · (intro w _; go_simp <;> with_reducible rfl)
        try simp only [Act.put, List.setIfInBounds_toArray, List.set_cons_zero, List.set_cons_succ]
        refine anyHT_take (fun _ => trivial) (by kernel_rfl) [14, 15, 16, 17, 18] (i := 13) (oi := { dst := some 45, op := Op.load 28 (Operand.tmp 44), type := 28, pos := "speaker.go:225", after := #[{ on := 12, ground := Ground.data }], guard := none }) (v := ?_) rfl (by kernel_rfl) (by kernel_rfl) (by kernel_rfl) (by kernel_rfl) (by kernel_rfl) (by decide) (fun _ _ _ h => h) (Or.inl ⟨by rfl, ?_⟩) hHeld ?_
        rotate_left
        · (intro w hSw; (try dsimp only at hSw); go_simp <;> with_reducible rfl)
        try simp only [Act.put, List.setIfInBounds_toArray, List.set_cons_zero, List.set_cons_succ]
        refine anyHT_pure (fun _ => trivial) (by kernel_rfl) (i := 14) (oi := { dst := some 46, op := Op.indexAddr 28 (Operand.tmp 45) (Operand.const (Value.int IntKind.i64 0)), type := 0, pos := "speaker.go:225", after := #[{ on := 13, ground := Ground.data }], guard := none }) (v := ?_) rfl (by kernel_rfl) (by kernel_rfl) (by kernel_rfl) (fun _ _ _ h => h) (Or.inl ⟨by rfl, ?_⟩) ?_
        rotate_left
        · (intro w _; go_simp <;> with_reducible rfl)
        try simp only [Act.put, List.setIfInBounds_toArray, List.set_cons_zero, List.set_cons_succ]
        refine anyHT_pure (fun _ => trivial) (by kernel_rfl) (i := 15) (oi := { dst := some 47, op := Op.fieldAddr 32 (Operand.tmp 46) 1, type := 0, pos := "speaker.go:225", after := #[{ on := 14, ground := Ground.data }], guard := none }) (v := ?_) rfl (by kernel_rfl) (by kernel_rfl) (by kernel_rfl) (fun _ _ _ h => h) (Or.inl ⟨by rfl, ?_⟩) ?_
        rotate_left
        · (intro w _; go_simp <;> with_reducible rfl)
        try simp only [Act.put, List.setIfInBounds_toArray, List.set_cons_zero, List.set_cons_succ]
        refine anyHT_take (fun _ => trivial) (by kernel_rfl) [17, 18] (i := 16) (oi := { dst := some 48, op := Op.load 9 (Operand.tmp 47), type := 9, pos := "speaker.go:225", after := #[{ on := 15, ground := Ground.data }], guard := none }) (v := ?_) rfl (by kernel_rfl) (by kernel_rfl) (by kernel_rfl) (by kernel_rfl) (by kernel_rfl) (by decide) (fun _ _ _ h => h) (Or.inl ⟨by rfl, ?_⟩) hHeld ?_
        rotate_left
        · (intro w hSw; (try dsimp only at hSw); go_simp <;> with_reducible rfl)
        try simp only [Act.put, List.setIfInBounds_toArray, List.set_cons_zero, List.set_cons_succ]
        refine anyHT_one (i := 17) (o := { dst := some 49, op := Op.call { callee := Callee.value (Operand.func 66), args := #[Operand.tmp 33, Operand.const (Value.int IntKind.i64 2), Operand.tmp 37, Operand.tmp 48], argTypes := #[55, 73, 107, 9] }, type := 75, pos := "speaker.go:225", after := #[{ on := 1, ground := Ground.data }, { on := 5, ground := Ground.data }, { on := 16, ground := Ground.data }], guard := none }) (by kernel_rfl) rfl (by rfl) (fun K hK => ?_)
        go_simp
        refine ⟨trivial, rfl, ?_⟩
        refine (callsIn_wide.2 (news_ok Bs bn 2 x.s.clock c.num s0.f1 _ hHeld.2.2.2.2.1 hHeld.2.2.2.2.2)).mono ?_
        rintro e w4 ⟨rfl, hb4⟩
        refine hK.out _ _ (fun _ hSw => ⟨below_trans' hSw.1 hb4, pw_cell_below hb4 hSw.2.1, pw_cell_below hb4 hSw.2.2.1, pw_cell_below hb4 hSw.2.2.2.1, pw_cell_below hb4 hSw.2.2.2.2.1, pw_cell_below hb4 hSw.2.2.2.2.2⟩) ?_
        replace hHeld : (fun (W' : World) => Below X.heap.size X W' ∧ W'.cell? ⟨Bs, 7, none⟩ = some (.pointer (some ⟨bn, 0, none⟩)) ∧ W'.cell? ⟨bn, 4, none⟩ = some (.slice (some ad) L c4) ∧ W'.cell? ⟨ad.block, ad.off + 1, none⟩ = some (.string s0.f1) ∧ W'.cell? ⟨Bs, 5, none⟩ = some (.int .i64 x.s.clock) ∧ W'.cell? ⟨bn, 6, none⟩ = some (.int .i64 c.num)) _ := (fun (hSw : (fun (W' : World) => Below X.heap.size X W' ∧ W'.cell? ⟨Bs, 7, none⟩ = some (.pointer (some ⟨bn, 0, none⟩)) ∧ W'.cell? ⟨bn, 4, none⟩ = some (.slice (some ad) L c4) ∧ W'.cell? ⟨ad.block, ad.off + 1, none⟩ = some (.string s0.f1) ∧ W'.cell? ⟨Bs, 5, none⟩ = some (.int .i64 x.s.clock) ∧ W'.cell? ⟨bn, 6, none⟩ = some (.int .i64 c.num)) _) => ⟨below_trans' hSw.1 hb4, pw_cell_below hb4 hSw.2.1, pw_cell_below hb4 hSw.2.2.1, pw_cell_below hb4 hSw.2.2.2.1, pw_cell_below hb4 hSw.2.2.2.2.1, pw_cell_below hb4 hSw.2.2.2.2.2⟩) hHeld
        clear hK K
        try simp only [Act.put, List.setIfInBounds_toArray, List.set_cons_zero, List.set_cons_succ]
        refine anyHT_one (i := 18) (o := { dst := some 50, op := Op.call { callee := Callee.value (Operand.tmp 32), args := #[Operand.tmp 49], argTypes := #[75] }, type := 0, pos := "speaker.go:225", after := #[{ on := 0, ground := Ground.data }, { on := 17, ground := Ground.data }, { on := 17, ground := Ground.chain }], guard := none }) (by kernel_rfl) rfl (by rfl) (fun K hK => ?_)
        go_simp
        refine ⟨trivial, rfl, ?_⟩
        refine (callsIn_wide.2 (tell_ok c1 base Bn ns' ⟨2, x.s.clock, c.num, s0.f1⟩ w4 (HW2.out.sys.ne.moved (fun b _ hl => hHeld.1.block b hl)) (by omega) (Nat.le_trans hbase (Nat.le_trans HW2.out.keep.size hHeld.1.size)))).mono ?_
        rintro e w5 ⟨⟨u5, rfl⟩, cls2, hc2, hN5, hk5⟩
        refine hK.out _ _ (fun h => absurd (by decide) h) ?_
        clear hK K
        try simp only [Act.put, List.setIfInBounds_toArray, List.set_cons_zero, List.set_cons_succ]
        refine anyHT_done (by kernel_rfl) ?_ _
        have hX4 : Below X.heap.size X w4 := hHeld.1
        have hS5 := spin_tell hk (HSP2.out.moved (fun b _ hl => hX4.block b hl)) hc2 hk5
        have hmv : ∀ b, cls2 b = k → b < w4.heap.size → w5.heap[b]? = w4.heap[b]? := fun b hb hl => hk5.block b (by rw [← hc2 b hl, hb]; exact hk.2) hl
        have hX0 := below_trans' HB2.out hX4
        have hP4 := (HPP.out.moved (fun b _ hl => hX0.block b hl)).again hc2
        have hP5 := hP4.moved hmv
        have hBN4 := pw_blk_below HBN.out hX0
        have hBN5 := (hmv bn hP4.cl (blk_lt hBN4)).trans hBN4
        have hW5 : Went cls cls2 k base w w5 Bs Bl Br Bg Bn ⟨{ x.s with cur := some { c with ss := s0 :: rest } }, x.g, ns' ++ [⟨2, x.s.clock, c.num, s0.f1⟩]⟩ :=
          (went_tell (cls := cls) HW2.out.cl (HW2.out.sys.le.moved (fun b _ hl => hX4.block b hl)) (HW2.out.keep.trans (.of_below hX4)) hc2 ⟨_, _, _, hS5⟩ hN5 hk5)
        have hadb : cls2 ad.block = k ∧ ∃ cells, w5.heap[ad.block]? = some (.cells cells 32) := by
          obtain ⟨e1, cells, e2⟩ := HK4.out ad rfl (by have := HLR.out; omega)
          have e3 := pw_blk_below e2 hX0
          have e4 : cls2 ad.block = k := (hc2 _ (blk_lt e3)).trans e1
          exact ⟨e4, cells, (hmv _ e4 (blk_lt e3)).trans e3⟩
        have hC5 : Kd.C k32 w5 (some ad) L (s0 :: rest) := by
          have h1 := Kd.C_below HC4.out hX0
          refine C_moved plain_32 h1 (fun ad' e _ => ?_)
          injection e with e
          subst e
          obtain ⟨e1, cells, e2⟩ := HK4.out ad rfl (by have := HLR.out; omega)
          exact hmv _ hadb.1 (blk_lt (pw_blk_below e2 hX0))
        obtain ⟨Aq, hAq⟩ : ∃ Aq, (if c4 = (1 : Int).toNat then some ad else (some ad).map (·.add ((1 : Int).toNat * 2))) = Aq := ⟨_, rfl⟩
        obtain ⟨cq, hcq⟩ : ∃ cq, c4 - 1 = cq := ⟨_, rfl⟩
        have hcutL : ∀ W : World, (Instr.slice 28 (.slice (some ad) L c4) (some (.int .i64 1)) none none).run Try.prog W = .ok (.slice Aq rest.length cq) W := by
          intro W'
          obtain ⟨i, hi, hz⟩ := Option.map_eq_some_iff.1 info32
          simp only [Prod.mk.injEq] at hz
          have hLL : L = rest.length + 1 := by rw [← hL]; rfl
          rw [cut_from 28 32 .i64 Try.underlying28 hi 2 hz.2.1 (some ad) L c4 1 (by omega) (by omega) W', hAq, ← hcq]
          rw [show L - (1 : Int).toNat = rest.length from by simp; omega, show c4 - (1 : Int).toNat = c4 - 1 from rfl]
        have hCq : Kd.C k32 w5 Aq rest.length rest ∧ ∀ ad', Aq = some ad' → ad'.block = ad.block := by
          constructor
          · have := Kd.C_drop (m := 1) (c := c4) (hL ▸ hC5) (by simp) (by rw [hL]; exact HCC.out)
            rw [← hAq]
            exact this
          · intro ad' e
            rw [← hAq] at e
            split at e
            · injection e with e; rw [e]
            · injection e with e; rw [← e]; exact add_block _ _
        have hcq2 : rest.length ≤ cq := by rw [← hcq]; have := HCC.out; rw [← hL] at this; simp at this; omega
        obtain ⟨w2, w3, w4', hb5, E2, E3, E4⟩ := hP5.ex
        have hZ5 := blk_put hBN5 4 (.slice Aq rest.length cq) rfl
        have HNEW : Aside0 (Went cls cls2 k base w (w5.setCell ⟨bn, 4, none⟩ (.slice Aq rest.length cq)) Bs Bl Br Bg Bn ⟨{ x.s with cur := some { c with ss := rest } }, x.g, ns' ++ [⟨2, x.s.clock, c.num, s0.f1⟩]⟩) := ⟨by
          refine hW5.curSet (c := { c with ss := s0 :: rest }) (c' := { c with ss := rest }) hk hS5 hBN5 hP5.cl HNB.out 4 _ rfl rfl (f0 := f0) (f1 := f1) (f5 := f5) ?_
          have hfr : ∀ (b : Nat) (cells : Array Value) (e : TypeId), w5.heap[b]? = some (.cells cells e (0, 0)) → e ≠ 122 → (w5.setCell ⟨bn, 4, none⟩ (.slice Aq rest.length cq)).heap[b]? = some (.cells cells e (0, 0)) := fun b cells e hb he => blk_far hb (p := ⟨bn, 4, none⟩) (blk_ne hb hBN5 he) _
          have ev : (#[.int .i64 f0, .int .i64 f1, v2, v3, .slice (some ad) L c4, .int .i64 f5, .int .i64 c.num, .int .i64 0] : Array Value) = #[.int .i64 f0, .int .i64 f1, w2, w3, w4', .int .i64 f5, .int .i64 c.num, .int .i64 0] := by
            have := hBN5.symm.trans hb5
            injection this with this
            injection this with this
          have e2 : v2 = w2 := by have := congrArg (fun a : Array Value => a[2]?) ev; simpa using this
          have e3 : v3 = w3 := by have := congrArg (fun a : Array Value => a[3]?) ev; simpa using this
          subst e2 e3
          refine ⟨hP5.cl, v2, v3, _, hZ5, E2.step (plain_int _) (fun b c _ h => hfr b c 3 h (by decide)), E3.step (plain_int _) (fun b c _ h => hfr b c 3 h (by decide)), ⟨Aq, cq, rfl, hcq2, ?_, ?_⟩⟩
          · refine C_moved plain_32 hCq.1 (fun ad' e _ => ?_)
            obtain ⟨_, cells, e2⟩ := hadb
            rw [hCq.2 ad' e, hfr _ _ _ e2 (by decide), e2]
          · intro ad' e _
            obtain ⟨e1, cells, e2⟩ := hadb
            rw [hCq.2 ad' e]
            exact ⟨e1, cells, hfr _ _ _ e2 (by decide)⟩⟩
        have r1 : w5.cell? ⟨Bs, 7, none⟩ = some (.pointer (some ⟨bn, 0, none⟩)) := blk_cell hS5.sp 7
        have r2 : w5.cell? ⟨bn, 4, none⟩ = some (.slice (some ad) L c4) := blk_cell hBN5 4
        have r3 : w5.frozen? ⟨bn, 4, none⟩ = false := blk_frozen hBN5 4
        have HLL : Aside0 (L = rest.length + 1) := ⟨by rw [← hL]; rfl⟩
        clear hHeld m1 m2 m3 m4 m5 hX4 hS5 hmv hX0 hP4 hP5 hBN4 hBN5 hW5 hadb hC5 hAq hcq hCq hcq2 hb5 E2 E3 E4 hZ5 hN5 hk5 hc2 HW2 HSP2 HPP HBN HD2 HD3 HC4 HK4 HCC HB2 hb4
        go_wp2
        go_region
        go_wp2
        go_roundg rest.length
        case measure => have := HLL.out; omega
        case rel =>
          refine ⟨⟨cls2, rest, ns' ++ [⟨2, x.s.clock, c.num, s0.f1⟩], HNEW.out.below (below_drew (Below.refl _ _)), Nat.le_refl _, ?_, ?_, ?_⟩⟩
          · rw [← HT.out, HTC.out.1]; simp
          · rw [← HLF.out, HTC.out.2]
          · have := HLL.out; simp; omega
      · have hd3 : decide (s0.f0 ≤ (c.said : Int)) = false := decide_eq_false hdue
        have HW : Aside0 (Went cls c1 k base w wr Bs Bl Br Bg Bn ⟨{ x.s with cur := some { c with ss := leftF c } }, x.g, x.ns ++ toldF c x.s.clock⟩) := ⟨by
          have h1 := told_not { c with ss := s0 :: rest } x.s.clock rfl hdue
          rw [h1.1, List.append_nil] at hT
          rw [h1.2] at hLf
          rw [← hT, ← hLf]
          exact hW⟩
        clear hW hT hLf hsp hP hnb hbn D2 D3 D4 hC4 hk4 hrel HI hdue hrm hc4
        generalize hL : (s0 :: rest).length = L at *
        go_wp2
        go_quiet (fail)
        go_wp2
        go_end0
        exact ⟨⟨_, rfl⟩, c1, HW.out.below (pw_below_drewN (Below.refl _ _) _)⟩
end Go.Proofs.Ytoodagohkepcpaa
