/- The next samples and their news. -/
import Derived.Test.YtoodagohkepcpaaE1
namespace Go.Proofs.Ytoodagohkepcpaa
open Go.RowKit Go.Shelf Go.Proofs.YtoodagohkepcpaaW.PrintWords
set_option maxRecDepth 100000

/-! ### other classes, the same memory -/
section
variable {cls cls' : Nat → Nat} {k : Nat} {W : World}
theorem Dat.re {α : Type} {d : Kd α} {e : TypeId} {v : Value} {xs : List α} (h : Dat d e cls k W v xs) (hc : ∀ b, b < W.heap.size → cls b = k → cls' b = k) : Dat d e cls' k W v xs := by
  obtain ⟨A, c, e, hc', hC, hk⟩ := h.ex
  refine ⟨A, c, e, hc', hC, fun ad ha hn => ?_⟩
  obtain ⟨h1, cells, h2⟩ := hk ad ha hn
  exact ⟨hc _ (blk_lt h2) h1, cells, h2⟩
theorem PieceAt.re {b : Nat} {p : S30} {num got : Int} (h : PieceAt cls k W b p num got) (hc : ∀ b, b < W.heap.size → cls b = k → cls' b = k) : PieceAt cls' k W b p num got := by
  obtain ⟨v2, v3, v4, h1, h2, h3, h4⟩ := h.ex
  exact ⟨hc b (blk_lt h1) h.cl, v2, v3, v4, h1, h2.re hc, h3.re hc, h4.re hc⟩
theorem SpAt.re {Bs Bl Br Bg : Nat} {s : Sp} (h : SpAt cls k W Bs Bl Br Bg s) (hc : ∀ b, b < W.heap.size → cls b = k → cls' b = k) : SpAt cls' k W Bs Bl Br Bg s := by
  obtain ⟨nodes, nowv, said, h⟩ := h
  obtain ⟨c1, c2, c3, c4⟩ := h.kl
  refine ⟨nodes, nowv, said, h.sp, h.li, h.ro, h.chain, h.pieces.imp (fun _ _ _ _ _ hp => hp.re hc), h.nodup, h.pnodup, ⟨hc Bs (blk_lt h.sp) c1, hc Bl (blk_lt h.li) c2, hc Br (blk_lt h.ro) c3, fun n hn => hc n.1 (h.chain.lt n hn) (c4 n hn)⟩, ?_⟩
  have hcu := h.cur
  cases hs : s.cur with
  | none => trivial
  | some c =>
    rw [hs] at hcu
    obtain ⟨bn, f0, f1, f5, e1, e2, e3, e4⟩ := hcu
    exact ⟨bn, f0, f1, f5, e1, e2, e3.re hc, e4⟩
theorem LedAt.re {Bg : Nat} {g : Gr} (h : LedAt cls W Bg g) (hc : ∀ b, b < W.heap.size → cls b = 3 → cls' b = 3) : LedAt cls' W Bg g := by
  obtain ⟨Ba, c, rest, h1, h2, h3, h4⟩ := h
  exact ⟨Ba, c, rest, h1, h2, h3, hc Bg (blk_lt h1) h4.1, hc Ba (blk_lt h2) h4.2⟩
end
/-- Only the speaker's and the ledger's blocks. -/
def sel (k : Nat) (cls : Nat → Nat) (b : Nat) : Nat := if cls b = k then k else if cls b = 3 then 3 else 0
theorem sel_k {k : Nat} {cls : Nat → Nat} {b : Nat} (h : cls b = k) : sel k cls b = k := if_pos h
theorem sel_3 {k : Nat} (hk : k ≠ 3) {cls : Nat → Nat} {b : Nat} (h : cls b = 3) : sel k cls b = 3 := by unfold sel; rw [if_neg (by omega), if_pos h]
theorem sel_mine {k : Nat} (hk : k ≠ 0 ∧ k ≠ 3 ∧ k ≠ 4) {cls : Nat → Nat} {b : Nat} (h1 : cls b ≠ k) (h2 : cls b ≠ 3) : sel k cls b = 0 := by unfold sel; rw [if_neg h1, if_neg h2]
/-- What lies in memory while samples are pulled. -/
structure PI (c0 : Nat → Nat) (k base : Nat) (W0 : World) (Bs Bl Br Bg Bn : Nat) (y : St) (v : Value) (l : List Int) (wr : World) : Prop where
  ex : ∃ c1, Went c0 c1 k base W0 wr Bs Bl Br Bg Bn y ∧ wr.ownsRow W0.heap.size 3 1 v l.length (Flat eI l) ∧ ∀ b, v.ownBlock = some b → c1 b = 0
theorem PI.step {c0 c1 c2 : Nat → Nat} {k base : Nat} {W0 X X' : World} {Bs Bl Br Bg Bn : Nat} {y y' : St} {v : Value} {l : List Int} (hk : k ≠ 0) (h1 : Went c0 c1 k base W0 X Bs Bl Br Bg Bn y) (h2 : X.ownsRow W0.heap.size 3 1 v l.length (Flat eI l)) (h3 : ∀ b, v.ownBlock = some b → c1 b = 0)
    (h4 : Went c1 c2 k base X X' Bs Bl Br Bg Bn y') : PI c0 k base W0 Bs Bl Br Bg Bn y' v l X' := by
  refine ⟨c2, h1.trans h4, own_move h2 (fun b hb => h4.keep.block b (fun hm => ?_) (own_lt h2 b hb)), fun b hb => (h4.cl b (own_lt h2 b hb)).trans (h3 b hb)⟩
  have h0 := h3 b hb
  rcases hm with hm | hm | hm <;> omega
/-- A row that is none of the speaker's has grown. -/
theorem Went.grown {c0 c1 : Nat → Nat} {k base : Nat} {W0 X w1 : World} {Bs Bl Br Bg Bn : Nat} {y : St} {v : Value} {xs : List Value} {n : Nat} (hk : k ≠ 0) (h : Went c0 c1 k base W0 X Bs Bl Br Bg Bn y) (h2 : X.ownsRow W0.heap.size 3 1 v n xs) (h3 : ∀ b, v.ownBlock = some b → c1 b = 0) (hg : X.grownBy w1 v.ownBlock) :
    Went c0 (newCls c1 X.heap.size 0) k base W0 w1 Bs Bl Br Bg Bn y := by
  have hold := newCls_old c1 X.heap.size 0
  refine ⟨fun b hb => (hold b (Nat.lt_of_lt_of_le hb h.keep.size)).trans (h.cl b hb), (h.sys.again hold).moved (fun b hm hl => hg.block b hl (fun e => ?_)), ?_⟩
  · have h0 := h3 b e.symm
    unfold Mine at hm
    rw [hold b hl] at hm
    rcases hm with hm | hm | hm <;> omega
  · refine ⟨hg.os.trans h.keep.os, hg.tape.trans h.keep.tape, hg.output.trans h.keep.output, Nat.le_trans h.keep.size hg.size, fun b hm hl => ?_⟩
    exact (hg.block b (Nat.lt_of_lt_of_le hl h.keep.size) (fun e => by have := own_base h2 b e.symm; omega)).trans (h.keep.block b hm hl)

/-- The loop that settles: whether once more, and what is. -/
structure MidI (c0 : Nat → Nat) (k base : Nat) (W0 : World) (Bs Bl Br Bg Bn : Nat) (R : Nat) (t : Int) (y0 : St) (v : Value) (l : List Int) (gg : Nat) (a : Bool) (wr : World) : Prop where
  ex : ∃ y, PI c0 k base W0 Bs Bl Br Bg Bn y v l wr ∧ Fine R t y ∧ (a = true → settled y = settled y0 ∧ weight y + 1 ≤ gg) ∧ (a = false → y = settled y0)

set_option maxHeartbeats 16000000 in
theorem Pull_ok (cls : Nat → Nat) (k : Nat) (w : World) (Bs Bl Br Bg : Nat) (s : Sp) (g : Gr) (n : Nat) (hk : k ≠ 0 ∧ k ≠ 3 ∧ k ≠ 4) (hS : SpAt cls k w Bs Bl Br Bg s) (hL : LedAt cls w Bg g) (hF : Fine 1000000 s.clock ⟨s, g, []⟩) (hn : n ≤ 100000) (hc : 0 ≤ s.clock ∧ s.clock + n ≤ 1099511627776) :
    Calls Try.prog 21 #[.pointer (some ⟨Bs, 0, none⟩), .int .i64 (n : Int)] w fun e w' => ∃ v vn, e = .returned (.tuple #[v, vn, .int .i64 0]) ∧
      w'.ownsRow w.heap.size 3 1 v n (Flat eI (pullF n ⟨s, g, []⟩).1) ∧ w'.ownsRow w.heap.size 75 4 vn (pullF n ⟨s, g, []⟩).2.ns.length (Flat e75 (pullF n ⟨s, g, []⟩).2.ns) ∧
      ∃ cls', (∀ b, b < w.heap.size → cls' b = cls b) ∧ SpAt cls' k w' Bs Bl Br Bg (pullF n ⟨s, g, []⟩).2.s ∧ LedAt cls' w' Bg (pullF n ⟨s, g, []⟩).2.g ∧ Keeps (fun b => cls b ≠ k ∧ cls b ≠ 3) w w' ∧ (∀ b, v.ownBlock = some b ∨ vn.ownBlock = some b → cls' b = 0) := by
  obtain ⟨nodes, nowv, said, hsp⟩ := id hS
  have HR := Aside0.mk (ready_sp Bs Bl w hsp.sp rfl)
  have HW := Aside0.mk (within_yes (n : Int) 0 100000 (by omega))
  have c5 : w.cell? ⟨Bs, 5, none⟩ = some (.int .i64 s.clock) := blk_cell hsp.sp 5
  have hbs := blk_lt hsp.sp
  obtain ⟨k0, k1⟩ := hc
  have hd : decide (s.clock + (n : Int) > 1099511627776) = false := decide_eq_false (by omega)
  have HS := Aside0.mk hS
  have HL := Aside0.mk hL
  have HF := Aside0.mk hF
  clear hsp hS hL hF
  go_enter Try.func21, Try.ntmps21
  go_wp2_with fail
  refine HR.out.mono ?_
  rintro e w1 ⟨rfl, q1, rfl⟩
  go_wp2_with fail
  refine (HW.out _).mono ?_
  rintro e w1 ⟨rfl, q2, rfl⟩
  go_wp2_with fail
  have hB0 : Below w.heap.size w (((w.drewN (q1 + q2)).alloc (.cells #[.slice none 0 0] 43)).alloc (.cells #[.func (.func 44) #[.pointer (some ⟨Bs, 0, none⟩)] #[], .func (.func 45) #[.pointer (some ⟨Bs, 0, none⟩)] #[]] 117)) := below_alloc (below_alloc (pw_below_drewN (Below.refl _ _) _) _) _
  have hbn : (((w.drewN (q1 + q2)).alloc (.cells #[.slice none 0 0] 43)).alloc (.cells #[.func (.func 44) #[.pointer (some ⟨Bs, 0, none⟩)] #[], .func (.func 45) #[.pointer (some ⟨Bs, 0, none⟩)] #[]] 117)).heap[w.heap.size]? = some (.cells #[.slice none 0 0] 43) := blk_alloc (blk_new' rfl _) _
  have hbt : (((w.drewN (q1 + q2)).alloc (.cells #[.slice none 0 0] 43)).alloc (.cells #[.func (.func 44) #[.pointer (some ⟨Bs, 0, none⟩)] #[], .func (.func 45) #[.pointer (some ⟨Bs, 0, none⟩)] #[]] 117)).heap[w.heap.size + 1]? = some (.cells #[.func (.func 44) #[.pointer (some ⟨Bs, 0, none⟩)] #[], .func (.func 45) #[.pointer (some ⟨Bs, 0, none⟩)] #[]] 117) := blk_new' (by simp) _
  have hsz : (((w.drewN (q1 + q2)).alloc (.cells #[.slice none 0 0] 43)).alloc (.cells #[.func (.func 44) #[.pointer (some ⟨Bs, 0, none⟩)] #[], .func (.func 45) #[.pointer (some ⟨Bs, 0, none⟩)] #[]] 117)).heap.size = w.heap.size + 2 := by simp
  generalize (((w.drewN (q1 + q2)).alloc (.cells #[.slice none 0 0] 43)).alloc (.cells #[.func (.func 44) #[.pointer (some ⟨Bs, 0, none⟩)] #[], .func (.func 45) #[.pointer (some ⟨Bs, 0, none⟩)] #[]] 117)) = W0 at *
  obtain ⟨c0, hc0⟩ : ∃ c0 : Nat → Nat, ∀ b, c0 b = if b < w.heap.size then sel k cls b else if b = w.heap.size then 4 else 0 := ⟨_, fun _ => rfl⟩
  have hS0 : SpAt c0 k W0 Bs Bl Br Bg s := (HS.out.re (fun b hl hb => by rw [hc0, if_pos hl]; exact sel_k hb)).moved (fun b hb hl => hB0.block b hl)
  have hL0 : LedAt c0 W0 Bg g := (HL.out.re (fun b hl hb => by rw [hc0, if_pos hl]; exact sel_3 hk.2.1 hb)).moved (fun b hb hl => hB0.block b hl)
  have hN0 : NewsAt c0 w.heap.size W0 w.heap.size [] := ⟨.slice none 0 0, hbn, own_nil _ _ _ _, by rw [hc0, if_neg (by omega), if_pos rfl], fun b hb => by simp [Value.ownBlock] at hb⟩
  have HW0 := Aside0.mk (Went.refl (cls := c0) (k := k) (base := w.heap.size) (W := W0) (Bs := Bs) (Bl := Bl) (Br := Br) (Bg := Bg) (Bn := w.heap.size) (x := ⟨s, g, []⟩) ⟨hS0, hL0, hN0⟩)
  have HBT : Aside0 (∀ X : World, Keeps (fun b => ¬ Mine c0 k b) W0 X → X.heap[w.heap.size + 1]? = some (.cells #[.func (.func 44) #[.pointer (some ⟨Bs, 0, none⟩)] #[], .func (.func 45) #[.pointer (some ⟨Bs, 0, none⟩)] #[]] 117)) := ⟨fun X hX => by
    refine (hX.block _ (fun hm => ?_) (by omega)).trans hbt
    have h0 : c0 (w.heap.size + 1) = 0 := by rw [hc0, if_neg (by omega), if_neg (by omega)]
    rcases hm with hm | hm | hm <;> omega⟩
  have HB0 := Aside0.mk hB0
  have HC0 := Aside0.mk hc0
  have HSZ := Aside0.mk hsz
  generalize hx0 : (⟨s, g, []⟩ : St) = x0 at *
  have HX0 := Aside0.mk hx0
  clear hB0 hbn hbt hS0 hL0 hN0 c5 hd HR HW HS HL hc0 hsz hx0
  go_loopg [7, 11, 37] n (fun gg s7 _ s37 wr => ∃ j : Nat, j ≤ n ∧ n - j ≤ gg ∧ s37 = .int .i64 j ∧ Aside0 (PI c0 k w.heap.size W0 Bs Bl Br Bg w.heap.size (pullF j x0).2 s7 (pullF j x0).1 wr))
  case atStart => exact ⟨0, Nat.zero_le _, by omega, rfl, ⟨⟨c0, HW0.out, own_nil _ _ _ _, fun b hb => by simp [Value.ownBlock] at hb⟩⟩⟩
  case round =>
    obtain ⟨j, hj, hg, rfl, HP⟩ := hrel
    by_cases hlt : j < n
    · have hltz : (j : Int) < (n : Int) := by omega
      have HFj := Aside0.mk (HF.out.pull j)
      have HPJ : Aside0 (pullF (j + 1) x0 = ((pullF j x0).1 ++ [(hearF (settled (pullF j x0).2)).1], tickF (hearF (settled (pullF j x0).2)).2)) := ⟨rfl⟩
      have hlen1 : (pullF j x0).1.length = j := pull_length x0 j
      have HLEN1 := Aside0.mk hlen1
      obtain ⟨wo, rfl⟩ : ∃ wo : World, wo = wr := ⟨_, rfl⟩
      clear hlen1
      have hclk : (0 : Int) ≤ s.clock + (j : Int) ∧ s.clock + (j : Int) < 1099511627776 := by omega
      have HCLK := Aside0.mk hclk
      have hR : 1000000 + j ≤ 1000000000 := by omega
      clear hclk
      generalize s.clock + (j : Int) = tj at *
      generalize hR' : 1000000 + j = Rj at *
      clear hR'
      generalize pullF j x0 = a0 at *
      go_wp2
      go_loopg [11] (weight a0.2 + 1) (fun gg s11 wr => ∃ a : Bool, s11 = .bool a ∧ Aside0 (MidI c0 k w.heap.size W0 Bs Bl Br Bg w.heap.size Rj tj a0.2 u7 a0.1 gg a wr))
      case atStart => exact ⟨true, rfl, ⟨⟨a0.2, HP.out, HFj.out, fun _ => ⟨rfl, Nat.le_refl _⟩, fun h => by cases h⟩⟩⟩
      case round =>
        obtain ⟨a, rfl, HM⟩ := hrel
        cases a with
        | true =>
          obtain ⟨y, hPI, hFy, hyt, _⟩ := HM.out.ex
          obtain ⟨hy1, hy2⟩ := hyt rfl
          have HPI := Aside0.mk hPI
          have HFY := Aside0.mk hFy
          have HY1 := Aside0.mk hy1
          clear hPI hFy hyt hy1 HM HP HFj HPJ
          go_wp2
          go_loopg [11, 42] 2 (fun gg s11 s42 wr => (s42 = .int .i64 0 ∧ s11 = .bool false ∧ 2 ≤ gg ∧ Aside0 (PI c0 k w.heap.size W0 Bs Bl Br Bg w.heap.size y u7 a0.1 wr)) ∨
            (s42 = .int .i64 1 ∧ s11 = .bool (beginF y).1 ∧ 1 ≤ gg ∧ Aside0 (PI c0 k w.heap.size W0 Bs Bl Br Bg w.heap.size (beginF y).2 u7 a0.1 wr)) ∨ (s42 = .int .i64 2 ∧ s11 = .bool (roundF y).1 ∧ Aside0 (PI c0 k w.heap.size W0 Bs Bl Br Bg w.heap.size (roundF y).2 u7 a0.1 wr)))
          case atStart => exact .inl ⟨rfl, rfl, Nat.le_refl _, HPI⟩
          case round =>
            rcases hrel with ⟨rfl, rfl, hg2, HPX⟩ | ⟨rfl, rfl, hg2, HPX⟩ | ⟨rfl, rfl, HPX⟩
            · obtain ⟨c1, hW, ho, hcl⟩ := HPX.out.ex
              have st0 := blk_cell (HBT.out _ hW.keep) 0
              have HN := Aside0.mk (begin_any c1 k w.heap.size _ Bs Bl Br Bg w.heap.size y hk.2 hW.sys HFY.out hR HCLK.out (Nat.le_trans (by have := HSZ.out; omega) hW.keep.size))
              have HW := Aside0.mk hW
              have HO := Aside0.mk ho
              have HCL := Aside0.mk hcl
              clear hW ho hcl HPX
              go_wp2_with fail
              refine HN.out.mono ?_
              rintro e w3 ⟨rfl, c2, hW2⟩
              have HPN := Aside0.mk (PI.step hk.1 HW.out HO.out HCL.out hW2)
              clear hW2 HN HW HO HCL st0
              generalize hbv : (beginF y).1 = bv at *
              have HBV := Aside0.mk hbv
              clear hbv
              cases bv
              all_goals
                go_wp2
                go_roundg 1
                case measure => omega
                case rel => exact .inr (.inl ⟨rfl, rfl, Nat.le_refl _, HPN⟩)
            · obtain ⟨c1, hW, ho, hcl⟩ := HPX.out.ex
              have st0 := blk_cell (HBT.out _ hW.keep) 1
              have HN := Aside0.mk (end_any c1 k w.heap.size _ Bs Bl Br Bg w.heap.size (beginF y).2 hk.2 hW.sys HFY.out.begin hR (Nat.le_trans (by have := HSZ.out; omega) hW.keep.size))
              have HW := Aside0.mk hW
              have HO := Aside0.mk ho
              have HCL := Aside0.mk hcl
              clear hW ho hcl HPX
              have hrf : (roundF y).1 = ((endF (beginF y).2).1 || (beginF y).1) := rfl
              have HRF := Aside0.mk hrf
              clear hrf
              generalize hbb : (beginF y).1 = bb at *
              go_wp2_with fail
              refine HN.out.mono ?_
              rintro e w3 ⟨rfl, c2, hW2⟩
              have HPN : Aside0 (PI c0 k w.heap.size W0 Bs Bl Br Bg w.heap.size (roundF y).2 u7 a0.1 w3) := ⟨PI.step hk.1 HW.out HO.out HCL.out hW2⟩
              clear hW2 HN HW HO HCL st0
              generalize hbv : (endF (beginF y).2).1 = bv at *
              generalize (roundF y).1 = rv at *
              have HBB := Aside0.mk hbb
              have HBV := Aside0.mk hbv
              clear hbv hbb
              cases bv
              all_goals
                go_wp2
                go_roundg 0
                case measure => omega
                case rel => exact .inr (.inr ⟨rfl, by rw [HRF.out]; simp, HPN⟩)
            · generalize hrv : (roundF y).1 = rv at *
              have HRV := Aside0.mk hrv
              clear hrv
              cases rv with
              | true =>
                go_wp2
                go_roundg (weight (roundF y).2 + 1)
                case measure => have := round_weight HRV.out; omega
                case rel => exact ⟨true, rfl, ⟨⟨(roundF y).2, HPX.out, HFY.out.begin.end_, fun _ => ⟨(settled_again HRV.out).symm.trans HY1.out, Nat.le_refl _⟩, fun h => by cases h⟩⟩⟩
              | false =>
                go_wp2
                go_roundg 0
                case measure => omega
                case rel => exact ⟨false, rfl, ⟨⟨(roundF y).2, HPX.out, HFY.out.begin.end_, fun h => (by cases h), fun _ => (settled_rest (by rw [HRV.out]; decide)).symm.trans HY1.out⟩⟩⟩
        | false =>
          obtain ⟨y, hPI, hFy, _, hyf⟩ := HM.out.ex
          have hy := hyf rfl
          subst hy
          obtain ⟨c1, hW, ho, hcl⟩ := hPI.ex
          have HN := Aside0.mk (hear_any c1 k w.heap.size _ Bs Bl Br Bg w.heap.size (settled a0.2) hk.2 hW.sys hFy hR (settled_cur a0.2) (Nat.le_trans (by have := HSZ.out; omega) hW.keep.size))
          have HFH := Aside0.mk (hFy.hear (settled_cur a0.2))
          have HW := Aside0.mk hW
          have HO := Aside0.mk ho
          have HCL := Aside0.mk hcl
          clear hPI hFy hyf hW ho hcl HM HP HFj
          generalize hearF (settled a0.2) = hr at *
          obtain ⟨hv, hx⟩ := hr
          dsimp only at *
          go_wp2_with fail
          refine HN.out.mono ?_
          rintro e w3 ⟨rfl, c2, hW2⟩
          obtain ⟨c3, hW3, ho3, hcl3⟩ := (PI.step hk.1 HW.out HO.out HCL.out hW2).ex
          have HW3 := Aside0.mk hW3
          have HO3 := Aside0.mk ho3
          have HCL3 := Aside0.mk hcl3
          have hs3 := hW3.keep.size
          clear hW2 hW3 ho3 hcl3 HN HW HO HCL
          go_wp2_with (at_builtin; refine append_list rfl (.tmp 53) (.tmp 57) 22 3 (.int .i64 0) 1 8 rfl Try.underlying22 info3 rfl (by decide) (by decide) W0.heap.size _ a0.1.length (Flat eI a0.1) (some ⟨_, 0, none⟩) 1 1 (Flat eI [hv]) rfl rfl (pw_own_below HO3.out ?ownb) rfl (Cells.new' ?newb _ #[.int .i64 hv] 3 1) (Flat_mem eI_one) ?bytes ?base ?_)
          try (case newb => first | exact rfl | (simp; done))
          case ownb => exact below_alloc (Below.refl _ _) _
          case bytes => have := HLEN1.out; omega
          case base => (try simp); omega
          intro u1 w4 hA
          have hWX := HW3.out.below (below_alloc (Below.refl _ _) (.cells #[.int .i64 hv] 3))
          have hoX := pw_own_below HO3.out (below_alloc (Below.refl _ _) (.cells #[.int .i64 hv] 3))
          have hW4 := hWX.grown hk.1 hoX HCL3.out hA.grown
          have hown := hA.own
          rw [← Flat_append] at hown
          have hcl4 : ∀ b, u1.ownBlock = some b → newCls c3 (w3.alloc (.cells #[.int .i64 hv] 3)).heap.size 0 b = 0 := by
            intro b hb
            rcases hA.place with h | h
            · rw [h] at hb
              rw [newCls_old _ _ _ b (own_lt hoX b hb)]
              exact HCL3.out b hb
            · rw [h] at hb
              injection hb with hb
              exact newCls_new _ _ _ (by rw [← hb]; exact Nat.le_refl _)
          generalize newCls c3 (w3.alloc (.cells #[.int .i64 hv] 3)).heap.size 0 = c4 at *
          obtain ⟨nodes4, nowv4, said4, hsp4⟩ := hW4.sys.sp
          have hck := HFH.out.clock
          have s5 : w4.cell? ⟨Bs, 5, none⟩ = some (.int .i64 tj) := by rw [← hck]; exact blk_cell hsp4.sp 5
          have t5 : w4.frozen? ⟨Bs, 5, none⟩ = false := blk_frozen hsp4.sp 5
          obtain ⟨t0, t1⟩ := HCLK.out
          have HZ : Aside0 (PI c0 k w.heap.size W0 Bs Bl Br Bg w.heap.size (tickF hx) u1 (a0.1 ++ [hv]) (w4.setCell ⟨Bs, 5, none⟩ (.int .i64 (tj + 1)))) := ⟨⟨c4, by
            refine hW4.spk (s' := { hx.s with clock := hx.s.clock + 1 }) hk.2 hsp4 (by rw [← hck]; exact blk_put hsp4.sp 5 (.int .i64 (hx.s.clock + 1)) rfl) ?_ ?_ rfl hsp4.cur
            · exact (Keeps.refl _ w4).setCell (a := ⟨Bs, 5, none⟩) (fun _ h => h rfl) _
            · intro b hb
              rw [Below.heap_setCell _ _ _ _ hb], by
            rw [List.length_append, List.length_singleton]
            exact own_far hown (own_ne hown hsp4.sp (by decide)) _, hcl4⟩⟩
          clear hWX hoX hW4 hown hcl4 hsp4 hA HW3 HO3 HCL3 HFH hck
          go_wp2
          go_roundg (n - (j + 1))
          case measure => omega
          case rel => exact ⟨j + 1, by omega, by omega, by go_num, ⟨by rw [HPJ.out]; exact HZ.out⟩⟩
    · have hltz : ¬ (j : Int) < (n : Int) := by omega
      obtain rfl : j = n := by omega
      obtain ⟨c1, hW, ho, hcl⟩ := HP.out.ex
      obtain ⟨vn, hbo, how, hkn, hkb⟩ := hW.sys.ne
      have b0 : wr.cell? ⟨w.heap.size, 0, none⟩ = some vn := blk_cell hbo 0
      obtain ⟨An, cn, rfl⟩ := own_slice how
      obtain ⟨cf, hcf⟩ : ∃ cf : Nat → Nat, ∀ b, cf b = if b < w.heap.size then cls b else sel k c1 b := ⟨_, fun _ => rfl⟩
      have hold : ∀ b, b < w.heap.size → c1 b = sel k cls b := fun b hb => by rw [hW.cl b (by have := HSZ.out; omega), HC0.out, if_pos hb]
      have hlenj : (pullF j x0).1.length = j := pull_length x0 j
      have HZ : Aside0 (∀ q, (wr.drewN q).ownsRow w.heap.size 3 1 u7 j (Flat eI (pullF j x0).1) ∧ (wr.drewN q).ownsRow w.heap.size 75 4 (.slice An (pullF j x0).2.ns.length cn) (pullF j x0).2.ns.length (Flat e75 (pullF j x0).2.ns) ∧
          ∃ cls', (∀ b, b < w.heap.size → cls' b = cls b) ∧ SpAt cls' k (wr.drewN q) Bs Bl Br Bg (pullF j x0).2.s ∧ LedAt cls' (wr.drewN q) Bg (pullF j x0).2.g ∧ Keeps (fun b => cls b ≠ k ∧ cls b ≠ 3) w (wr.drewN q) ∧ (∀ b, u7.ownBlock = some b ∨ (Value.slice An (pullF j x0).2.ns.length cn).ownBlock = some b → cls' b = 0)) := ⟨fun q => by
        refine ⟨?_, pw_own_below how (pw_below_drewN (Below.refl _ _) q), cf, fun b hb => by rw [hcf, if_pos hb], ?_, ?_, ?_, ?_⟩
        · have := own_weak (pw_own_below ho (pw_below_drewN (Below.refl _ _) q)) (show w.heap.size ≤ W0.heap.size from HB0.out.size)
          rw [hlenj] at this
          exact this
        · refine (hW.sys.sp.re (cls' := cf) (fun b _ hb => ?_)).moved (fun _ _ _ => rfl)
          rw [hcf]
          by_cases hl : b < w.heap.size
          · rw [if_pos hl]
            rw [hold b hl] at hb
            unfold sel at hb
            by_cases h1 : cls b = k
            · exact h1
            · rw [if_neg h1] at hb
              by_cases h2 : cls b = 3
              · rw [if_pos h2] at hb; omega
              · rw [if_neg h2] at hb; omega
          · rw [if_neg hl]; exact sel_k hb
        · refine (hW.sys.le.re (cls' := cf) (fun b _ hb => ?_)).moved (fun _ _ _ => rfl)
          rw [hcf]
          by_cases hl : b < w.heap.size
          · rw [if_pos hl]
            rw [hold b hl] at hb
            unfold sel at hb
            by_cases h1 : cls b = k
            · rw [if_pos h1] at hb; omega
            · rw [if_neg h1] at hb
              by_cases h2 : cls b = 3
              · exact h2
              · rw [if_neg h2] at hb; omega
          · rw [if_neg hl]; exact sel_3 hk.2.1 hb
        · have hK := hW.keep.drewN q
          refine ⟨hK.os.trans HB0.out.os, hK.tape.trans HB0.out.tape, hK.output.trans HB0.out.output, Nat.le_trans HB0.out.size hK.size, fun b hb hl => ?_⟩
          refine (hK.block b (fun hm => ?_) (Nat.lt_of_lt_of_le hl HB0.out.size)).trans (HB0.out.block b hl)
          have h0 : c0 b = 0 := by rw [HC0.out, if_pos hl]; exact sel_mine hk hb.1 hb.2
          rcases hm with hm | hm | hm <;> omega
        · have hge : ∀ b, u7.ownBlock = some b ∨ (Value.slice An (pullF j x0).2.ns.length cn).ownBlock = some b → w.heap.size ≤ b := by
            rintro b (hb | hb)
            · have := own_base ho b hb; have := HSZ.out; omega
            · exact own_base how b hb
          intro b hb
          rw [hcf, if_neg (by have := hge b hb; omega)]
          rcases hb with hb | hb
          · exact sel_mine hk (by rw [hcl b hb]; exact fun e => hk.1 e.symm) (by rw [hcl b hb]; decide)
          · exact sel_mine hk (by rw [hkb b hb]; exact fun e => hk.2.2 e.symm) (by rw [hkb b hb]; decide)⟩
      clear hW ho hcl hbo how hkn hkb hcf hold HP hlenj HBT HC0 HB0 HSZ HW0 HF
      go_wp2
      go_quiet (fail)
      go_wp2
      go_ret3
      rw [HX0.out]
      exact ⟨_, _, rfl, (HZ.out _).1, (HZ.out _).2.1, (HZ.out _).2.2⟩
end Go.Proofs.Ytoodagohkepcpaa
