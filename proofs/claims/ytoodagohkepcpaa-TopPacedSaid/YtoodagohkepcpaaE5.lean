/- What is heard of a piece, in portions: the walk. -/
import Derived.Test.YtoodagohkepcpaaE4
namespace Go.Proofs.Ytoodagohkepcpaa
open Go.RowKit Go.Shelf Go.Proofs.YtoodagohkepcpaaW.PrintWords
set_option maxRecDepth 100000

theorem start_good {p : S30} (hp : okPiece p) (h5 : p.f5 = 0) {num den : Int} (hnum : 1 ≤ num ∧ num ≤ 8) (hden : 1 ≤ den ∧ den ≤ 8) : Fine 100 0 (startF p num den) := by
  refine ⟨⟨fun q hq => ?_, ⟨hnum, hden⟩, fun c hc => (by cases hc), by simp [startF]⟩, ?_, by simp [startF, weight], rfl⟩
  · simp [startF] at hq
    subst hq
    exact ⟨hp, by simp, by simp [h5]⟩
  · have := hp.signs.1
    simp [startF, room, roomQ, roomC]
    omega
theorem noNews_fine {R : Nat} {t : Int} {y : St} (h : Fine R t y) : Fine R t (noNews y) :=
  ⟨⟨h.good.pieces, h.good.pace, h.good.cur, h.good.gr⟩, by have := h.room; unfold room noNews at *; simp only [List.length_nil]; omega, h.weight, h.clock⟩
theorem Fine.mono {R R' : Nat} {t : Int} {y : St} (h : Fine R t y) (hR : R ≤ R') : Fine R' t y := ⟨h.good, Nat.le_trans h.room hR, h.weight, h.clock⟩

theorem Pull_int (cls : Nat → Nat) (k : Nat) (w : World) (Bs Bl Br Bg : Nat) (s : Sp) (g : Gr) (m : Int) (n : Nat) (hm : m = n) (hk : k ≠ 0 ∧ k ≠ 3 ∧ k ≠ 4) (hS : SpAt cls k w Bs Bl Br Bg s) (hL : LedAt cls w Bg g) (hF : Fine 1000000 s.clock ⟨s, g, []⟩) (hn : n ≤ 100000) (hc : 0 ≤ s.clock ∧ s.clock + n ≤ 1099511627776) :
    Calls Try.prog 21 #[.pointer (some ⟨Bs, 0, none⟩), .int .i64 m] w fun e w' => ∃ v vn, e = .returned (.tuple #[v, vn, .int .i64 0]) ∧
      w'.ownsRow w.heap.size 3 1 v n (Flat eI (pullF n ⟨s, g, []⟩).1) ∧ w'.ownsRow w.heap.size 75 4 vn (pullF n ⟨s, g, []⟩).2.ns.length (Flat e75 (pullF n ⟨s, g, []⟩).2.ns) ∧
      ∃ cls', (∀ b, b < w.heap.size → cls' b = cls b) ∧ SpAt cls' k w' Bs Bl Br Bg (pullF n ⟨s, g, []⟩).2.s ∧ LedAt cls' w' Bg (pullF n ⟨s, g, []⟩).2.g ∧ Keeps (fun b => cls b ≠ k ∧ cls b ≠ 3) w w' ∧ (∀ b, v.ownBlock = some b ∨ vn.ownBlock = some b → cls' b = 0) := by
  subst hm
  exact Pull_ok cls k w Bs Bl Br Bg s g n hk hS hL hF hn hc
set_option maxHeartbeats 16000000 in
theorem spoken_ok (w : World) (A2 A3 A4 Ap : Option Addr) (c2 c3' c4 cp : Nat) (p : S30) (num den : Int) (parts : List Int)
    (h2 : Kd.C (Kd.int .i64) w A2 p.f2.length p.f2) (h3 : Kd.C (Kd.int .i64) w A3 p.f3.length p.f3) (h4 : Kd.C k32 w A4 p.f4.length p.f4) (hp : okPiece p) (h5 : p.f5 = 0) (hnum : 1 ≤ num ∧ num ≤ 8) (hden : 1 ≤ den ∧ den ≤ 8)
    (hpa : Kd.C (Kd.int .i64) w Ap parts.length parts) (hpl : parts.length ≤ 6) (hpb : ∀ i : Nat, i < parts.length → 0 ≤ rd parts (i : Int) ∧ rd parts (i : Int) ≤ 200) :
    Calls Try.prog 14 #[.agg #[.int .i64 p.f0, .int .i64 p.f1, .slice A2 p.f2.length c2, .slice A3 p.f3.length c3', .slice A4 p.f4.length c4, .int .i64 p.f5], .agg #[.int .i64 num, .int .i64 den], .slice Ap parts.length cp, .int .i64 500] w fun e w' =>
      ∃ v vn, e = .returned (.tuple #[v, vn, .bool true]) ∧ w'.ownsRow w.heap.size 3 1 v (pullF (portN parts (parts.length + 1)) (startF p num den)).1.length (Flat eI (pullF (portN parts (parts.length + 1)) (startF p num den)).1) ∧
        w'.ownsRow w.heap.size 75 4 vn (pullF (portN parts (parts.length + 1)) (startF p num den)).2.ns.length (Flat e75 (pullF (portN parts (parts.length + 1)) (startF p num den)).2.ns) ∧ Below w.heap.size w w' := by
  have hvo := hp.voice
  have hSG := start_good hp h5 hnum hden
  have HQ := Aside0.mk (fun (cls : Nat → Nat) (W : World) (Bs Bl Br Bg : Nat) (hb : Below w.heap.size w W) (hS : SpAt cls 1 W Bs Bl Br Bg ⟨[], 0, num, den, 0, none, false⟩) => Queue_ok cls 1 W Bs Bl Br Bg _ A2 A3 A4 c2 c3' c4 p hS (by simp) (by simp) (Kd.C_below h2 hb) (Kd.C_below h3 hb) (Kd.C_below h4 hb) hp)
  have HX0 : Aside0 (startF p num den = ⟨⟨[⟨p, 0, 0⟩], 1, num, den, 0, none, false⟩, ⟨p.f0, 1099511627776, 0⟩, []⟩) := ⟨rfl⟩
  obtain ⟨f0, f1, xs, ps, ss, f5⟩ := p
  dsimp only at *
  generalize startF ⟨f0, f1, xs, ps, ss, f5⟩ num den = x0 at *
  have HPA := Aside0.mk hpa
  have HPB := Aside0.mk hpb
  have HSG := Aside0.mk hSG
  have HNUM := Aside0.mk hnum
  have HDEN := Aside0.mk hden
  clear h2 h3 h4 hp h5 hpa hpb hSG hnum hden
  have hB0 : Below w.heap.size w ((w.alloc (.cells #[.int .i64 f0, .int .i64 f1, .slice A2 xs.length c2, .slice A3 ps.length c3', .slice A4 ss.length c4, .int .i64 f5] 30)).alloc (.cells #[.int .i64 num, .int .i64 den] 38)) := below_alloc (below_alloc (Below.refl _ _) _) _
  have hs0 : ((w.alloc (.cells #[.int .i64 f0, .int .i64 f1, .slice A2 xs.length c2, .slice A3 ps.length c3', .slice A4 ss.length c4, .int .i64 f5] 30)).alloc (.cells #[.int .i64 num, .int .i64 den] 38)).heap[w.heap.size]? = some (.cells #[.int .i64 f0, .int .i64 f1, .slice A2 xs.length c2, .slice A3 ps.length c3', .slice A4 ss.length c4, .int .i64 f5] 30) := blk_alloc (blk_new w _) _
  have ht0 : ((w.alloc (.cells #[.int .i64 f0, .int .i64 f1, .slice A2 xs.length c2, .slice A3 ps.length c3', .slice A4 ss.length c4, .int .i64 f5] 30)).alloc (.cells #[.int .i64 num, .int .i64 den] 38)).heap[w.heap.size + 1]? = some (.cells #[.int .i64 num, .int .i64 den] 38) := blk_new' (by simp) _
  have HB0 := Aside0.mk hB0
  have HS0 := Aside0.mk hs0
  have HT0 := Aside0.mk ht0
  clear hB0 hs0 ht0
  go_enter Try.func14, Try.ntmps14
  go_wp2_with fail
  refine (Open_ok _).mono ?_
  rintro e w1 ⟨rfl, rfl⟩
  have hB1 := below_trans' HB0.out (below_alloc (Below.refl _ _) (.cells #[.bool true, .slice none 0 0] 102))
  have hs1 := blk_alloc HS0.out (.cells #[.bool true, .slice none 0 0] 102)
  have ht1 := blk_alloc HT0.out (.cells #[.bool true, .slice none 0 0] 102)
  have hl1 := blk_new ((w.alloc (.cells #[.int .i64 f0, .int .i64 f1, .slice A2 xs.length c2, .slice A3 ps.length c3', .slice A4 ss.length c4, .int .i64 f5] 30)).alloc (.cells #[.int .i64 num, .int .i64 den] 38)) (.cells #[.bool true, .slice none 0 0] 102)
  have hge : w.heap.size + 2 ≤ ((w.alloc (.cells #[.int .i64 f0, .int .i64 f1, .slice A2 xs.length c2, .slice A3 ps.length c3', .slice A4 ss.length c4, .int .i64 f5] 30)).alloc (.cells #[.int .i64 num, .int .i64 den] 38)).heap.size := by simp
  have hp0 : (((w.alloc (.cells #[.int .i64 f0, .int .i64 f1, .slice A2 xs.length c2, .slice A3 ps.length c3', .slice A4 ss.length c4, .int .i64 f5] 30)).alloc (.cells #[.int .i64 num, .int .i64 den] 38)).alloc (.cells #[.bool true, .slice none 0 0] 102)).cell? ⟨w.heap.size, 0, none⟩ = some (.int .i64 f0) := blk_cell hs1 0
  generalize hX1 : (((w.alloc (.cells #[.int .i64 f0, .int .i64 f1, .slice A2 xs.length c2, .slice A3 ps.length c3', .slice A4 ss.length c4, .int .i64 f5] 30)).alloc (.cells #[.int .i64 num, .int .i64 den] 38)).alloc (.cells #[.bool true, .slice none 0 0] 102)) = X1 at *
  generalize hBg : ((w.alloc (.cells #[.int .i64 f0, .int .i64 f1, .slice A2 xs.length c2, .slice A3 ps.length c3', .slice A4 ss.length c4, .int .i64 f5] 30)).alloc (.cells #[.int .i64 num, .int .i64 den] 38)).heap.size = Bg at *
  have HB1 := Aside0.mk hB1
  have HS1 := Aside0.mk hs1
  have HT1 := Aside0.mk ht1
  have HL1 := Aside0.mk hl1
  clear hB1 hs1 ht1 hl1 HB0 HS0 HT0 hX1 hBg
  go_wp2_with fail
  refine (Give_ok (fun b => if b = Bg then 3 else 0) X1 Bg f0 1099511627776 HL1.out hvo (by decide) (if_pos rfl)).mono ?_
  rintro e X2 ⟨rfl, hL2, hk2⟩
  have hsz2 := hk2.size
  have hBgX : Bg < X1.heap.size := blk_lt HL1.out
  have hB2 : Below w.heap.size w X2 := below_keeps HB1.out hk2 (fun b hb => by omega)
  have hs2 := (hk2.block w.heap.size (by omega) (by omega)).trans HS1.out
  have ht2 := (hk2.block (w.heap.size + 1) (by omega) (by omega)).trans HT1.out
  obtain ⟨c2', hc2', hc2e⟩ : ∃ c : Nat → Nat, c = newCls (fun b => if b = Bg then 3 else 0) X1.heap.size 3 ∧ ∀ b, b < w.heap.size → c b = 0 := ⟨_, rfl, fun b hb => by rw [newCls_old _ _ _ b (by omega)]; exact if_neg (by omega)⟩
  rw [← hc2'] at hL2
  have HB2 := Aside0.mk hB2
  have HS2 := Aside0.mk hs2
  have HT2 := Aside0.mk ht2
  have HL2 := Aside0.mk hL2
  have HC2 := Aside0.mk hc2e
  clear hB2 hs2 ht2 hL2 hk2 HB1 HS1 HT1 HL1 hc2' hc2e hp0
  go_wp2_with fail
  refine (New_ok c2' 1 X2 Bg ⟨f0, 1099511627776, 0⟩ HL2.out).mono ?_
  rintro e X3 ⟨Bs, Bl, Br, rfl, hS3, hb3⟩
  have hB3 := below_keeps HB2.out (Keeps.of_below hb3) (p := fun _ => True) (fun _ _ => trivial)
  have hs3 := pw_blk_below HS2.out hb3
  have ht3 := pw_blk_below HT2.out hb3
  have hL3 := (HL2.out.again (newCls_old c2' X2.heap.size 1)).moved (fun b _ hl => hb3.block b hl)
  have hc3 : ∀ b, b < w.heap.size → newCls c2' X2.heap.size 1 b = 0 := fun b hb => by rw [newCls_old _ _ _ b (Nat.lt_of_lt_of_le hb HB2.out.size)]; exact HC2.out b hb
  have hbsx : Bs < X3.heap.size ∧ w.heap.size + 2 ≤ Bs := by
    obtain ⟨_, _, _, h⟩ := hS3
    refine ⟨blk_lt h.sp, ?_⟩
    rcases Nat.lt_or_ge Bs X2.heap.size with hlt | hlt
    · have h1 := h.kl.1
      have h2 := (hb3.block Bs hlt).symm.trans h.sp
      rcases Nat.lt_or_ge Bs (w.heap.size + 2) with h3 | h3
      · rcases (show Bs < w.heap.size ∨ Bs = w.heap.size ∨ Bs = w.heap.size + 1 from by omega) with h4 | h4 | h4
        · rw [hc3 Bs h4] at h1; cases h1
        · rw [h4, HS2.out] at h2; injection h2 with h2; injection h2 with _ h2; cases h2
        · rw [h4, HT2.out] at h2; injection h2 with h2; injection h2 with _ h2; cases h2
      · exact h3
    · have := blk_lt HT2.out
      omega
  generalize newCls c2' X2.heap.size 1 = c3 at *
  have q0 : X3.cell? ⟨w.heap.size + 1, 0, none⟩ = some (.int .i64 num) := blk_cell ht3 0
  have q1 : X3.cell? ⟨w.heap.size + 1, 1, none⟩ = some (.int .i64 den) := blk_cell ht3 1
  have HB3 := Aside0.mk hB3
  have HS3 := Aside0.mk hs3
  have HL3 := Aside0.mk hL3
  have HC3 := Aside0.mk hc3
  have HP3 := Aside0.mk hS3
  clear hB3 hs3 ht3 hL3 hb3 hc3 hS3 HB2 HS2 HT2 HL2 HC2
  go_wp2_with fail
  refine (Pace_ok c3 1 X3 Bs Bl Br Bg _ num den HP3.out HNUM.out HDEN.out).mono ?_
  rintro e X4 ⟨rfl, hS4, hk4, ho4⟩
  have hB4 : Below w.heap.size w X4 := below_keeps HB3.out hk4 (fun b hb => by omega)
  have hs4 := (ho4 w.heap.size (by have := blk_lt HS3.out; omega) (by omega)).trans HS3.out
  have hL4 : LedAt c3 X4 Bg ⟨f0, 1099511627776, 0⟩ := HL3.out.moved (fun b hb hl => ho4 b hl (fun e => by
    obtain ⟨_, _, _, h⟩ := HP3.out
    rw [e, h.kl.1] at hb
    cases hb))
  have p0 : X4.cell? ⟨w.heap.size, 0, none⟩ = some (.int .i64 f0) := blk_cell hs4 0
  have p1 : X4.cell? ⟨w.heap.size, 1, none⟩ = some (.int .i64 f1) := blk_cell hs4 1
  have p2 : X4.cell? ⟨w.heap.size, 2, none⟩ = some (.slice A2 xs.length c2) := blk_cell hs4 2
  have p3 : X4.cell? ⟨w.heap.size, 3, none⟩ = some (.slice A3 ps.length c3') := blk_cell hs4 3
  have p4 : X4.cell? ⟨w.heap.size, 4, none⟩ = some (.slice A4 ss.length c4) := blk_cell hs4 4
  have p5 : X4.cell? ⟨w.heap.size, 5, none⟩ = some (.int .i64 f5) := blk_cell hs4 5
  have HB4 := Aside0.mk hB4
  have HL4 := Aside0.mk hL4
  have HP4 := Aside0.mk hS4
  clear hB4 hs4 hL4 hS4 hk4 ho4 HB3 HS3 HL3 HP3 q0 q1
  go_wp2_with fail
  refine (HQ.out c3 X4 Bs Bl Br Bg HB4.out HP4.out).mono ?_
  rintro e X5 ⟨rfl, hS5, hk5⟩
  have hB5 : Below w.heap.size w X5 := below_keeps HB4.out hk5 (fun b hb => by rw [HC3.out b hb]; decide)
  have hL5 : LedAt (newCls c3 X4.heap.size 1) X5 Bg ⟨f0, 1099511627776, 0⟩ := (HL4.out.again (newCls_old c3 X4.heap.size 1)).moved (fun b hb hl => hk5.block b (by rw [newCls_old _ _ _ b hl] at hb; rw [hb]; decide) hl)
  have hc5 : ∀ b, b < w.heap.size → newCls c3 X4.heap.size 1 b = 0 := fun b hb => by rw [newCls_old _ _ _ b (Nat.lt_of_lt_of_le hb HB4.out.size)]; exact HC3.out b hb
  have HT0 : Aside0 (TkI w Bs Bl Br Bg (pullF (portN parts 0) x0).2 (pullF (portN parts 0) x0).1 (.slice none 0 0) (.slice none 0 0) X5) := ⟨⟨_, hc5, by rw [show (pullF (portN parts 0) x0).2 = x0 from rfl, HX0.out]; exact hS5, by rw [show (pullF (portN parts 0) x0).2 = x0 from rfl, HX0.out]; exact hL5, own_nil _ _ _ _, by rw [show (pullF (portN parts 0) x0).2 = x0 from rfl, HX0.out]; exact own_nil _ _ _ _, fun b hb => by simp [Value.ownBlock] at hb, hB5⟩⟩
  clear hS5 hk5 hB5 hL5 hc5 HB4 HL4 HP4 HC3 p0 p1 p2 p3 p4 p5 HQ
  go_wp2
  go_loopg [18, 19, 20] (parts.length + 1) (fun gg s18 s19 s20 wr => ∃ j : Nat, j ≤ parts.length + 1 ∧ parts.length + 1 - j ≤ gg ∧ s20 = .int .i64 j ∧ Aside0 (TkI w Bs Bl Br Bg (pullF (portN parts j) x0).2 (pullF (portN parts j) x0).1 s18 s19 wr))
  case atStart => exact ⟨0, by omega, by omega, rfl, HT0⟩
  case round =>
    obtain ⟨j, hj, hg, rfl, HT⟩ := hrel
    clear HT0
    obtain ⟨cls, hc0, hS, hL, ho, hn, hcb, hB⟩ := HT.out.ex
    have hpl2 : (pullF (portN parts j) x0).1.length = portN parts j := pull_length x0 _
    have hN : portN parts j ≤ 500 * j := portN_le parts (fun i hi => (HPB.out i hi).2) j (by rw [portF_length]; omega)
    have hF := HSG.out.pull (portN parts j)
    by_cases hle : j ≤ parts.length
    · have hlez : (j : Int) ≤ (parts.length : Int) := by omega
      have hjl : j < (portF parts).length := by rw [portF_length]; omega
      have hps := portN_succ parts hjl
      have hm := pull_more x0 (portN parts j) ((portF parts)[j])
      rw [← hps] at hm
      have hp500 := portF_le parts (fun i hi => (HPB.out i hi).2) j hjl
      have hPull := fun (m : Int) (hm : m = ((portF parts)[j] : Nat)) => Pull_int cls 1 wr Bs Bl Br Bg (pullF (portN parts j) x0).2.s (pullF (portN parts j) x0).2.g m ((portF parts)[j]) hm (by decide) hS hL (by rw [hF.clock]; exact (noNews_fine hF).mono (by omega)) (by omega) (by rw [hF.clock]; omega)
      have hF2 := (noNews_fine hF).pull ((portF parts)[j])
      have hl2 := pull_length (noNews (pullF (portN parts j) x0).2) ((portF parts)[j])
      have hns1 : (pullF (portN parts j) x0).2.ns.length ≤ 100000 := by have := hF.room; unfold room at this; omega
      have hns2 : (pullF ((portF parts)[j]) (noNews (pullF (portN parts j) x0).2)).2.ns.length ≤ 100000 := by have := hF2.room; unfold room at this; omega
      have HM := Aside0.mk hm
      have HPU := Aside0.mk hPull
      have HL2 := Aside0.mk hl2
      have HPL2 := Aside0.mk hpl2
      have HC0 := Aside0.mk hc0
      have HO := Aside0.mk ho
      have HN := Aside0.mk hn
      have HCB := Aside0.mk hcb
      have HB := Aside0.mk hB
      have hnn : noNews (pullF (portN parts j) x0).2 = ⟨(pullF (portN parts j) x0).2.s, (pullF (portN parts j) x0).2.g, []⟩ := rfl
      rw [← hnn] at HPU
      have HLAST : Aside0 (j = parts.length → (portF parts)[j] = 500) := ⟨fun e => by subst e; exact portF_last parts⟩
      have HMID : Aside0 (j < parts.length → (((portF parts)[j] : Nat) : Int) = rd parts (j : Int)) := ⟨fun h => portF_at parts h (HPB.out j h).1⟩
      clear hm hPull hl2 hpl2 hc0 ho hn hcb hB hS hL hF hF2 HT hnn hps
      generalize (portF parts)[j] = nj at *
      have hlenl : (pullF (portN parts j) x0).1.length ≤ 100000 := by rw [HPL2.out]; omega
      generalize portN parts j = N0 at *
      have HNN : Aside0 ((noNews (pullF N0 x0).2).ns = []) := ⟨rfl⟩
      generalize hb0 : pullF nj (noNews (pullF N0 x0).2) = b0 at *
      have HM1 : Aside0 (pullF (portN parts (j + 1)) x0 = ((pullF N0 x0).1 ++ b0.1, withNews (pullF N0 x0).2.ns b0.2)) := HM
      clear HM hb0
      generalize pullF N0 x0 = a0 at *
      by_cases hlt : j < parts.length
      · have hltz : (j : Int) < (parts.length : Int) := by omega
        obtain ⟨ad, rfl, hcell⟩ := Kd.at_int HPA.out (j : Int) (by omega) (by omega)
        rw [Int.toNat_natCast, ← HMID.out hlt] at hcell
        replace hcell := pw_cell_below HB.out hcell
        go_wp2_with fail
        refine (HPU.out _ rfl).mono ?_
        rintro e X ⟨v, vn, rfl, hv, hvn, cls', hcl, hS', hL', hK, hcb'⟩
        obtain ⟨Av, cv, rfl⟩ := own_slice hv
        obtain ⟨Avn, cvn, rfl⟩ := own_slice hvn
        have hBX : Below w.heap.size w X := below_keeps HB.out hK (fun b hb => by rw [HC0.out b hb]; decide)
        have hoX := own_move (w1 := X) HO.out (fun b hb => hK.block b (by rw [HCB.out b (.inl hb)]; decide) (own_lt HO.out b hb))
        have hnX := own_move (w1 := X) HN.out (fun b hb => hK.block b (by rw [HCB.out b (.inr hb)]; decide) (own_lt HN.out b hb))
        have HC0X : Aside0 (∀ b, b < w.heap.size → cls' b = 0) := ⟨fun b hb => (hcl b (Nat.lt_of_lt_of_le hb HB.out.size)).trans (HC0.out b hb)⟩
        have HCBX : Aside0 (∀ b, u18.ownBlock = some b ∨ u19.ownBlock = some b → cls' b = 0) := ⟨fun b hb => (hcl b (hb.elim (own_lt HO.out b) (own_lt HN.out b))).trans (HCB.out b hb)⟩
        have HSRC := Aside0.mk (own_cellsOf hv).1
        have HVN := Aside0.mk hvn
        have HOX := Aside0.mk hoX
        have HNX := Aside0.mk hnX
        have HBX := Aside0.mk hBX
        have HSX := Aside0.mk hS'
        have HLX := Aside0.mk hL'
        have hbxs := hBX.size
        clear hv hvn hcl hS' hL' hK hcb' hBX hoX hnX HPU
        go_wp2_with (at_builtin; refine append_list rfl (.tmp 97) (.tmp 98) 22 3 (.int .i64 0) 1 8 rfl Try.underlying22 info3 rfl (by decide) (by decide) w.heap.size _ a0.1.length (Flat eI a0.1) Av nj cv (Flat eI b0.1) rfl rfl HOX.out ?len HSRC.out (Flat_mem eI_one) ?bytes ?base ?_)
        case len => rw [Flat_length eI_len, HL2.out]; rfl
        case bytes => omega
        case base => (try simp); omega
        intro hv1 Y1 hA1
        have HNY := Aside0.mk (HNX.out.kept hA1.grown (own_type_ne HNX.out HOX.out (by decide)))
        have HVY := Aside0.mk (own_C75 (HVN.out.kept hA1.grown (own_type_ne HVN.out HOX.out (by decide))))
        have hY1 := hA1.grown.size
        have HA1 := Aside0.mk hA1
        clear hA1
        go_wp2_with (at_builtin; refine append_list rfl (.tmp 100) (.tmp 101) 43 75 (.agg #[.int .i64 0, .int .i64 0, .int .i64 0, .string ⟨#[]⟩]) 4 40 rfl Try.underlying43 info75 rfl (by decide) (by decide) w.heap.size _ a0.2.ns.length (Flat e75 a0.2.ns) Avn b0.2.ns.length cvn (Flat e75 b0.2.ns) rfl rfl HNY.out ?len2 HVY.out (Flat_mem e75_one) ?bytes2 ?base2 ?_)
        case len2 => rw [Flat_length e75_len]; rfl
        case bytes2 => omega
        case base2 => (try simp); omega
        intro nv1 Y2 hA2
        have hA1' := HA1.out
        rw [← HL2.out] at hA1'
        have HZ := Aside0.mk (TkI.next HC0X.out HSX.out HLX.out HBX.out HOX.out HNX.out HCBX.out hA1' hA2)
        clear hA1' hA2 HA1 HNY HVY HSRC HVN HOX HNX HSX HLX HC0X HCBX
        go_wp2
        go_roundg (parts.length + 1 - (j + 1))
        case measure => omega
        case rel => exact ⟨j + 1, by omega, by omega, by go_num, ⟨by rw [HM1.out]; exact HZ.out⟩⟩
      · have hltz : ¬ (j : Int) < (parts.length : Int) := by omega
        obtain rfl : j = parts.length := by omega
        have hnj : (500 : Int) = (nj : Int) := by rw [HLAST.out rfl]; rfl
        have hne : ((nj : Int) != 500) = false := by rw [← hnj]; rfl
        have HNJ := Aside0.mk hnj
        clear hnj
        go_wp2_with fail
        refine (HPU.out 500 HNJ.out).mono ?_
        rintro e X ⟨v, vn, rfl, hv, hvn, cls', hcl, hS', hL', hK, hcb'⟩
        obtain ⟨Av, cv, rfl⟩ := own_slice hv
        obtain ⟨Avn, cvn, rfl⟩ := own_slice hvn
        have hBX : Below w.heap.size w X := below_keeps HB.out hK (fun b hb => by rw [HC0.out b hb]; decide)
        have hoX := own_move (w1 := X) HO.out (fun b hb => hK.block b (by rw [HCB.out b (.inl hb)]; decide) (own_lt HO.out b hb))
        have hnX := own_move (w1 := X) HN.out (fun b hb => hK.block b (by rw [HCB.out b (.inr hb)]; decide) (own_lt HN.out b hb))
        have HC0X : Aside0 (∀ b, b < w.heap.size → cls' b = 0) := ⟨fun b hb => (hcl b (Nat.lt_of_lt_of_le hb HB.out.size)).trans (HC0.out b hb)⟩
        have HCBX : Aside0 (∀ b, u18.ownBlock = some b ∨ u19.ownBlock = some b → cls' b = 0) := ⟨fun b hb => (hcl b (hb.elim (own_lt HO.out b) (own_lt HN.out b))).trans (HCB.out b hb)⟩
        have HSRC := Aside0.mk (own_cellsOf hv).1
        have HVN := Aside0.mk hvn
        have HOX := Aside0.mk hoX
        have HNX := Aside0.mk hnX
        have HBX := Aside0.mk hBX
        have HSX := Aside0.mk hS'
        have HLX := Aside0.mk hL'
        have hbxs := hBX.size
        clear hv hvn hcl hS' hL' hK hcb' hBX hoX hnX HPU
        go_wp2_with (at_builtin; refine append_list rfl (.tmp 97) (.tmp 98) 22 3 (.int .i64 0) 1 8 rfl Try.underlying22 info3 rfl (by decide) (by decide) w.heap.size _ a0.1.length (Flat eI a0.1) Av nj cv (Flat eI b0.1) rfl rfl HOX.out ?len HSRC.out (Flat_mem eI_one) ?bytes ?base ?_)
        case len => rw [Flat_length eI_len, HL2.out]; rfl
        case bytes => omega
        case base => (try simp); omega
        intro hv1 Y1 hA1
        have HNY := Aside0.mk (HNX.out.kept hA1.grown (own_type_ne HNX.out HOX.out (by decide)))
        have HVY := Aside0.mk (own_C75 (HVN.out.kept hA1.grown (own_type_ne HVN.out HOX.out (by decide))))
        have hY1 := hA1.grown.size
        have HA1 := Aside0.mk hA1
        clear hA1
        go_wp2_with (at_builtin; refine append_list rfl (.tmp 100) (.tmp 101) 43 75 (.agg #[.int .i64 0, .int .i64 0, .int .i64 0, .string ⟨#[]⟩]) 4 40 rfl Try.underlying43 info75 rfl (by decide) (by decide) w.heap.size _ a0.2.ns.length (Flat e75 a0.2.ns) Avn b0.2.ns.length cvn (Flat e75 b0.2.ns) rfl rfl HNY.out ?len2 HVY.out (Flat_mem e75_one) ?bytes2 ?base2 ?_)
        case len2 => rw [Flat_length e75_len]; rfl
        case bytes2 => omega
        case base2 => (try simp); omega
        intro nv1 Y2 hA2
        have hA1' := HA1.out
        rw [← HL2.out] at hA1'
        have HZ := Aside0.mk (TkI.next HC0X.out HSX.out HLX.out HBX.out HOX.out HNX.out HCBX.out hA1' hA2)
        clear hA1' hA2 HA1 HNY HVY HSRC HVN HOX HNX HSX HLX HC0X HCBX
        go_wp2
        go_roundg (parts.length + 1 - (parts.length + 1))
        case measure => omega
        case rel => exact ⟨parts.length + 1, by omega, by omega, by go_num, ⟨by rw [HM1.out]; exact HZ.out⟩⟩
    · have hlez : ¬ (j : Int) ≤ (parts.length : Int) := by omega
      obtain rfl : j = parts.length + 1 := by omega
      have HZ := Aside0.mk (And.intro ho (And.intro hn hB))
      clear hc0 hS hL ho hn hcb hB hF HT hpl2 hN
      go_wp2
      go_ret3
      exact ⟨u18, u19, rfl, HZ.out.1, HZ.out.2.1, HZ.out.2.2⟩
end Go.Proofs.Ytoodagohkepcpaa
