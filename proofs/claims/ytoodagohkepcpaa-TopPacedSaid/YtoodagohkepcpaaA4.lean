/- The iterator over the stretches of a piece at a pace. -/
import Derived.RangeFuncNested
import Derived.RangeFuncBound
import Derived.RangeFuncCalls
import Derived.RangeFuncLeaves
import Derived.Shelf.RegionOpen
import Derived.OwnWalkIn
import Derived.TacticsInMore
import Derived.LoopNIn
import Derived.LoopIn
import Derived.Test.YtoodagohkepcpaaA3
import Derived.Test.YtoodagohkepcpaaG
namespace Go.Proofs.Ytoodagohkepcpaa
open Go.RowKit Go.Shelf Go.Proofs.YtoodagohkepcpaaW.PrintWords

def timesF (num den : Int) (i : Nat) : Int := ((i : Int) + 1) * den / num - (i : Int) * den / num
def toF (n : Nat) (ps : List Int) (i : Nat) : Int := if i + 1 < ps.length then rd ps ((i : Int) + 1) else n
def firstF (n : Nat) (ps : List Int) : Int := if 0 < ps.length then rd ps 0 else n
def strAt (n : Nat) (ps : List Int) (num den : Int) (i : Nat) : List (Int × Int × Bool) :=
  if timesF num den i = 0 then [(rd ps i, toF n ps i, false)] else List.replicate (timesF num den i).toNat (rd ps i, toF n ps i, true)
def strsTo (n : Nat) (ps : List Int) (num den : Int) (k : Nat) : List (Int × Int × Bool) :=
  (0, firstF n ps, true) :: (List.range k).flatMap (strAt n ps num den)
def strs (n : Nat) (ps : List Int) (num den : Int) : List (Int × Int × Bool) := strsTo n ps num den ps.length
theorem strsTo_succ (n : Nat) (ps : List Int) (num den : Int) (k : Nat) : strsTo n ps num den (k + 1) = strsTo n ps num den k ++ strAt n ps num den k := by
  simp [strsTo, List.range_succ]
def encS (x : Int × Int × Bool) : Array Value := #[.agg #[.int .i64 x.1, .int .i64 x.2.1, .bool x.2.2]]

theorem strs_first (n : Nat) (ps : List Int) (num den : Int) : [] ++ [(0, firstF n ps, true)] <+: strs n ps num den := ⟨_, rfl⟩
theorem strsTo_le (n : Nat) (ps : List Int) (num den : Int) {k m : Nat} (h : k ≤ m) : strsTo n ps num den k <+: strsTo n ps num den m := by
  induction m with
  | zero => obtain rfl : k = 0 := by omega
            exact List.prefix_refl _
  | succ m ih =>
    rcases Nat.lt_or_ge m k with hk | hk
    · obtain rfl : k = m + 1 := by omega
      exact List.prefix_refl _
    · rw [strsTo_succ]
      exact (ih hk).trans (List.prefix_append _ _)
theorem strs_prefix (n : Nat) (ps : List Int) (num den : Int) (k : Nat) (h : k < ps.length) : strsTo n ps num den k ++ strAt n ps num den k <+: strs n ps num den := by
  rw [← strsTo_succ]; exact strsTo_le n ps num den h
theorem strs_prefix_rep (n : Nat) (ps : List Int) (num den : Int) (k : Nat) (h : k < ps.length) {x : Int × Int × Bool} {t j : Nat} (hs : strAt n ps num den k = List.replicate t x) (hj : j + 1 ≤ t) :
    strsTo n ps num den k ++ List.replicate (j + 1) x <+: strs n ps num den := by
  refine List.IsPrefix.trans ?_ (strs_prefix n ps num den k h)
  rw [hs]
  refine List.prefix_append_right_inj _ |>.2 ?_
  exact ⟨List.replicate (t - (j + 1)) x, by rw [List.replicate_append_replicate]; congr 1; omega⟩

theorem timesF_nonneg {num den : Int} (hn : 1 ≤ num) (hd : 1 ≤ den) (i : Nat) : 0 ≤ timesF num den i := by
  unfold timesF
  have h : (i : Int) * den ≤ ((i : Int) + 1) * den := Int.mul_le_mul_of_nonneg_right (by omega) (by omega)
  have := Int.ediv_le_ediv (by omega : 0 < num) h
  omega

/-- How an iterator ends: all have come, or a round has said 'no more'. -/
def ItPost {α : Type} (S : List α) (J Jx : List α → World → Prop) (e : Ending) (W' : World) : Prop :=
  (∃ v, e = .returned v) ∧ ((∃ ys, ys = S ∧ J ys W') ∨ (∃ pre, True ∧ Jx pre W'))
theorem add_succ (ad : Addr) (k : Nat) : ad.add (k + 1) = ⟨ad.block, ad.off + (k + 1), none⟩ := by unfold Addr.add; rw [if_neg (by omega)]
theorem add_block (ad : Addr) (k : Nat) : (ad.add k).block = ad.block := by unfold Addr.add; split <;> rfl

attribute [local go_sem] Oper.semAt_some

set_option maxRecDepth 100000 in
set_option maxHeartbeats 4000000 in
theorem stretches1_in (n : Nat) (hn : 1 ≤ n) (l Bs Bp : Nat) (kp : Nat → Prop) (f0 f1 f5 num den : Int) (A2 A3 A4 : Option Addr) (c2 c3 c4 m4 : Nat) (xs ps : List Int)
    (hxs : xs.length ≤ 40000) (hps : ps.length ≤ 1000) (hnum : 1 ≤ num ∧ num ≤ 8) (hden : 1 ≤ den ∧ den ≤ 8) (hbs : kp Bs) (hbp : kp Bp)
    (J Jx : List (Int × Int × Bool) → World → Prop) (hJd : ∀ s W m, J s W → J s (W.drewN m))
    (hY : ∀ pre x W, J pre W → pre ++ [x] <+: strs xs.length ps num den → YieldAt Fence.wide (n - 1) Try.prog l (encS x) W fun e W' =>
      (e = .returned (.bool true) ∧ J (pre ++ [x]) W' ∧ Keeps kp W W') ∨ (e = .returned (.bool false) ∧ Jx (pre ++ [x]) W'))
    (W : World)
    (h30 : W.heap[Bs]? = some (.cells #[.int .i64 f0, .int .i64 f1, .slice A2 xs.length c2, .slice A3 ps.length c3, .slice A4 m4 c4, .int .i64 f5] 30))
    (h38 : W.heap[Bp]? = some (.cells #[.int .i64 num, .int .i64 den] 38))
    (h3 : Kd.C (Kd.int .i64) W A3 ps.length ps) (h3b : ∀ ad, A3 = some ad → 0 < ps.length → kp ad.block) (h0 : J [] W) :
    CallsIn Fence.wide n Try.prog 76 #[.func (.yield l) #[] #[], .pointer (some ⟨Bs, 0, none⟩), .pointer (some ⟨Bp, 0, none⟩)] W (ItPost (strs xs.length ps num den) J Jx) := by
  obtain ⟨hnum1, hnum2⟩ := hnum
  obtain ⟨hden1, hden2⟩ := hden
  have H3 := Aside0.mk h3
  have H3B := Aside0.mk h3b
  have HXS := Aside0.mk hxs
  have hc2 : W.cell? ⟨Bs, 2, none⟩ = some (.slice A2 xs.length c2) := blk_cell h30 2
  have hc3 : W.cell? ⟨Bs, 3, none⟩ = some (.slice A3 ps.length c3) := blk_cell h30 3
  have hpn : W.cell? ⟨Bp, 0, none⟩ = some (.int .i64 num) := blk_cell h38 0
  have hpd : W.cell? ⟨Bp, 1, none⟩ = some (.int .i64 den) := blk_cell h38 1
  clear h3 h3b hxs h30 h38
  refine callsIn_of_wp Try.func76 rfl trivial ?_ rfl
  simp only [Try.ntmps76, List.size_toArray, List.length_cons, List.length_nil, Nat.reduceAdd, Nat.reduceSub, Array.replicate_succ, Array.replicate_zero, List.push_toArray, List.append_toArray, List.nil_append, List.cons_append]
  by_cases hp : 0 < ps.length
  · have hpz : (0 : Int) < (ps.length : Int) := by omega
    obtain ⟨ad, rfl, hcell⟩ := Kd.at_int H3.out 0 (by omega) (by omega)
    rw [show ad.add (0 : Int).toNat = ad from by simp [Addr.add]] at hcell
    have hfirst : firstF xs.length ps = rd ps 0 := by unfold firstF; rw [if_pos hp]
    obtain ⟨fn, tmps, assign, body, hy, hR⟩ := hY [] (0, rd ps 0, true) W h0 (by rw [← hfirst]; exact strs_first _ _ _ _)
    have HF := Aside0.mk hfirst
    clear hfirst
    simp only [encS] at hy
    generalize rd ps 0 = x0 at *
    gi_wp2
    refine hR.mono ?_
    clear hy hR
    rintro e W1 (⟨rfl, hJ1, hk1⟩ | ⟨rfl, hJx1⟩)
    · have HK1 := Aside0.mk hk1
      have HJ1 := Aside0.mk hJ1
      replace hc2 := hk1.cellOf hbs hc2
      replace hc3 := hk1.cellOf hbs hc3
      replace hpn := hk1.cellOf hbp hpn
      replace hpd := hk1.cellOf hbp hpd
      clear hk1 hJ1 h0 hcell
      gi_wp2
      gi_loopw [30] (fun i wr => ∃ kk : Nat, kk ≤ ps.length ∧ i = .int .i64 kk ∧ Aside0 (J (strsTo xs.length ps num den kk) wr) ∧ Aside0 (Keeps kp W1 wr)) (fun i _ => ps.length - (intOf i).toNat)
      case atStart => exact ⟨0, Nat.zero_le _, rfl, ⟨by have := HJ1.out; rw [← HF.out] at this; simpa [strsTo] using this⟩, ⟨Keeps.refl _ _⟩⟩
      case round =>
        clear HJ1
        obtain ⟨kk, hkk, rfl, HJ, HB⟩ := hrel
        replace hc3 := HB.out.cellOf hbs hc3
        replace hpn := HB.out.cellOf hbp hpn
        replace hpd := HB.out.cellOf hbp hpd
        by_cases hlt : kk < ps.length
        · have hltz : (kk : Int) < (ps.length : Int) := by omega
          obtain ⟨ad', e', hcell⟩ := Kd.at_int H3.out (kk : Int) (by omega) (by omega)
          cases e'
          rw [Int.toNat_natCast] at hcell
          have had : kp (ad.add kk).block := by rw [add_block]; exact H3B.out ad rfl hp
          replace hcell := (HK1.out.trans HB.out).cellOf had hcell
          have hm1 : 0 ≤ ((kk : Int) + 1) * den := Int.mul_nonneg (by omega) (by omega)
          have hm2 : ((kk : Int) + 1) * den ≤ 1001 * 8 := Int.mul_le_mul (by omega) hden2 (by omega) (by omega)
          have hm3 : 0 ≤ (kk : Int) * den := Int.mul_nonneg (by omega) (by omega)
          have hm4 : (kk : Int) * den ≤ 1001 * 8 := Int.mul_le_mul (by omega) hden2 (by omega) (by omega)
          have hq1 : 0 ≤ ((kk : Int) + 1) * den / num := Int.ediv_nonneg hm1 (by omega)
          have hq2 : ((kk : Int) + 1) * den / num ≤ 8008 := Int.le_trans (Int.ediv_le_self _ hm1) hm2
          have hq3 : 0 ≤ (kk : Int) * den / num := Int.ediv_nonneg hm3 (by omega)
          have hq4 : (kk : Int) * den / num ≤ 8008 := Int.le_trans (Int.ediv_le_self _ hm3) hm4
          have ht0 := timesF_nonneg hnum1 hden1 kk
          have ht1 : timesF num den kk ≤ 8008 := by unfold timesF; omega
          have HT : Aside0 (((kk : Int) + 1) * den / num - (kk : Int) * den / num = timesF num den kk) := ⟨rfl⟩
          by_cases hn1 : kk + 1 < ps.length
          · have hn1z : (kk : Int) + 1 < (ps.length : Int) := by omega
            obtain ⟨ad'', e'', hcell'⟩ := Kd.at_int H3.out ((kk : Int) + 1) (by omega) (by omega)
            cases e''
            rw [show ((kk : Int) + 1).toNat = kk + 1 from by omega] at hcell'
            have had' : kp (ad.add (kk + 1)).block := by rw [add_block]; exact H3B.out ad rfl hp
            replace hcell' := (HK1.out.trans HB.out).cellOf had' hcell'
            rw [add_succ] at hcell'
            clear had had'
            have HTO : Aside0 (toF xs.length ps kk = rd ps ((kk : Int) + 1)) := ⟨by unfold toF; rw [if_pos hn1]⟩
            have HAT : Aside0 (strAt xs.length ps num den kk = if timesF num den kk = 0 then [(rd ps kk, toF xs.length ps kk, false)] else List.replicate (timesF num den kk).toNat (rd ps kk, toF xs.length ps kk, true)) := ⟨rfl⟩
            rw [HTO.out] at HAT
            clear HTO
            generalize rd ps kk = x at *
            generalize rd ps ((kk : Int) + 1) = y at *
            gi_wp2
            have hw1 : IntKind.i64.wrap ((kk : Int) + 1) = (kk : Int) + 1 := IntWalk.i64_in _ (by omega)
            have hw2 : IntKind.i64.wrap (((kk : Int) + 1) * den) = ((kk : Int) + 1) * den := IntWalk.i64_in _ (by omega)
            have hw3 : IntKind.i64.wrap ((kk : Int) * den) = (kk : Int) * den := IntWalk.i64_in _ (by omega)
            have hw4 : (((kk : Int) + 1) * den).tdiv num = ((kk : Int) + 1) * den / num := Int.tdiv_eq_ediv_of_nonneg hm1
            have hw5 : ((kk : Int) * den).tdiv num = (kk : Int) * den / num := Int.tdiv_eq_ediv_of_nonneg hm3
            have hw6 : IntKind.i64.wrap (((kk : Int) + 1) * den / num) = ((kk : Int) + 1) * den / num := IntWalk.i64_in _ (by omega)
            have hw7 : IntKind.i64.wrap ((kk : Int) * den / num) = (kk : Int) * den / num := IntWalk.i64_in _ (by omega)
            have hw8 : IntKind.i64.wrap (((kk : Int) + 1) * den / num - (kk : Int) * den / num) = timesF num den kk := by rw [HT.out]; exact IntWalk.i64_in _ (by omega)
            refine wpIn_wide.2 ?_
            go_quiet (fail)
            clear hw1 hw2 hw3 hw4 hw5 hw6 hw7 hw8 hm1 hm2 hm3 hm4 hq1 hq2 hq3 hq4 HT
            have HJq := Aside0.mk (hJd _ _ nq HJ.out)
            have HBq : Aside0 (Keeps kp W1 (wr.drewN nq)) := ⟨HB.out.drewN nq⟩
            clear HJ HB hc3 hpn hpd hcell
            generalize wr.drewN nq = w2 at *
            generalize timesF num den kk = t at *
            by_cases ht : t = 0
            · have ht' : (t == 0) = true := by simpa using ht
              have HAT' : Aside0 (strAt xs.length ps num den kk = [(x, y, false)]) := ⟨by rw [HAT.out, if_pos ht]⟩
              obtain ⟨fn, tmps, assign, body, hy, hR⟩ := hY _ (x, y, false) w2 HJq.out (by rw [← HAT'.out]; exact strs_prefix _ _ _ _ _ hlt)
              simp only [encS] at hy
              have htz : ¬ (0 : Int) < t := by omega
              clear HAT ht
              gi_wp2
              refine hR.mono ?_
              clear hy hR
              rintro e W2 (⟨rfl, hJ2, hk2⟩ | ⟨rfl, hJx2⟩)
              · have HK2 := Aside0.mk (HBq.out.trans hk2)
                have HJ2 := Aside0.mk hJ2
                clear hk2 hJ2 HJq HBq
                gi_wp2
                gi_loopw [75] (fun i wr => i = .int .i64 0 ∧ Aside0 (wr = W2)) (fun _ _ => 0)
                case atStart => exact ⟨rfl, ⟨rfl⟩⟩
                case round =>
                  obtain ⟨rfl, HE⟩ := hrel
                  have hE := HE.out
                  clear HE
                  subst hE
                  gi_wp2
                  go_roundw
                  case rel => exact ⟨kk + 1, by omega, by go_num, ⟨by rw [strsTo_succ, HAT'.out]; exact HJ2.out⟩, HK2⟩
                  case measure => simp [intOf]; omega
              · gi_wp2
                refine bodyPost_ret (results_none rfl _ _ _) rfl ?_
                exact ⟨⟨_, rfl⟩, .inr ⟨_, trivial, hJx2⟩⟩
            · have ht' : (t == 0) = false := by simpa using ht
              have HAT' : Aside0 (strAt xs.length ps num den kk = List.replicate t.toNat (x, y, true)) := ⟨by rw [HAT.out, if_neg ht]⟩
              clear HAT ht
              gi_wp2
              refine ⟨fun _ h => (by cases h), ?_⟩
              gi_wp2
              gi_loopw [75] (fun i wr => ∃ jj : Nat, (jj : Int) ≤ t ∧ i = .int .i64 jj ∧ Aside0 (J (strsTo xs.length ps num den kk ++ List.replicate jj (x, y, true)) wr) ∧ Aside0 (Keeps kp W1 wr)) (fun i _ => (t - intOf i).toNat)
              case atStart => exact ⟨0, by omega, rfl, ⟨by simpa using HJq.out⟩, HBq⟩
              case round =>
                clear HJq HBq
                obtain ⟨jj, hjj, rfl, HJ2, HB2⟩ := hrel
                by_cases hjt : (jj : Int) < t
                · obtain ⟨fn, tmps, assign, body, hy, hR⟩ := hY _ (x, y, true) wr HJ2.out (by rw [List.append_assoc, ← List.replicate_succ']; exact strs_prefix_rep _ _ _ _ _ hlt HAT'.out (by omega))
                  simp only [encS] at hy
                  gi_wp2
                  refine hR.mono ?_
                  clear hy hR
                  rintro e W2 (⟨rfl, hJ2, hk2⟩ | ⟨rfl, hJx2⟩)
                  · have HK3 := Aside0.mk (HB2.out.trans hk2)
                    have HJ3 := Aside0.mk hJ2
                    clear hk2 hJ2 HJ2 HB2
                    gi_wp2
                    go_roundw
                    case rel => exact ⟨jj + 1, by omega, by go_num, ⟨by have := HJ3.out; rw [List.append_assoc] at this; rwa [List.replicate_succ']⟩, HK3⟩
                    case measure => simp [intOf]; omega
                  · gi_wp2
                    refine bodyPost_ret (results_none rfl _ _ _) rfl ?_
                    exact ⟨⟨_, rfl⟩, .inr ⟨_, trivial, hJx2⟩⟩
                · have hjt' : ¬ (jj : Int) < t := hjt
                  gi_wp2
                  go_roundw
                  case rel => exact ⟨kk + 1, by omega, by go_num, ⟨by rw [strsTo_succ, HAT'.out, show t.toNat = jj from by omega]; exact HJ2.out⟩, HB2⟩
                  case measure => simp [intOf]; omega
          · have hn1z : ¬ (kk : Int) + 1 < (ps.length : Int) := by omega
            clear had
            have HTO : Aside0 (toF xs.length ps kk = (xs.length : Int)) := ⟨by unfold toF; rw [if_neg hn1]⟩
            have HAT : Aside0 (strAt xs.length ps num den kk = if timesF num den kk = 0 then [(rd ps kk, toF xs.length ps kk, false)] else List.replicate (timesF num den kk).toNat (rd ps kk, toF xs.length ps kk, true)) := ⟨rfl⟩
            rw [HTO.out] at HAT
            clear HTO
            generalize rd ps kk = x at *
            gi_wp2
            have hw1 : IntKind.i64.wrap ((kk : Int) + 1) = (kk : Int) + 1 := IntWalk.i64_in _ (by omega)
            have hw2 : IntKind.i64.wrap (((kk : Int) + 1) * den) = ((kk : Int) + 1) * den := IntWalk.i64_in _ (by omega)
            have hw3 : IntKind.i64.wrap ((kk : Int) * den) = (kk : Int) * den := IntWalk.i64_in _ (by omega)
            have hw4 : (((kk : Int) + 1) * den).tdiv num = ((kk : Int) + 1) * den / num := Int.tdiv_eq_ediv_of_nonneg hm1
            have hw5 : ((kk : Int) * den).tdiv num = (kk : Int) * den / num := Int.tdiv_eq_ediv_of_nonneg hm3
            have hw6 : IntKind.i64.wrap (((kk : Int) + 1) * den / num) = ((kk : Int) + 1) * den / num := IntWalk.i64_in _ (by omega)
            have hw7 : IntKind.i64.wrap ((kk : Int) * den / num) = (kk : Int) * den / num := IntWalk.i64_in _ (by omega)
            have hw8 : IntKind.i64.wrap (((kk : Int) + 1) * den / num - (kk : Int) * den / num) = timesF num den kk := by rw [HT.out]; exact IntWalk.i64_in _ (by omega)
            refine wpIn_wide.2 ?_
            go_quiet (fail)
            clear hw1 hw2 hw3 hw4 hw5 hw6 hw7 hw8 hm1 hm2 hm3 hm4 hq1 hq2 hq3 hq4 HT
            have HJq := Aside0.mk (hJd _ _ nq HJ.out)
            have HBq : Aside0 (Keeps kp W1 (wr.drewN nq)) := ⟨HB.out.drewN nq⟩
            clear HJ HB hc3 hpn hpd hcell
            generalize wr.drewN nq = w2 at *
            generalize timesF num den kk = t at *
            by_cases ht : t = 0
            · have ht' : (t == 0) = true := by simpa using ht
              have HAT' : Aside0 (strAt xs.length ps num den kk = [(x, (xs.length : Int), false)]) := ⟨by rw [HAT.out, if_pos ht]⟩
              obtain ⟨fn, tmps, assign, body, hy, hR⟩ := hY _ (x, (xs.length : Int), false) w2 HJq.out (by rw [← HAT'.out]; exact strs_prefix _ _ _ _ _ hlt)
              simp only [encS] at hy
              have htz : ¬ (0 : Int) < t := by omega
              clear HAT ht
              gi_wp2
              refine hR.mono ?_
              clear hy hR
              rintro e W2 (⟨rfl, hJ2, hk2⟩ | ⟨rfl, hJx2⟩)
              · have HK2 := Aside0.mk (HBq.out.trans hk2)
                have HJ2 := Aside0.mk hJ2
                clear hk2 hJ2 HJq HBq
                gi_wp2
                gi_loopw [75] (fun i wr => i = .int .i64 0 ∧ Aside0 (wr = W2)) (fun _ _ => 0)
                case atStart => exact ⟨rfl, ⟨rfl⟩⟩
                case round =>
                  obtain ⟨rfl, HE⟩ := hrel
                  have hE := HE.out
                  clear HE
                  subst hE
                  gi_wp2
                  go_roundw
                  case rel => exact ⟨kk + 1, by omega, by go_num, ⟨by rw [strsTo_succ, HAT'.out]; exact HJ2.out⟩, HK2⟩
                  case measure => simp [intOf]; omega
              · gi_wp2
                refine bodyPost_ret (results_none rfl _ _ _) rfl ?_
                exact ⟨⟨_, rfl⟩, .inr ⟨_, trivial, hJx2⟩⟩
            · have ht' : (t == 0) = false := by simpa using ht
              have HAT' : Aside0 (strAt xs.length ps num den kk = List.replicate t.toNat (x, (xs.length : Int), true)) := ⟨by rw [HAT.out, if_neg ht]⟩
              clear HAT ht
              gi_wp2
              refine ⟨fun _ h => (by cases h), ?_⟩
              gi_wp2
              gi_loopw [75] (fun i wr => ∃ jj : Nat, (jj : Int) ≤ t ∧ i = .int .i64 jj ∧ Aside0 (J (strsTo xs.length ps num den kk ++ List.replicate jj (x, (xs.length : Int), true)) wr) ∧ Aside0 (Keeps kp W1 wr)) (fun i _ => (t - intOf i).toNat)
              case atStart => exact ⟨0, by omega, rfl, ⟨by simpa using HJq.out⟩, HBq⟩
              case round =>
                clear HJq HBq
                obtain ⟨jj, hjj, rfl, HJ2, HB2⟩ := hrel
                by_cases hjt : (jj : Int) < t
                · obtain ⟨fn, tmps, assign, body, hy, hR⟩ := hY _ (x, (xs.length : Int), true) wr HJ2.out (by rw [List.append_assoc, ← List.replicate_succ']; exact strs_prefix_rep _ _ _ _ _ hlt HAT'.out (by omega))
                  simp only [encS] at hy
                  gi_wp2
                  refine hR.mono ?_
                  clear hy hR
                  rintro e W2 (⟨rfl, hJ2, hk2⟩ | ⟨rfl, hJx2⟩)
                  · have HK3 := Aside0.mk (HB2.out.trans hk2)
                    have HJ3 := Aside0.mk hJ2
                    clear hk2 hJ2 HJ2 HB2
                    gi_wp2
                    go_roundw
                    case rel => exact ⟨jj + 1, by omega, by go_num, ⟨by have := HJ3.out; rw [List.append_assoc] at this; rwa [List.replicate_succ']⟩, HK3⟩
                    case measure => simp [intOf]; omega
                  · gi_wp2
                    refine bodyPost_ret (results_none rfl _ _ _) rfl ?_
                    exact ⟨⟨_, rfl⟩, .inr ⟨_, trivial, hJx2⟩⟩
                · have hjt' : ¬ (jj : Int) < t := hjt
                  gi_wp2
                  go_roundw
                  case rel => exact ⟨kk + 1, by omega, by go_num, ⟨by rw [strsTo_succ, HAT'.out, show t.toNat = jj from by omega]; exact HJ2.out⟩, HB2⟩
                  case measure => simp [intOf]; omega
        · have hltz : ¬ (kk : Int) < (ps.length : Int) := by omega
          obtain rfl : kk = ps.length := by omega
          gi_wp2
          go_end0
          exact ⟨⟨_, rfl⟩, Or.inl ⟨_, rfl, HJ.out⟩⟩
    · gi_wp2
      refine bodyPost_ret (results_none rfl _ _ _) rfl ?_
      exact ⟨⟨_, rfl⟩, .inr ⟨_, trivial, hJx1⟩⟩
  · have hpz : ¬ (0 : Int) < (ps.length : Int) := by omega
    have hlen : ps.length = 0 := by omega
    have hfirst : firstF xs.length ps = (xs.length : Int) := by unfold firstF; rw [if_neg hp]
    obtain ⟨fn, tmps, assign, body, hy, hR⟩ := hY [] (0, (xs.length : Int), true) W h0 (by rw [← hfirst]; exact strs_first _ _ _ _)
    have HF := Aside0.mk hfirst
    have HL := Aside0.mk hlen
    clear hfirst hlen
    simp only [encS] at hy
    gi_wp2
    refine hR.mono ?_
    clear hy hR
    rintro e W1 (⟨rfl, hJ1, hk1⟩ | ⟨rfl, hJx1⟩)
    · have HJ1 := Aside0.mk hJ1
      replace hc3 := hk1.cellOf hbs hc3
      clear hk1 hJ1 h0 hc2 hpn hpd
      gi_wp2
      gi_loopw [30] (fun i wr => i = .int .i64 0 ∧ Aside0 (wr = W1)) (fun _ _ => 0)
      case atStart => exact ⟨rfl, ⟨rfl⟩⟩
      case round =>
        obtain ⟨rfl, HE⟩ := hrel
        have hE := HE.out
        clear HE
        subst hE
        gi_wp2
        go_end0
        refine ⟨⟨_, rfl⟩, Or.inl ⟨_, rfl, ?_⟩⟩
        have := HJ1.out
        simpa [strs, strsTo, HL.out, HF.out] using this
    · gi_wp2
      refine bodyPost_ret (results_none rfl _ _ _) rfl ?_
      exact ⟨⟨_, rfl⟩, .inr ⟨_, trivial, hJx1⟩⟩
end Go.Proofs.Ytoodagohkepcpaa
