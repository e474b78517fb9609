/- The theorem of pieces at a pace, in plain words. -/
import Derived.Test.YtoodagohkepcpaaC1
namespace Go.Proofs.Ytoodagohkepcpaa
open Go.RowKit Go.Proofs.YtoodagohkepcpaaW.PrintWords

/-! ### the news that were before -/
def withNews (l : List S75) (x : St) : St := { x with ns := l ++ x.ns }
theorem begin_news (l : List S75) (x : St) : beginF (withNews l x) = ((beginF x).1, withNews l (beginF x).2) := by
  obtain ⟨⟨q, number, pn, pd, clock, cur, late⟩, g, ns⟩ := x
  unfold beginF withNews
  cases cur with
  | some c => rfl
  | none =>
    cases q with
    | nil => rfl
    | cons p q =>
      dsimp only
      split
      · rfl
      · split <;> simp
theorem end_news (l : List S75) (x : St) : endF (withNews l x) = ((endF x).1, withNews l (endF x).2) := by
  obtain ⟨⟨q, number, pn, pd, clock, cur, late⟩, g, ns⟩ := x
  unfold endF withNews
  cases cur with
  | none => rfl
  | some c =>
    dsimp only
    split
    · rfl
    · simp
theorem round_news (l : List S75) (x : St) : roundF (withNews l x) = ((roundF x).1, withNews l (roundF x).2) := by
  unfold roundF
  rw [begin_news]
  dsimp only
  rw [end_news]
theorem settleF_news (l : List S75) : ∀ (f : Nat) (x : St), settleF f (withNews l x) = withNews l (settleF f x)
  | 0, _ => rfl
  | f + 1, x => by
    unfold settleF
    rw [round_news]
    dsimp only
    split
    · exact settleF_news l f _
    · rfl
theorem settled_news (l : List S75) (x : St) : settled (withNews l x) = withNews l (settled x) := settleF_news l _ x
theorem hear_news (l : List S75) (x : St) : hearF (withNews l x) = ((hearF x).1, withNews l (hearF x).2) := by
  obtain ⟨⟨q, number, pn, pd, clock, cur, late⟩, g, ns⟩ := x
  unfold hearF withNews
  cases cur with
  | none => simp [lateF]
  | some c => simp
theorem step_news (l : List S75) (x : St) : stepF (withNews l x) = ((stepF x).1, withNews l (stepF x).2) := by
  unfold stepF
  rw [settled_news, hear_news]
  rfl
theorem pull_news (l : List S75) (x : St) : ∀ n : Nat, pullF n (withNews l x) = ((pullF n x).1, withNews l (pullF n x).2)
  | 0 => rfl
  | n + 1 => by
    simp only [pullF]
    rw [pull_news l x n]
    dsimp only
    rw [step_news]
/-- The same, the news laid aside. -/
def noNews (x : St) : St := { x with ns := [] }
theorem pull_more (x : St) (m : Nat) : ∀ n : Nat, pullF (m + n) x = ((pullF m x).1 ++ (pullF n (noNews (pullF m x).2)).1, withNews (pullF m x).2.ns (pullF n (noNews (pullF m x).2)).2)
  | 0 => by simp [pullF, withNews, noNews]
  | n + 1 => by
    rw [← Nat.add_assoc]
    simp only [pullF]
    rw [pull_more x m n]
    dsimp only
    rw [step_news]
    simp
theorem pull_front (x : St) : ∀ n : Nat, pullF (n + 1) x = ((stepF x).1 :: (pullF n (stepF x).2).1, (pullF n (stepF x).2).2)
  | 0 => by simp [pullF]
  | n + 1 => by
    rw [pullF, pull_front x n]
    simp [pullF]

/-! ### at rest -/
theorem settled_idle {x : St} (hb : beginF x = (false, x)) (he : endF x = (false, x)) : settled x = x := by
  have hr : roundF x = (false, x) := by unfold roundF; rw [hb]; dsimp only; rw [he]; rfl
  rw [settled_rest (by rw [hr]; simp), hr]
/-- Behind a piece's beginning comes what comes behind its saying. -/
theorem settled_begun {x y : St} (hb : beginF x = (true, y)) (hy : beginF y = (false, y)) : settled x = settled y := by
  have hx : roundF x = (true, (endF y).2) := by unfold roundF; rw [hb]; simp
  have hyr : roundF y = ((endF y).1, (endF y).2) := by unfold roundF; rw [hy]; simp
  rw [settled_again (by rw [hx]), hx]
  dsimp only
  cases he : (endF y).1 with
  | true => rw [settled_again (x := y) (by rw [hyr]; exact he), hyr]
  | false =>
    have h2 : (endF y).2 = y := by
      unfold endF at he ⊢
      cases hc : y.s.cur with
      | none => rfl
      | some c =>
        rw [hc] at he
        dsimp only at he ⊢
        by_cases hl : c.said < c.xs.length
        · rw [if_pos hl]
        · rw [if_neg hl] at he; cases he
    rw [h2]

/-! ### a piece alone -/
def aloneF (xs : List Int) (ss : List S32) (number num pn pd clock : Int) (g : Gr) (ns : List S75) : St := ⟨⟨[], number, pn, pd, clock, some ⟨xs, ss, num, 0⟩, false⟩, g, ns⟩
def startF (p : S30) (pn pd : Int) : St := ⟨⟨[⟨p, 0, 0⟩], 1, pn, pd, 0, none, false⟩, ⟨p.f0, 1099511627776, 0⟩, []⟩
theorem start_alone {p : S30} (hp : okPiece p) (h5 : p.f5 = 0) {pn pd : Int} (hn : 1 ≤ pn ∧ pn ≤ 8) (hd : 1 ≤ pd ∧ pd ≤ 8) : ∀ n : Nat,
    pullF (n + 1) (startF p pn pd) = pullF (n + 1) (aloneF (pacedF p pn pd).f2 (pacedF p pn pd).f4 1 0 pn pd 0 ⟨p.f0, 1099511627776, ((pacedF p pn pd).f2.length : Int)⟩ [⟨1, 0, 0, emptyB⟩]) := by
  intro n
  have hlen := paced_len p hp hn hd
  have hb : beginF (startF p pn pd) = (true, aloneF (pacedF p pn pd).f2 (pacedF p pn pd).f4 1 0 pn pd 0 ⟨p.f0, 1099511627776, ((pacedF p pn pd).f2.length : Int)⟩ [⟨1, 0, 0, emptyB⟩]) := by
    unfold beginF startF aloneF takeF
    dsimp only
    rw [if_neg (by omega), if_pos ⟨rfl, by omega⟩]
    simp
  rw [pull_front, pull_front]
  have : stepF (startF p pn pd) = stepF (aloneF (pacedF p pn pd).f2 (pacedF p pn pd).f4 1 0 pn pd 0 ⟨p.f0, 1099511627776, ((pacedF p pn pd).f2.length : Int)⟩ [⟨1, 0, 0, emptyB⟩]) := by
    unfold stepF
    rw [settled_begun hb rfl]
  rw [this]

theorem dropWhile_all {α : Type} {p : α → Bool} {l : List α} (h : ∀ x ∈ l, p x = true) : l.dropWhile p = [] := by
  induction l with
  | nil => rfl
  | cons a l ih => rw [List.dropWhile_cons_of_pos (h a (by simp))]; exact ih (fun x hx => h x (by simp [hx]))
/-- Nothing waits; the signs lie in the piece. -/
structure Quiet (x : St) : Prop where
  q : x.s.q = []
  cur : ∀ c, x.s.cur = some c → c.said ≤ c.xs.length ∧ ∀ s ∈ c.ss, s.f0 ≤ (c.xs.length : Int)
def togo (x : St) : Nat := match x.s.cur with
  | none => 0
  | some c => c.xs.length - c.said + 1
def paceAt (a b : Int) (x : St) : St := { x with s := { x.s with pn := a, pd := b } }

/-- One step of a speaker for whom nothing waits. -/
theorem step_quiet {x : St} (h : Quiet x) : Quiet (stepF x).2 ∧ room (stepF x).2 = room x ∧ togo (stepF x).2 = togo x - 1 ∧ ∀ a b, stepF (paceAt a b x) = ((stepF x).1, paceAt a b (stepF x).2) := by
  obtain ⟨⟨q, number, pn, pd, clock, cur, late⟩, g, ns⟩ := x
  obtain ⟨hq, hc⟩ := h
  dsimp only at hq hc
  subst hq
  cases cur with
  | none =>
    have hs : ∀ pn pd, settled ⟨⟨[], number, pn, pd, clock, none, late⟩, g, ns⟩ = ⟨⟨[], number, pn, pd, clock, none, late⟩, g, ns⟩ := fun pn pd => settled_idle rfl rfl
    have hstep : ∀ pn pd, stepF ⟨⟨[], number, pn, pd, clock, none, late⟩, g, ns⟩ = (0, ⟨⟨[], number, pn, pd, clock + 1, none, false⟩, g, ns⟩) := by
      intro pn pd
      unfold stepF
      rw [hs]
      simp [hearF, lateF, tickF]
    unfold paceAt
    dsimp only
    rw [hstep]
    refine ⟨⟨rfl, fun c hc => (by cases hc)⟩, rfl, rfl, fun a b => ?_⟩
    rw [hstep]
  | some c =>
    obtain ⟨xs, ss, num, said⟩ := c
    have hc := hc _ rfl
    dsimp only at hc
    by_cases hlt : said < xs.length
    · have hs : ∀ pn pd, settled ⟨⟨[], number, pn, pd, clock, some ⟨xs, ss, num, said⟩, late⟩, g, ns⟩ = ⟨⟨[], number, pn, pd, clock, some ⟨xs, ss, num, said⟩, late⟩, g, ns⟩ := fun pn pd => settled_idle rfl (by unfold endF; dsimp only; rw [if_pos hlt])
      have hstep : ∀ pn pd, stepF ⟨⟨[], number, pn, pd, clock, some ⟨xs, ss, num, said⟩, late⟩, g, ns⟩ = (rd xs (said : Int), ⟨⟨[], number, pn, pd, clock + 1, some ⟨xs, leftF ⟨xs, ss, num, said⟩, num, said + 1⟩, false⟩, g, ns ++ toldF ⟨xs, ss, num, said⟩ clock⟩) := by
        intro pn pd
        unfold stepF
        rw [hs]
        rfl
      unfold paceAt
      dsimp only
      rw [hstep]
      refine ⟨⟨rfl, fun c hc' => ?_⟩, ?_, ?_, fun a b => ?_⟩
      · injection hc' with hc'
        subst hc'
        exact ⟨by dsimp only; omega, fun s hs => hc.2 s ((List.dropWhile_sublist _).subset hs)⟩
      · have := told_left ⟨xs, ss, num, said⟩ clock
        simp [room, roomQ, roomC]
        dsimp only at this
        omega
      · simp [togo]; omega
      · rw [hstep]
    · have hsaid : said = xs.length := by omega
      subst hsaid
      have hend : ∀ pn pd, endF ⟨⟨[], number, pn, pd, clock, some ⟨xs, ss, num, xs.length⟩, late⟩, g, ns⟩ = (true, ⟨⟨[], number, pn, pd, clock, none, late⟩, g, (ns ++ toldF ⟨xs, ss, num, xs.length⟩ clock) ++ [⟨3, clock, num, emptyB⟩]⟩) := by
        intro pn pd
        unfold endF
        dsimp only
        rw [if_neg (by omega)]
      have hs : ∀ pn pd, settled ⟨⟨[], number, pn, pd, clock, some ⟨xs, ss, num, xs.length⟩, late⟩, g, ns⟩ = ⟨⟨[], number, pn, pd, clock, none, late⟩, g, (ns ++ toldF ⟨xs, ss, num, xs.length⟩ clock) ++ [⟨3, clock, num, emptyB⟩]⟩ := by
        intro pn pd
        have hr : roundF ⟨⟨[], number, pn, pd, clock, some ⟨xs, ss, num, xs.length⟩, late⟩, g, ns⟩ = (true, ⟨⟨[], number, pn, pd, clock, none, late⟩, g, (ns ++ toldF ⟨xs, ss, num, xs.length⟩ clock) ++ [⟨3, clock, num, emptyB⟩]⟩) := by
          have hbx : beginF ⟨⟨[], number, pn, pd, clock, some ⟨xs, ss, num, xs.length⟩, late⟩, g, ns⟩ = (false, ⟨⟨[], number, pn, pd, clock, some ⟨xs, ss, num, xs.length⟩, late⟩, g, ns⟩) := rfl
          unfold roundF
          rw [hbx]
          dsimp only
          rw [hend]
          rfl
        rw [settled_again (by rw [hr]), hr]
        exact settled_idle rfl rfl
      have hstep : ∀ pn pd, stepF ⟨⟨[], number, pn, pd, clock, some ⟨xs, ss, num, xs.length⟩, late⟩, g, ns⟩ = (0, ⟨⟨[], number, pn, pd, clock + 1, none, false⟩, g, (ns ++ toldF ⟨xs, ss, num, xs.length⟩ clock) ++ [⟨3, clock, num, emptyB⟩]⟩) := by
        intro pn pd
        unfold stepF
        rw [hs]
        simp [hearF, lateF, tickF]
      unfold paceAt
      dsimp only
      rw [hstep]
      have hl : (leftF ⟨xs, ss, num, xs.length⟩).length = 0 := by
        unfold leftF
        dsimp only
        refine List.length_eq_zero_iff.2 (dropWhile_all fun s hs => ?_)
        unfold dueF
        simpa using hc.2 s hs
      refine ⟨⟨rfl, fun c hc => (by cases hc)⟩, ?_, ?_, fun a b => ?_⟩
      · have := told_left ⟨xs, ss, num, xs.length⟩ clock
        simp [room, roomQ, roomC]
        dsimp only at this
        omega
      · simp [togo]
      · rw [hstep]
theorem pull_quiet {x : St} (h : Quiet x) : ∀ n : Nat, Quiet (pullF n x).2 ∧ room (pullF n x).2 = room x ∧ togo (pullF n x).2 = togo x - n ∧ ∀ a b, pullF n (paceAt a b x) = ((pullF n x).1, paceAt a b (pullF n x).2)
  | 0 => ⟨h, rfl, by simp [pullF], fun _ _ => rfl⟩
  | n + 1 => by
    obtain ⟨h1, h2, h3, h4⟩ := pull_quiet h n
    obtain ⟨k1, k2, k3, k4⟩ := step_quiet h1
    refine ⟨k1, k2.trans h2, ?_, fun a b => ?_⟩
    · simp only [pullF]
      rw [k3, h3]
      omega
    · simp only [pullF]
      rw [h4]
      dsimp only
      rw [k4]

/-- A speaker at a pace says a piece as one at the usual pace says the piece at this pace. -/
theorem paced_talk {p : S30} (hp : okPiece p) (h60 : p.f2.length ≤ 60) (h5 : p.f5 = 0) {pn pd : Int} (hn : 1 ≤ pn ∧ pn ≤ 8) (hd : 1 ≤ pd ∧ pd ≤ 8) {N : Nat} (hN : 500 ≤ N) :
    (pullF N (startF p pn pd)).1 = (pullF N (startF (pacedF p pn pd) 1 1)).1 ∧ (pullF N (startF p pn pd)).2.ns = (pullF N (startF (pacedF p pn pd) 1 1)).2.ns ∧ (pullF N (startF p pn pd)).2.ns.length = p.f4.length + 2 := by
  obtain ⟨n, rfl⟩ : ∃ n, N = n + 1 := ⟨N - 1, by omega⟩
  have hq := paced_ok p hp (by omega) hn hd
  have hq5 : (pacedF p pn pd).f5 = 0 := h5
  have hpl := paced_plain _ hq.ok hq.none 1 1
  have e1 := start_alone hp h5 hn hd n
  have e2 := start_alone hq.ok hq5 (pn := 1) (pd := 1) (by omega) (by omega) n
  rw [hpl] at e2
  have hv : (pacedF p pn pd).f0 = p.f0 := rfl
  rw [hv] at e2
  have hlen := hq.len
  have hroom := paced_room p pn pd
  have hsg := (okSigns_iff.1 hq.ok.signs).each
  generalize pacedF p pn pd = q at *
  have hQ : Quiet (aloneF q.f2 q.f4 1 0 pn pd 0 ⟨p.f0, 1099511627776, (q.f2.length : Int)⟩ [⟨1, 0, 0, emptyB⟩]) := by
    refine ⟨rfl, fun c hc => ?_⟩
    unfold aloneF at hc
    injection hc with hc
    subst hc
    exact ⟨Nat.zero_le _, fun s hs => (hsg s hs).2.1⟩
  obtain ⟨k1, k2, k3, k4⟩ := pull_quiet hQ (n + 1)
  have hpa : paceAt 1 1 (aloneF q.f2 q.f4 1 0 pn pd 0 ⟨p.f0, 1099511627776, (q.f2.length : Int)⟩ [⟨1, 0, 0, emptyB⟩]) = aloneF q.f2 q.f4 1 0 1 1 0 ⟨p.f0, 1099511627776, (q.f2.length : Int)⟩ [⟨1, 0, 0, emptyB⟩] := rfl
  have e3 := k4 1 1
  rw [hpa] at e3
  rw [e1, e2, e3]
  refine ⟨rfl, rfl, ?_⟩
  have ht : togo (aloneF q.f2 q.f4 1 0 pn pd 0 ⟨p.f0, 1099511627776, (q.f2.length : Int)⟩ [⟨1, 0, 0, emptyB⟩]) = q.f2.length + 1 := rfl
  rw [ht] at k3
  have hr : room (aloneF q.f2 q.f4 1 0 pn pd 0 ⟨p.f0, 1099511627776, (q.f2.length : Int)⟩ [⟨1, 0, 0, emptyB⟩]) = q.f4.length + 2 := by
    simp [room, roomQ, roomC, aloneF]; omega
  rw [hr] at k2
  generalize (pullF (n + 1) (aloneF q.f2 q.f4 1 0 pn pd 0 ⟨p.f0, 1099511627776, (q.f2.length : Int)⟩ [⟨1, 0, 0, emptyB⟩])).2 = y at *
  have hy : y.s.cur = none := by
    unfold togo at k3
    cases hc : y.s.cur with
    | none => rfl
    | some c => rw [hc] at k3; dsimp only at k3; omega
  have hyr : room y = y.ns.length := by
    unfold room
    rw [k1.q, hy]
    simp [roomQ, roomC]
  rw [← hyr, k2, hroom]
end Go.Proofs.Ytoodagohkepcpaa
