/- A piece at a pace. -/
import Derived.Test.YtoodagohkepcpaaA4
import Derived.Test.YtoodagohkepcpaaH
namespace Go.Proofs.Ytoodagohkepcpaa
open Go.RowKit Go.Shelf Go.Proofs.YtoodagohkepcpaaW.PrintWords

/-! ### what it computes -/
structure PSt where
  out : List Int
  signs : List S32
  left : List S32
def mid (xs : List Int) (a b : Int) : List Int := (xs.take b.toNat).drop a.toNat
def place (at_ : Nat) (x : Int × Int × Bool) (s : S32) : S32 := ⟨(at_ : Int) + (if x.2.2 then s.f0 - x.1 else 0), s.f1⟩
def paceStep (xs : List Int) (st : PSt) (x : Int × Int × Bool) : PSt :=
  { out := if x.2.2 then st.out ++ mid xs x.1 x.2.1 else st.out
    signs := st.signs ++ (st.left.takeWhile (fun s => decide (s.f0 < x.2.1))).map (place st.out.length x)
    left := st.left.dropWhile (fun s => decide (s.f0 < x.2.1)) }
def paceSt (xs : List Int) (ss : List S32) (l : List (Int × Int × Bool)) : PSt := l.foldl (paceStep xs) ⟨[], [], ss⟩
theorem paceSt_snoc (xs : List Int) (ss : List S32) (l : List (Int × Int × Bool)) (x : Int × Int × Bool) : paceSt xs ss (l ++ [x]) = paceStep xs (paceSt xs ss l) x := by simp [paceSt]
def pacedF (p : S30) (num den : Int) : S30 :=
  let st := paceSt p.f2 p.f4 (strs p.f2.length p.f3 num den)
  ⟨p.f0, p.f1, st.out, [], st.signs ++ st.left.map (fun s => ⟨(st.out.length : Int), s.f1⟩), p.f5⟩

/-- A stretch lies in the piece. -/
abbrev Str (n : Nat) := { x : Int × Int × Bool // 0 ≤ x.1 ∧ x.1 ≤ x.2.1 ∧ x.2.1 ≤ (n : Int) }
def encStr (n : Nat) (x : Str n) : Array Value := encS x.1

theorem strs_good {n : Nat} {ps : List Int} (hp : okPeriods n ps) (num den : Int) : ∀ x ∈ strs n ps num den, 0 ≤ x.1 ∧ x.1 ≤ x.2.1 ∧ x.2.1 ≤ (n : Int) := by
  intro x hx
  unfold strs strsTo at hx
  rcases List.mem_cons.1 hx with rfl | hx
  · unfold firstF
    by_cases h : 0 < ps.length
    · rw [if_pos h]
      have := hp.2 0 h
      simp at this ⊢
      omega
    · rw [if_neg h]; simp
  · obtain ⟨i, hi, hx⟩ := List.mem_flatMap.1 hx
    have hi' : i < ps.length := by simpa using hi
    have h1 := hp.2 i hi'
    have hy : x.1 = rd ps i ∧ x.2.1 = toF n ps i := by
      unfold strAt at hx
      split at hx
      · have := List.mem_singleton.1 hx; subst this; exact ⟨rfl, rfl⟩
      · have := (List.mem_replicate.1 hx).2; subst this; exact ⟨rfl, rfl⟩
    rw [hy.1, hy.2]
    unfold toF
    split
    · rename_i h
      have h2 := hp.2 (i + 1) h
      have h3 := h2.2.2 (by omega)
      rw [show ((i + 1 : Nat) : Int) - 1 = (i : Int) from by omega] at h3
      push_cast at h2 h3
      omega
    · omega

theorem strs_length {n : Nat} {ps : List Int} (num den : Int) (hnum : 1 ≤ num ∧ num ≤ 8) (hden : 1 ≤ den ∧ den ≤ 8) (hl : ps.length ≤ 1000) : (strs n ps num den).length ≤ 9001 := by
  have key : ∀ k : Nat, ((strsTo n ps num den k).length : Int) ≤ 1 + k + (k : Int) * den / num := by
    intro k
    induction k with
    | zero => simp [strsTo]
    | succ k ih =>
      have ht := timesF_nonneg (num := num) (den := den) hnum.1 hden.1 k
      have ha : ((strAt n ps num den k).length : Int) ≤ 1 + timesF num den k := by
        unfold strAt
        split
        · simp; omega
        · simp; omega
      rw [strsTo_succ, List.length_append]
      unfold timesF at ha
      push_cast
      omega
  have h1 := key ps.length
  have h2 : (ps.length : Int) * den ≤ 1000 * 8 := Int.mul_le_mul (by omega) hden.2 (by omega) (by omega)
  have h3 : (ps.length : Int) * den / num ≤ (ps.length : Int) * den := Int.ediv_le_self _ (Int.mul_nonneg (by omega) (by omega))
  unfold strs
  omega

set_option maxRecDepth 100000 in
set_option maxHeartbeats 4000000 in
theorem stretches_stops (n : Nat) (hn : 1 ≤ n) (Bs Bp : Nat) (kp : Nat → Prop) (f0 f1 f5 num den : Int) (A2 A3 A4 : Option Addr) (c2 c3 c4 m4 : Nat) (xs ps : List Int)
    (hxs : xs.length ≤ 40000) (hp : okPeriods xs.length ps) (hnum : 1 ≤ num ∧ num ≤ 8) (hden : 1 ≤ den ∧ den ≤ 8) (hbs : kp Bs) (hbp : kp Bp) (w : World)
    (h30 : w.heap[Bs]? = some (.cells #[.int .i64 f0, .int .i64 f1, .slice A2 xs.length c2, .slice A3 ps.length c3, .slice A4 m4 c4, .int .i64 f5] 30))
    (h38 : w.heap[Bp]? = some (.cells #[.int .i64 num, .int .i64 den] 38))
    (h3 : Kd.C (Kd.int .i64) w A3 ps.length ps) (h3b : ∀ ad, A3 = some ad → 0 < ps.length → kp ad.block) :
    SeqStopsK Fence.wide n Try.prog 76 #[.pointer (some ⟨Bs, 0, none⟩), .pointer (some ⟨Bp, 0, none⟩)] (encStr xs.length) (Keeps kp)
      (fun ys => ys.map (·.1) = strs xs.length ps num den) (fun _ => True) (strs xs.length ps num den).length w := by
  intro l J Jx W hW hJ hJx hY h0
  have hgood := strs_good hp num den
  have hb30 : W.heap[Bs]? = _ := (hW.block Bs (blk_lt h30)).trans h30
  have hb38 : W.heap[Bp]? = _ := (hW.block Bp (blk_lt h38)).trans h38
  have hJd : ∀ s W m, J s W → J s (W.drewN m) := fun s W m h => hJ s W _ none h ⟨rfl, rfl, rfl, Nat.le_refl _, fun _ _ _ => rfl⟩ (fun r e => by cases e)
  refine (stretches1_in n hn l Bs Bp kp f0 f1 f5 num den A2 A3 A4 c2 c3 c4 m4 xs ps hxs hp.1 hnum hden hbs hbp
    (fun t W => ∃ s : List (Str xs.length), s.map (·.1) = t ∧ J s W) (fun t W => ∃ s : List (Str xs.length), Jx s W)
    (fun t W m h => by obtain ⟨s, h1, h2⟩ := h; exact ⟨s, h1, hJd s W m h2⟩) ?_ W hb30 hb38 (Kd.C_below h3 hW) h3b ⟨[], rfl, h0⟩).mono ?_
  · rintro pre x W1 ⟨s, hs, hj⟩ hpre
    have hx : x ∈ strs xs.length ps num den := hpre.subset (by simp)
    have hlen : s.length < (strs xs.length ps num den).length := by
      have := hpre.length_le
      rw [List.length_append, List.length_singleton, ← hs, List.length_map] at this
      omega
    obtain ⟨fn, tmps, assign, body, hy, hR⟩ := hY s ⟨x, hgood x hx⟩ W1 hj hlen
    refine ⟨fn, tmps, assign, body, hy, hR.mono ?_⟩
    rintro e W' (⟨he, hj', hk⟩ | ⟨he, hj'⟩)
    · exact .inl ⟨he, ⟨_, by rw [List.map_append, hs]; rfl, hj'⟩, hk⟩
    · exact .inr ⟨he, _, hj'⟩
  · rintro e W' ⟨hv, ⟨ys, rfl, s, hs, hj⟩ | ⟨pre, _, s, hj⟩⟩
    · exact ⟨hv, .inl ⟨s, hs, hj⟩⟩
    · exact ⟨hv, .inr ⟨s, trivial, hj⟩⟩

theorem stretches_any (x0 x1 x2 x3 x4 x5 y0 y1 : Value) (w : World) :
    Calls Try.prog 62 #[.agg #[x0, x1, x2, x3, x4, x5], .agg #[y0, y1]] w fun e w' => e = .returned (.func (.func 76) #[] #[.pointer (some ⟨w.heap.size, 0, none⟩), .pointer (some ⟨w.heap.size + 1, 0, none⟩)]) ∧ w' = (w.alloc (.cells #[x0, x1, x2, x3, x4, x5] 30)).alloc (.cells #[y0, y1] 38) := by
  go_enter Try.func62, Try.ntmps62
  go_wp2
  go_ret
  exact ⟨rfl, rfl⟩
end Go.Proofs.Ytoodagohkepcpaa
