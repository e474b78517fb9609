/- A region that draws its order, walked inside a fence that lets every function by: an operation that yields its value in every world that meets a condition may be taken first. -/
import Derived.OrdersHeld
import Derived.OrdersIn
import Derived.OwnWalkIn
import Derived.Deep.RegionHeld
namespace Go.Proofs.Ytoodagohkepcpaa
section
variable {F : Fence} {n : Nat} {P : Program} {ops : Array Oper} {Q : Exit → Act → World → Prop} {md : Region.Mode} {S : World → Prop}

/-- No operation of the region is a defer. -/
def noDefer (ops : Array Oper) : Bool := ops.toList.all fun o => match o.op with | .defer _ => false | _ => true
theorem noDefer_at (h : noDefer ops = true) {j : Nat} {o : Oper} (ho : ops[j]? = some o) : ∀ c, o.op ≠ .defer c := by
  intro c e
  have hm : o ∈ ops.toList := by
    have : ops.toList[j]? = some o := by simpa using ho
    exact List.mem_of_getElem? this
  have := List.all_eq_true.1 h o hm
  rw [e] at this
  cases this

theorem yields_wpOpIn (hF : ∀ f, F.fn f) (hd : noDefer ops = true) {i : Nat} {o : Oper} {v : Value} {a : Act} (hi : ops[i]? = some o) (hy : YieldsIf P ops S o v a)
    {K : Act → World → Prop} {w : World} (hS : S w) (h : K (a.put o.dst v) w) : wpOpIn F n P ops Q i K a w := by
  unfold Go.wpOpIn
  simp only [hi]
  rcases hy with ⟨hw, hv⟩ | ⟨hw, rfl⟩
  · simp only [hw, if_true, Oper.wpIn]
    refine ⟨fun f _ => hF f, ?_⟩
    rw [Oper.semAt_plain F _ o (noDefer_at hd hi), hv w hS]
    exact h
  · simp only [hw, Bool.false_eq_true, if_false]
    exact ⟨fun f _ => hF f, h⟩

/-- One operation apart from another: whether the other's value is already in its temporary makes no difference. -/
theorem putIf_wpOpIn (hF : ∀ f, F.fn f) (hd : noDefer ops = true) {j : Nat} {oi oj : Oper} {v : Value} (hj : ops[j]? = some oj) (hap : oi.apart ops oj = true)
    (hsi : ∀ cs b, oi.op ≠ .select cs b) (hsj : ∀ cs b, oj.op ≠ .select cs b)
    (hQ : ∀ c a w, Q (.panic c) (a.put oi.dst v) w → Q (.panic c) a w) {K : Act → World → Prop} {a : Act} {w : World}
    (hy : YieldsIf P ops S oi v a) (h : wpOpIn F n P ops Q j K (a.put oi.dst v) w) :
    wpOpIn F n P ops Q j (fun a' w' => YieldsIf P ops S oi v a' ∧ K (a'.put oi.dst v) w') a w := by
  obtain ⟨h1, h2, h3⟩ := Oper.apart_spec hap
  have keep : ∀ (a : Act), YieldsIf P ops S oi v a → ∀ u, YieldsIf P ops S oi v (a.put oj.dst u) := fun a hy u =>
    hy.of_same (execOp_put oi hsi a oj.dst u h3) (wanted_put oi a oj.dst u h3)
  have hdj := noDefer_at hd hj
  unfold wpOpIn at *
  simp only [hj] at *
  rw [wanted_put oj a oi.dst v h1] at h
  split
  · rename_i hw
    simp only [hw, if_true] at h
    unfold Oper.wpIn at *
    refine ⟨fun f _ => hF f, ?_⟩
    have h := h.2
    rw [Oper.semAt_plain F _ oj hdj, execOp_put oj hsj a oi.dst v h1] at h
    rw [Oper.semAt_plain F _ oj hdj]
    generalize (execOp a.eval oj).run P w = r at *
    cases r with
    | ok x w' =>
      cases x <;> simp only [Oper.uponIn] at h ⊢
      case value u => exact ⟨keep a hy u, by rw [← Act.put_comm a v u h2]; exact h⟩
      case skip => exact ⟨keep a hy _, by rw [← Act.put_comm a v undef h2]; exact h⟩
      case defer d =>
        have hyd : YieldsIf P ops S oi v { a with defers := d :: a.defers } := hy.of_same rfl rfl
        refine ⟨keep _ hyd _, ?_⟩
        rw [← Act.put_comm _ v undef h2, ← Act.put_defers]
        exact h
      case enter f args =>
        refine ⟨h.1, CallsIn.mono h.2 fun e w'' he => ?_⟩
        cases e with
        | returned u => exact ⟨keep a hy u, by rw [← Act.put_comm a v u h2]; exact he⟩
        | panicked c => exact hQ _ _ _ he
        | outgrown => exact he
      case row row args => exact ⟨h.1, RowsIn.mono h.2 fun u w'' he => ⟨keep a hy u, by rw [← Act.put_comm a v u h2]; exact he⟩⟩
      case round l f tmps assign body =>
        refine ⟨h.1, RoundIn.mono h.2 fun e w'' he => ?_⟩
        cases e with
        | returned u => exact ⟨keep a hy u, by rw [← Act.put_comm a v u h2]; exact he⟩
        | panicked c => exact hQ _ _ _ he
        | outgrown => exact he
    | halt x w' =>
      cases x <;> simp only [Oper.uponIn] at h ⊢
      case panic u => exact hQ _ _ _ h
  · rename_i hw
    simp only [hw] at h
    exact ⟨fun f _ => hF f, keep a hy _, by rw [← Act.put_comm a v undef h2]; exact h.2⟩

/-- Whatever order is picked from here on, and every operation that is none of the late ones keeps `S`. -/
def anyHT (F : Fence) (n : Nat) (P : Program) (md : Region.Mode) (ops : Array Oper) (Q : Exit → Act → World → Prop) (S : World → Prop) (T : List Nat) : Nat → Array Bool → Act → World → Prop
  | 0, listed, a, w => Region.ready md ops listed = [] ∧ Q .normal a w
  | fuel + 1, listed, a, w =>
    (Region.ready md ops listed = [] → Q .normal a w) ∧
    ∀ i ∈ Region.ready md ops listed, wpOpIn F n P ops Q i (fun a' w' => (i ∉ T → S w → S w') ∧ anyHT F n P md ops Q S T fuel (listed.setIfInBounds i true) a' w') a w

theorem any_of_anyHT {T : List Nat} : ∀ (fuel : Nat) (listed : Array Bool) (a : Act) (w : World), anyHT F n P md ops Q S T fuel listed a w → wpAnyIn F n P md ops Q fuel listed a w
  | 0, _, _, _, h => h
  | fuel + 1, _, _, _, h => ⟨h.1, fun i hi => wpOpIn_mono (fun a' w' h' => any_of_anyHT fuel _ a' w' h'.2) (h.2 i hi)⟩

/-- Each of these waits for `i`, or for another of these. -/
def waitB (md : Region.Mode) (ops : Array Oper) (i : Nat) (blk : List Nat) : Bool :=
  blk.all fun b => match ops[b]? with
    | some ob => ob.after.toList.any fun e => Region.binds md e && (e.on == i || blk.contains e.on)
    | none => false
def unlistedB (listed : Array Bool) (i : Nat) (blk : List Nat) : Bool := (i :: blk).all fun b => listed.getD b true == false

theorem waitB_not_ready {i : Nat} {blk : List Nat} (h : waitB md ops i blk = true) {listed : Array Bool} (hl : unlistedB listed i blk = true) : ∀ b ∈ blk, b ∉ Region.ready md ops listed := by
  intro b hb hr
  have h1 := List.all_eq_true.1 h b hb
  obtain ⟨_, ob, hob, hall⟩ := mem_ready.1 hr
  rw [hob] at h1
  obtain ⟨e, he, h2⟩ := List.any_eq_true.1 h1
  simp only [Bool.and_eq_true, Bool.or_eq_true, beq_iff_eq, List.contains_eq_mem, decide_eq_true_eq] at h2
  have h3 := hall e (by simpa using he) h2.1
  have hu : listed.getD e.on true = false := by
    have := List.all_eq_true.1 hl e.on (by
      rcases h2.2 with h4 | h4
      · rw [h4]; simp
      · exact List.mem_cons_of_mem _ h4)
    simpa using this
  rcases Nat.lt_or_ge e.on listed.size with h' | h'
  · simp [h'] at hu h3; rw [hu] at h3; cases h3
  · simp [Array.getElem?_eq_none h'] at h3 hu

theorem anyHT_first (hF : ∀ f, F.fn f) (hd : noDefer ops = true) {T blk : List Nat} {S0 : World → Prop} {i : Nat} {oi : Oper} {v : Value} (hi : ops[i]? = some oi) (hsel : ∀ (j : Nat) (o : Oper) cs b, ops[j]? = some o → o.op ≠ .select cs b)
    (hQ : ∀ c a w, Q (.panic c) (a.put oi.dst v) w → Q (.panic c) a w) (hwait : waitB md ops i blk = true) (hS0 : ∀ j w w', j ∉ blk → (j ∉ T → S w → S w') → S0 w → S0 w') :
    ∀ (fuel : Nat) (listed : Array Bool) (a : Act) (w : World), unlistedB listed i blk = true →
      (∀ j oj, ops[j]? = some oj → j ≠ i → listed.getD j true = false → (∀ e ∈ oj.after, Region.binds md e = true → e.on ≠ i) → oi.apart ops oj = true) →
      i ∈ Region.ready md ops listed → YieldsIf P ops S0 oi v a → S0 w →
      anyHT F n P md ops Q S T fuel (listed.setIfInBounds i true) (a.put oi.dst v) w → anyHT F n P md ops Q S T (fuel + 1) listed a w := by
  intro fuel
  induction fuel with
  | zero =>
    intro listed a w _ _ hr hy hS H
    refine ⟨fun h => (by rw [h] at hr; cases hr), fun j hj => ?_⟩
    by_cases hji : j = i
    · subst hji; exact yields_wpOpIn hF hd hi hy hS ⟨fun _ h => h, H⟩
    · have := ready_mono hj hji
      rw [H.1] at this
      cases this
  | succ fuel ih =>
    intro listed a w hun hfree hr hy hS H
    refine ⟨fun h => (by rw [h] at hr; cases hr), fun j hj => ?_⟩
    by_cases hji : j = i
    · subst hji; exact yields_wpOpIn hF hd hi hy hS ⟨fun _ h => h, H⟩
    · have hjb : j ∉ blk := fun hb => waitB_not_ready hwait hun j hb hj
      have h1 := H.2 j (ready_mono hj hji)
      obtain ⟨hjun, oj, hoj, hall⟩ := mem_ready.1 hj
      have hnot : ∀ e ∈ oj.after, Region.binds md e = true → e.on ≠ i := fun e he hb heq => by
        have h1 := hall e he hb
        have h0 := (mem_ready.1 hr).1
        rw [heq] at h1
        rcases Nat.lt_or_ge i listed.size with h' | h'
        · simp [h'] at h0 h1; rw [h0] at h1; cases h1
        · simp [Array.getElem?_eq_none h'] at h1
      have h2 := putIf_wpOpIn hF hd hoj (hfree j oj hoj hji hjun hnot) (fun cs b => hsel i oi cs b hi) (fun cs b => hsel j oj cs b hoj) hQ hy h1
      have hfree' : ∀ k ok, ops[k]? = some ok → k ≠ i → (listed.setIfInBounds j true).getD k true = false →
          (∀ e ∈ ok.after, Region.binds md e = true → e.on ≠ i) → oi.apart ops ok = true := fun k ok hk hki hun hno => by
        refine hfree k ok hk hki ?_ hno
        by_cases hjk : j = k
        · subst hjk; exact hjun
        · rw [getD_set_ne true hjk] at hun; exact hun
      have hun' : unlistedB (listed.setIfInBounds j true) i blk = true := by
        refine List.all_eq_true.2 fun b hb => ?_
        have h3 := List.all_eq_true.1 hun b hb
        have hne : j ≠ b := by
          rcases List.mem_cons.1 hb with rfl | hb
          · exact hji
          · rintro rfl; exact hjb hb
        rw [getD_set_ne true hne]
        exact h3
      refine wpOpIn_mono (fun a' w' h3 => ⟨h3.2.1, ih (listed.setIfInBounds j true) a' w' hun' hfree' (ready_mono hr (Ne.symm hji)) h3.1 (hS0 j w w' hjb h3.2.1 hS) ?_⟩) h2
      rw [Array.setIfInBounds_comm _ _ hji]
      exact h3.2.2

/-- Take number `i` first: it yields wherever `S` holds, and all that is late waits for it. -/
theorem anyHT_take (hF : ∀ f, F.fn f) (hd : noDefer ops = true) {T : List Nat} (blk : List Nat) {i : Nat} {oi : Oper} {v : Value} {fuel : Nat} {listed : Array Bool} {a : Act} {w : World} (hi : ops[i]? = some oi)
    (hs : Region.noSelect ops = true) (hf : Region.free md ops listed i = true) (hr : (Region.ready md ops listed).contains i = true) (hwait : waitB md ops i blk = true) (hun : unlistedB listed i blk = true)
    (hT : T.all (fun t => blk.contains t) = true)
    (hQ : ∀ c a w, Q (.panic c) (a.put oi.dst v) w → Q (.panic c) a w) (hy : YieldsIf P ops S oi v a) (hS : S w)
    (h : anyHT F n P md ops Q S T fuel (listed.setIfInBounds i true) (a.put oi.dst v) w) : anyHT F n P md ops Q S T (fuel + 1) listed a w :=
  anyHT_first hF hd (S0 := S) hi (Region.noSelect_spec hs) hQ hwait (fun j w w' hj hk hS => hk (fun hT' => hj (by simpa using List.all_eq_true.1 hT j hT')) hS) fuel listed a w hun (Region.free_spec hi hf) (by simpa using hr) hy hS h

/-- Take number `i` first: it yields in whatever world. -/
theorem anyHT_pure (hF : ∀ f, F.fn f) (hd : noDefer ops = true) {T : List Nat} {i : Nat} {oi : Oper} {v : Value} {fuel : Nat} {listed : Array Bool} {a : Act} {w : World} (hi : ops[i]? = some oi)
    (hs : Region.noSelect ops = true) (hf : Region.free md ops listed i = true) (hr : (Region.ready md ops listed).contains i = true)
    (hQ : ∀ c a w, Q (.panic c) (a.put oi.dst v) w → Q (.panic c) a w) (hy : YieldsIf P ops (fun _ => True) oi v a)
    (h : anyHT F n P md ops Q S T fuel (listed.setIfInBounds i true) (a.put oi.dst v) w) : anyHT F n P md ops Q S T (fuel + 1) listed a w :=
  anyHT_first hF hd (S0 := fun _ => True) (blk := []) hi (Region.noSelect_spec hs) hQ rfl (fun _ _ _ _ _ _ => trivial) fuel listed a w
    (by
      obtain ⟨h0, _⟩ := mem_ready.1 (show i ∈ Region.ready md ops listed by simpa using hr)
      simpa [unlistedB] using h0) (Region.free_spec hi hf) (by simpa using hr) hy trivial h

theorem anyHT_done {T : List Nat} {listed : Array Bool} {a : Act} {w : World} (hr : Region.ready md ops listed = []) (h : Q .normal a w) : ∀ fuel, anyHT F n P md ops Q S T fuel listed a w
  | 0 => ⟨hr, h⟩
  | _ + 1 => ⟨fun _ => h, by rw [hr]; simp⟩

/-- The one operation that may come up is carried out. -/
theorem anyHT_one {T : List Nat} {i : Nat} {o : Oper} {fuel : Nat} {listed : Array Bool} {a : Act} {w : World} (hr : Region.ready md ops listed = [i]) (ho : ops[i]? = some o) (hw : Region.wanted o (yielded ops a.tmps) = true)
    (h : ∀ K' : Act → World → Prop, Shut (∀ a' w', (i ∉ T → S w → S w') → anyHT F n P md ops Q S T fuel (listed.setIfInBounds i true) a' w' → K' a' w') → Oper.wpIn F n P o a w K' Q) : anyHT F n P md ops Q S T (fuel + 1) listed a w := by
  refine ⟨fun h0 => absurd (hr ▸ h0) (by simp), ?_⟩
  rw [hr]
  intro j hj
  obtain rfl : j = i := by simpa using hj
  refine wpOpIn_step ho fun K' hK => ?_
  rw [if_pos hw]
  exact h K' (fun a w hS hW => hK a w ⟨hS, hW⟩)

/-- The beginning. -/
theorem region_anyHT {id : Nat} {a : Act} {w : World} (S : World → Prop) (T : List Nat) (hm : P.follows .mixedOrders = true) (hS : S w.drew)
    (h : S w.drew → anyHT F n P .any ops Q S T ops.size (Array.replicate ops.size false) a w.drew) : (Code.region id ops true).wpIn F n P Q a w :=
  wpIn_region_any hm (any_of_anyHT _ _ _ _ (h hS))
end
end Go.Proofs.Ytoodagohkepcpaa
