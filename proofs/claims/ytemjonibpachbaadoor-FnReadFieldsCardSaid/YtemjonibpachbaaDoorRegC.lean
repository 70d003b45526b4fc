/- A region that draws its order, by types, where what an operation has left counts until another one has used it; a tail of operations by hand. No condition. -/
import Derived.Test.YtemjonibpachbaaDoorRegT
namespace Go.Proofs.YtemjonibpachbaaDoor
open Go

section
variable {P : Program} {ops : Array Oper} {Q : Exit → Act → World → Prop} {a : Act}
/-- From k back to j along the edges, in at most f steps. -/
def reach (ops : Array Oper) : Nat → Nat → Nat → Bool
  | 0, _, _ => false
  | f + 1, k, j => match ops[k]? with
    | none => false
    | some o => o.after.any (fun e => Region.binds .any e && (e.on == j || reach ops f e.on j))
theorem reach_done {l : Array Bool} {j : Nat} (hc : Closed ops l) : ∀ (f k : Nat) (o : Oper), ops[k]? = some o → (∀ e ∈ o.after, Region.binds .any e = true → l.getD e.on false = true) → reach ops f k j = true → l.getD j false = true
  | 0, _, _, _, _, h => by cases h
  | f + 1, k, o, ho, hl, h => by
    unfold reach at h
    rw [ho] at h
    simp only [Array.any_eq_true', Bool.and_eq_true, Bool.or_eq_true, beq_iff_eq] at h
    obtain ⟨e, he, hb, h2⟩ := h
    rcases h2 with rfl | h2
    · exact hl e he hb
    · cases ho' : ops[e.on]? with
      | none =>
        cases f with
        | zero => cases h2
        | succ f => unfold reach at h2; rw [ho'] at h2; cases h2
      | some o' => exact reach_done hc f e.on o' ho' (fun e' he' hb' => hc e.on o' (hl e he hb) ho' e' he' hb') h2
def okLastT (ops : Array Oper) (m : Nat) : Bool := match ops[m]? with
  | none => false
  | some o => (List.range m).all (fun j => reach ops 8 m j) && o.after.all (fun e => !Region.binds .any e || decide (e.on < m))
/-- What an operation comes after is used by it, or by none. -/
def okUse (ops : Array Oper) (use : Nat → Nat) (m : Nat) : Bool := (List.range m).all fun i => match ops[i]? with
  | none => true
  | some o => o.after.all fun e => !Region.binds .any e || use e.on == i || decide (m ≤ use e.on)
theorem okUse_spec {use : Nat → Nat} {m i : Nat} {o : Oper} (h : okUse ops use m = true) (hi : i < m) (ho : ops[i]? = some o) : ∀ e ∈ o.after, Region.binds .any e = true → use e.on = i ∨ m ≤ use e.on := fun e he hb => by
  have h1 := List.all_eq_true.1 h i (List.mem_range.2 hi)
  rw [ho] at h1
  have h2 := Array.all_eq_true_iff_forall_mem.1 h1 e he
  rw [hb] at h2
  simpa using h2
/-- Where i runs what j has left does not count: it has been used, is used now, or j comes later. -/
def skipC (ops : Array Oper) (use : Nat → Nat) (i j : Nat) : Bool := use j == i || (match ops[i]? with
  | none => true
  | some o => o.after.any fun e => Region.binds .any e && e.on == use j) || (match ops[j]? with
  | none => true
  | some o => o.after.any fun e => Region.binds .any e && e.on == i)
structure TInvC (ops : Array Oper) (ty : Nat → World → Value → Prop) (use : Nat → Nat) (WI : World → Prop) (a0 : Act) (l : Array Bool) (a : Act) (w : World) : Prop where
  lsize : l.size = ops.size
  defers : a.defers = a0.defers
  size : a.tmps.size = a0.tmps.size
  old : ∀ t, (∀ (i : Nat) (o' : Oper), ops[i]? = some o' → o'.dst ≠ some t) → a.tmps[t]? = a0.tmps[t]?
  closed : Closed ops l
  val : ∀ (i : Nat) (o : Oper), ops[i]? = some o → l.getD i false = true → l.getD (use i) false = false → Has ty i o a w
  wi : WI w
structure LeftC (ops : Array Oper) (ty : Nat → World → Value → Prop) (use : Nat → Nat) (m : Nat) (a0 : Act) (a : Act) (w : World) : Prop where
  defers : a.defers = a0.defers
  size : a.tmps.size = a0.tmps.size
  old : ∀ t, (∀ (i : Nat) (o' : Oper), ops[i]? = some o' → o'.dst ≠ some t) → a.tmps[t]? = a0.tmps[t]?
  val : ∀ (i : Nat) (o : Oper), ops[i]? = some o → m ≤ use i → Has ty i o a w
theorem LeftC.at {ty : Nat → World → Value → Prop} {use : Nat → Nat} {m : Nat} {a0 : Act} {a : Act} {w : World} (h : LeftC ops ty use m a0 a w) (t : Nat) (hk : okOld ops t = true) : a.tmps[t]? = a0.tmps[t]? := h.old t (okOld_spec hk)
theorem LeftC.some_at {ty : Nat → World → Value → Prop} {use : Nat → Nat} {m : Nat} {a0 : Act} {a : Act} {w : World} (h : LeftC ops ty use m a0 a w) (t : Nat) (ht : t < a0.tmps.size) : ∃ u, a.tmps[t]? = some u := ⟨_, Array.getElem?_eq_getElem (by rw [h.size]; exact ht)⟩
/-- What each operation owes. -/
def StepsC (P : Program) (ops : Array Oper) (Q : Exit → Act → World → Prop) (ty : Nat → World → Value → Prop) (WI : World → Prop) (R : Nat → World → World → Prop) (a : Act) : Prop :=
  AllSteps (fun i o => ∀ a' w', WI w' → Finds ops ty a o a' w' →
      wpOp P ops Q i (fun a'' w'' => ∃ v, a'' = a'.put o.dst v ∧ R i w' w'' ∧ ty i w'' (slotted o v) ∧ WI w'') a' w') 0 ops.toList
/-- Guards of the first m operations lie among these. -/
def okGuards (ops : Array Oper) (m : Nat) : Bool := (ops.extract 0 m).all fun o => match o.guard with
  | none => true
  | some (j, _) => decide (j < m)
theorem wpOp_preG {m i : Nat} {K : Act → World → Prop} {a' : Act} {w : World} (hi : i < m) (hgd : okGuards ops m = true) (h : wpOp P (ops.extract 0 m) Q i K a' w) : wpOp P ops Q i K a' w := by
  have e : ∀ j, j < m → (ops.extract 0 m)[j]? = ops[j]? := fun j hj => by
    rw [Array.getElem?_extract]; simp
    intro h1; omega
  unfold wpOp at h ⊢
  rw [e i hi] at h
  cases ho : ops[i]? with
  | none => rw [ho] at h; exact h
  | some o =>
    rw [ho] at h
    have hw : Region.wanted o (yielded (ops.extract 0 m) a'.tmps) = Region.wanted o (yielded ops a'.tmps) := by
      have := Array.all_eq_true_iff_forall_mem.1 hgd o (Array.mem_of_getElem? ((e i hi).trans ho))
      unfold Region.wanted
      cases hg : o.guard with
      | none => rfl
      | some p =>
        obtain ⟨j, b⟩ := p
        rw [hg] at this
        simp only [yielded, e j (of_decide_eq_true this)]
    simp only [hw] at h
    exact h
section
variable {ty : Nat → World → Value → Prop} {use : Nat → Nat} {WI : World → Prop} {R : Nat → World → World → Prop}
theorem tinvC_step (n : Nat) (hn : a.tmps.size = n) (hok : okOps ops n = true) (huse : okUse ops use ops.size = true) (tyR : ∀ i j, i ≠ j → skipC ops use i j = false → ∀ u u' v, R i u u' → ty j u v → ty j u' v) (steps : StepsC P ops Q ty WI R a)
    (l : Array Bool) (a' : Act) (w' : World) (i : Nat) (h : TInvC ops ty use WI a l a' w') (hi : i ∈ Region.ready .any ops l) :
    wpOp P ops Q i (fun a'' w'' => TInvC ops ty use WI a (l.setIfInBounds i true) a'' w'') a' w' := by
  have step : ∀ i o, ops[i]? = some o → ∀ a' w', WI w' → Finds ops ty a o a' w' →
      wpOp P ops Q i (fun a'' w'' => ∃ v, a'' = a'.put o.dst v ∧ R i w' w'' ∧ ty i w'' (slotted o v) ∧ WI w'') a' w' := fun i o ho => by
    have := steps.get i o (by simpa using ho)
    rwa [Nat.zero_add] at this
  obtain ⟨hl0, o, ho, hed⟩ := mem_ready.1 hi
  obtain ⟨hback, hdst⟩ := okOps_spec hok ho
  have hil := (Array.getElem?_eq_some_iff.1 ho).1
  have hlt : i < l.size := by rw [h.lsize]; exact hil
  have hli : l.getD i false = false := by simpa [hlt] using hl0
  have live : ∀ e ∈ o.after, Region.binds .any e = true → l.getD (use e.on) false = false := fun e he hb => by
    rcases okUse_spec huse hil ho e he hb with h1 | h1
    · rw [h1]; exact hli
    · have : ¬ use e.on < l.size := by rw [h.lsize]; omega
      simp [this]
  refine wpOp_mono ?_ (step i o ho a' w' h.wi ⟨h.old, fun e he hb o' ho' => h.val e.on o' ho' (hed e he hb) (live e he hb)⟩)
  rintro a'' w'' ⟨v, rfl, hR, hv, hw⟩
  refine ⟨by rw [Array.size_setIfInBounds]; exact h.lsize, ?_, ?_, ?_, h.closed.step hi, ?_, hw⟩
  · cases hd : o.dst <;> exact h.defers
  · cases hd : o.dst with
    | none => exact h.size
    | some d => simp only [Act.put, Array.size_setIfInBounds]; exact h.size
  · intro t ht
    cases hd : o.dst with
    | none => exact h.old t ht
    | some d =>
      have hne : d ≠ t := fun e => ht i o ho (by rw [hd, e])
      simp only [Act.put, Array.getElem?_setIfInBounds_ne hne]
      exact h.old t ht
  · intro j o' ho' hj hu
    by_cases e : j = i
    · subst e
      rw [ho] at ho'
      cases ho'
      unfold Has
      unfold slotted at hv
      cases hd : o.dst with
      | none => rw [hd] at hv; exact hv
      | some d =>
        rw [hd] at hv
        have hds : d < a'.tmps.size := by rw [h.size, hn]; exact (hdst d hd).1
        exact ⟨v, by simp [Act.put, hds], hv⟩
    · have hj' : l.getD j false = true := by rw [← getD_set_ne false (Ne.symm e)]; exact hj
      have hui : use j ≠ i := fun e2 => by rw [e2] at hu; simp [hlt] at hu
      have hu' : l.getD (use j) false = false := by rw [← getD_set_ne false (Ne.symm hui)]; exact hu
      have hsk : skipC ops use i j = false := by
        cases hs : skipC ops use i j with
        | false => rfl
        | true =>
          exfalso
          unfold skipC at hs
          rw [ho, ho'] at hs
          simp only [Bool.or_eq_true, beq_iff_eq, Array.any_eq_true', Bool.and_eq_true] at hs
          rcases hs with (hs | ⟨e2, he2, hb2, h2⟩) | ⟨e2, he2, hb2, h2⟩
          · exact hui hs
          · have := hed e2 he2 hb2
            rw [h2, hu'] at this
            cases this
          · have := h.closed j o' hj' ho' e2 he2 hb2
            rw [h2, hli] at this
            cases this
      have hh := h.val j o' ho' hj' hu'
      unfold Has at hh ⊢
      cases hd' : o'.dst with
      | none => rw [hd'] at hh; exact tyR i j (Ne.symm e) hsk _ _ _ hR hh
      | some d' =>
        rw [hd'] at hh
        obtain ⟨u, hu2, hty⟩ := hh
        refine ⟨u, ?_, tyR i j (Ne.symm e) hsk _ _ _ hR hty⟩
        cases hd : o.dst with
        | none => exact hu2
        | some d =>
          have hne : d ≠ d' := fun e2 => (hdst d hd).2 j o' e ho' (by rw [hd', e2])
          simp only [Act.put, Array.getElem?_setIfInBounds_ne hne]
          exact hu2
theorem tinvC_all {m : Nat} (n : Nat) (hok : okOps ops n = true) (hm : ops.size = m) (l : Array Bool) (a' : Act) (w' : World) (h : TInvC ops ty use WI a l a' w') (hr : Region.ready .any ops l = []) :
    LeftC ops ty use m a a' w' ∧ WI w' := by
  have all : ∀ i, i < ops.size → l.getD i false = true := by
    intro i
    induction i using Nat.strongRecOn with
    | ind i ih =>
      intro hi
      cases hli : l.getD i false with
      | true => rfl
      | false =>
        exfalso
        have hil : i < l.size := by rw [h.lsize]; exact hi
        have hmem : i ∈ Region.ready .any ops l := mem_ready.2 ⟨by simpa [hil] using hli, ops[i], Array.getElem?_eq_getElem hi, fun e he hb => ih e.on ((okOps_spec hok (Array.getElem?_eq_getElem hi)).1 e he hb) (by have := (okOps_spec hok (Array.getElem?_eq_getElem hi)).1 e he hb; omega)⟩
        rw [hr] at hmem
        cases hmem
  refine ⟨⟨h.defers, h.size, h.old, fun i o ho hu => h.val i o ho (all i (Array.getElem?_eq_some_iff.1 ho).1) ?_⟩, h.wi⟩
  have : ¬ use i < l.size := by rw [h.lsize]; omega
  simp [this]
theorem tinvC_start (w : World) (h0 : WI w) : TInvC ops ty use WI a (Array.replicate ops.size false) a w := by
  have hf : ∀ i, (Array.replicate ops.size false).getD i false = false := fun i => by
    by_cases h : i < ops.size <;> simp [h]
  refine ⟨by simp, rfl, rfl, fun _ _ => rfl, fun i o h => ?_, fun i o _ h => ?_, h0⟩ <;> (rw [hf] at h; cases h)
end
/-- A region that draws its order, by types, where a value counts until it has been used; a tail of operations by hand. -/
theorem wp_region_typed_used {id : Nat} {w : World} (m : Nat) (ty : Nat → World → Value → Prop) (use : Nat → Nat) (WI : World → Prop) (R : Nat → World → World → Prop)
    (hmix : P.follows .mixedOrders = true) (n : Nat) (hn : a.tmps.size = n) (hsz : m ≤ ops.size) (hgd : okGuards ops m = true) (hok : okOps (ops.extract 0 m) n = true) (hlast : (List.range (ops.size - m)).all (fun j => okLastT ops (m + j)) = true)
    (huse : okUse (ops.extract 0 m) use m = true) (h0 : WI w.drew)
    (tyR : ∀ i j, i ≠ j → skipC (ops.extract 0 m) use i j = false → ∀ u u' v, R i u u' → ty j u v → ty j u' v) (steps : StepsC P (ops.extract 0 m) Q ty WI R a)
    (done : ∀ a' w', LeftC (ops.extract 0 m) ty use m a a' w' → WI w' → wpOps P ops Q (List.range' m (ops.size - m)) a' w') : (Code.region id ops true).wp P Q a w := by
  refine wp_region_any hmix ?_
  have hps : (ops.extract 0 m).size = m := by simp; omega
  have hsame : ∀ i, i < m → (ops.extract 0 m)[i]? = ops[i]? := fun i hi => by rw [Array.getElem?_extract]; simp; intro h1; omega
  -- what stands ahead of an operation of the tail
  have tail : ∀ k, m ≤ k → k < ops.size → ∀ o, ops[k]? = some o → (∀ l : Array Bool, Closed ops l → (∀ e ∈ o.after, Region.binds .any e = true → l.getD e.on false = true) → ∀ j, j < k → l.getD j false = true) ∧ (∀ e ∈ o.after, Region.binds .any e = true → e.on < k) := by
    intro k hk1 hk2 o ho
    have h := List.all_eq_true.1 hlast (k - m) (List.mem_range.2 (by omega))
    rw [show m + (k - m) = k by omega] at h
    unfold okLastT at h
    rw [ho] at h
    simp only [Bool.and_eq_true, List.all_eq_true, List.mem_range] at h
    refine ⟨fun l hc hl j hj => reach_done hc 8 k o ho hl (h.1 j hj), fun e he hb => ?_⟩
    · have := Array.all_eq_true_iff_forall_mem.1 h.2 e he
      rw [hb] at this
      simpa using this
  have readyPre : ∀ (l : Array Bool), l.size = ops.size → ∀ i, i < m → i ∈ Region.ready .any ops l → i ∈ Region.ready .any (ops.extract 0 m) (l.extract 0 m) := by
    intro l hs i hi h
    obtain ⟨h1, o, ho, hed⟩ := mem_ready.1 h
    have hoe := (hsame i hi).trans ho
    refine mem_ready.2 ⟨by rw [ext_getD _ _ _ _ hi]; exact h1, o, hoe, fun e he hb => ?_⟩
    have hlt := (okOps_spec hok hoe).1 e he hb
    rw [ext_getD _ _ _ _ (by omega)]
    exact hed e he hb
  have allPre : ∀ (l : Array Bool), l.size = ops.size → (∀ j, j < m → l.getD j false = true) → Region.ready .any (ops.extract 0 m) (l.extract 0 m) = [] := by
    intro l hs hdone
    rw [List.eq_nil_iff_forall_not_mem]
    intro j hj
    obtain ⟨h1, o, ho, _⟩ := mem_ready.1 hj
    have hj2 := (Array.getElem?_eq_some_iff.1 ho).1
    rw [hps] at hj2
    rw [ext_getD _ _ _ _ hj2] at h1
    have hd := hdone j hj2
    have hjl : j < l.size := by omega
    simp [hjl] at h1 hd
    rw [h1] at hd; cases hd
  refine wpAny_inv (fun l a' w' => l.size = ops.size ∧ Closed ops l ∧ (((∀ i, m ≤ i → l.getD i false = false) ∧ TInvC (ops.extract 0 m) ty use WI a (l.extract 0 m) a' w') ∨ (∃ k, m ≤ k ∧ k ≤ ops.size ∧ (∀ i, i < ops.size → l.getD i true = decide (i < k)) ∧ wpOps P ops Q (List.range' k (ops.size - k)) a' w')))
    (fun l a' w' h => h.1) ?_ ?_ ops.size _ a _ (by omega) ⟨by simp, fun i o h => by (exfalso; by_cases h2 : i < ops.size <;> simp [h2] at h), .inl ⟨fun i hi => by by_cases h : i < ops.size <;> simp [h], ?_⟩⟩
  · rintro l a' w' i ⟨hs, hcl, ⟨hm0, hT⟩ | ⟨k, hk1, hk2, hall, hq⟩⟩ hi
    · obtain ⟨h1, o, ho, hed⟩ := mem_ready.1 hi
      have hi2 := (Array.getElem?_eq_some_iff.1 ho).1
      by_cases him : i < m
      · refine wpOp_preG him hgd (wpOp_mono ?_ (tinvC_step n hn hok (by rw [hps]; exact huse) tyR steps _ a' w' i hT (readyPre l hs i him hi)))
        intro a'' w'' h'
        refine ⟨by rw [Array.size_setIfInBounds]; exact hs, hcl.step hi, .inl ⟨fun j hj => ?_, ?_⟩⟩
        · rw [getD_set_ne false (by omega)]; exact hm0 j hj
        · rw [ext_set l m i him (by omega)]; exact h'
      · have hdone : ∀ j, j < i → l.getD j false = true := (tail i (by omega) hi2 o ho).1 l hcl hed
        have eim : i = m := by
          rcases Nat.lt_or_ge m i with h | h
          · have := hdone m h; rw [hm0 m (Nat.le_refl _)] at this; cases this
          · omega
        subst eim
        obtain ⟨g1, g2⟩ := tinvC_all n hok hps _ a' w' hT (allPre l hs hdone)
        have hd := done a' w' g1 g2
        rw [show ops.size - i = (ops.size - (i + 1)) + 1 by omega, List.range'_succ, wpOps_cons] at hd
        refine wpOp_mono ?_ hd
        intro a'' w'' h'
        refine ⟨by rw [Array.size_setIfInBounds]; exact hs, hcl.step hi, .inr ⟨i + 1, by omega, by omega, fun j hj => ?_, h'⟩⟩
        by_cases e : j = i
        · subst e
          have hjl : j < l.size := by omega
          simp [hjl]
        · rw [getD_set_ne true (Ne.symm e)]
          have hjl : j < l.size := by omega
          rcases Nat.lt_or_ge j i with h | h
          · have hd := hdone j h
            simp [hjl] at hd ⊢
            rw [hd]; simp; omega
          · have hd := hm0 j h
            simp [hjl] at hd ⊢
            rw [hd]; simp; omega
    · obtain ⟨h1, o, ho, hed⟩ := mem_ready.1 hi
      have hi2 := (Array.getElem?_eq_some_iff.1 ho).1
      rw [hall i hi2] at h1
      have hik : k ≤ i := by simpa using h1
      have eik : i = k := by
        rcases Nat.lt_or_ge k i with h | h
        · have h3 := (tail i (by omega) hi2 o ho).1 l hcl hed k h
          have h4 := hall k (by omega)
          have hjl : k < l.size := by omega
          simp [hjl] at h3 h4
          rw [h3] at h4; cases h4
        · omega
      subst eik
      rw [show ops.size - i = (ops.size - (i + 1)) + 1 by omega, List.range'_succ, wpOps_cons] at hq
      refine wpOp_mono ?_ hq
      intro a'' w'' h'
      refine ⟨by rw [Array.size_setIfInBounds]; exact hs, hcl.step hi, .inr ⟨i + 1, by omega, by omega, fun j hj => ?_, h'⟩⟩
      by_cases e : j = i
      · subst e
        have hjl : j < l.size := by omega
        simp [hjl]
      · rw [getD_set_ne true (Ne.symm e), hall j hj]
        simp; omega
  · rintro l a' w' ⟨hs, hcl, ⟨hm0, hT⟩ | ⟨k, hk1, hk2, hall, hq⟩⟩ hr
    · have hdone : ∀ j, j < m → l.getD j false = true := by
        intro j
        induction j using Nat.strongRecOn with
        | ind j ih =>
          intro hj
          cases hlj : l.getD j false with
          | true => rfl
          | false =>
            exfalso
            have hjl : j < l.size := by omega
            have : j ∈ Region.ready .any ops l := mem_ready.2 ⟨by simpa [hjl] using hlj, ops[j], Array.getElem?_eq_getElem (by omega), fun e he hb => by
              have hlt := (okOps_spec hok ((hsame j hj).trans (Array.getElem?_eq_getElem (by omega)))).1 e he hb
              exact ih e.on hlt (by omega)⟩
            rw [hr] at this
            cases this
      obtain ⟨g1, g2⟩ := tinvC_all n hok hps _ a' w' hT (allPre l hs hdone)
      have hd := done a' w' g1 g2
      rcases Nat.lt_or_ge m ops.size with h | h
      · exfalso
        have hml : m < l.size := by omega
        have h0 := hm0 m (Nat.le_refl _)
        have : m ∈ Region.ready .any ops l := mem_ready.2 ⟨by simpa [hml] using h0, ops[m], Array.getElem?_eq_getElem h, fun e he hb =>
          hdone e.on ((tail m (Nat.le_refl _) h _ (Array.getElem?_eq_getElem h)).2 e he hb)⟩
        rw [hr] at this
        cases this
      · rw [show ops.size - m = 0 by omega] at hd
        simpa [wpOps] using hd
    · rcases Nat.lt_or_ge k ops.size with h | h
      · exfalso
        have hkl : k < l.size := by omega
        have h0 := hall k h
        have : k ∈ Region.ready .any ops l := mem_ready.2 ⟨by simpa using h0, ops[k], Array.getElem?_eq_getElem h, fun e he hb => by
          have hlt := (tail k hk1 h _ (Array.getElem?_eq_getElem h)).2 e he hb
          have h4 := hall e.on (by omega)
          have hjl : e.on < l.size := by omega
          simp [hjl] at h4 ⊢
          rw [h4]; simpa using hlt⟩
        rw [hr] at this
        cases this
      · rw [show ops.size - k = 0 by omega] at hq
        simpa [wpOps] using hq
  · have e : (Array.replicate ops.size false).extract 0 m = Array.replicate (ops.extract 0 m).size false := by
      rw [hps, Array.extract_replicate]; congr 1; omega
    rw [e]
    exact tinvC_start _ h0
end
end Go.Proofs.YtemjonibpachbaaDoor
