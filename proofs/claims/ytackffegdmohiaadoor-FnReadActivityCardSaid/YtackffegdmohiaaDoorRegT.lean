/- A region that draws its order, with a tail in which each operation comes after all the others: the first by types, the tail by hand. No condition. -/
import Derived.Test.YtackffegdmohiaaDoorRegL
namespace Go.Proofs.YtackffegdmohiaaDoor
open Go

section
variable {P : Program} {ops : Array Oper} {Q : Exit → Act → World → Prop} {a : Act}
/-- The operation k comes after each of those ahead of it, at once or by way of one other, and after no other. -/
def okLast2 (ops : Array Oper) (m : Nat) : Bool := match ops[m]? with
  | none => false
  | some o => (List.range m).all (fun j => o.after.any (fun e => Region.binds .any e && (e.on == j || (match ops[e.on]? with
      | none => false
      | some o' => o'.after.any (fun e' => Region.binds .any e' && e'.on == j))))) && o.after.all (fun e => !Region.binds .any e || decide (e.on < m))
/-- What has run has run behind what it comes after. -/
def Closed (ops : Array Oper) (l : Array Bool) : Prop := ∀ (i : Nat) (o : Oper), l.getD i false = true → ops[i]? = some o → ∀ e ∈ o.after, Region.binds .any e = true → l.getD e.on false = true
theorem Closed.step {ops : Array Oper} {l : Array Bool} {i : Nat} (h : Closed ops l) (hi : i ∈ Region.ready .any ops l) : Closed ops (l.setIfInBounds i true) := by
  obtain ⟨h1, o, ho, hed⟩ := mem_ready.1 hi
  have mono : ∀ j, l.getD j false = true → (l.setIfInBounds i true).getD j false = true := fun j hj => by
    by_cases e : j = i
    · subst e
      have hlt : j < l.size := by
        rcases Nat.lt_or_ge j l.size with h | h
        · exact h
        · simp [Array.getElem?_eq_none h] at hj
      simp [hlt]
    · rw [getD_set_ne false (Ne.symm e)]; exact hj
  intro j o' hj ho' e he hb
  by_cases e2 : j = i
  · subst e2
    rw [ho] at ho'
    cases ho'
    exact mono _ (hed e he hb)
  · rw [getD_set_ne false (Ne.symm e2)] at hj
    exact mono _ (h j o' hj ho' e he hb)
/-- The same with a tail of operations, each of which comes after all those ahead of it. -/
theorem wp_region_typed_tail {id : Nat} {w : World} (m : Nat) (ty : Nat → World → Value → Prop) (c : Nat → Nat) (WI : Nat → World → Prop) (R : World → World → Prop) (N : Nat)
    (hmix : P.follows .mixedOrders = true) (n : Nat) (hn : a.tmps.size = n) (hsz : m ≤ ops.size) (hgd : (ops.extract 0 m).all (fun o => o.guard.isNone) = true) (hok : okOps (ops.extract 0 m) n = true) (hlast : (List.range (ops.size - m)).all (fun j => okLast2 ops (m + j)) = true)
    (hN : total c m ≤ N) (h0 : WI 0 w.drew)
    (tyR : ∀ i u u' v, R u u' → ty i u v → ty i u' v) (steps : Steps P (ops.extract 0 m) Q ty c WI R N a)
    (done : ∀ a' w', Left (ops.extract 0 m) ty a a' w' → WI (total c m) w' → wpOps P ops Q (List.range' m (ops.size - m)) a' w') : (Code.region id ops true).wp P Q a w := by
  refine wp_region_any hmix ?_
  have hps : (ops.extract 0 m).size = m := by simp; omega
  have hsame : ∀ i, i < m → (ops.extract 0 m)[i]? = ops[i]? := fun i hi => by rw [Array.getElem?_extract]; simp; intro h1; omega
  have hguard : ∀ i, i < m → ∀ o, ops[i]? = some o → o.guard = none := fun i hi o ho => by
    have := Array.all_eq_true_iff_forall_mem.1 hgd o (Array.mem_of_getElem? ((hsame i hi).trans ho))
    simpa using this
  -- what stands ahead of an operation of the tail
  have tail : ∀ k, m ≤ k → k < ops.size → ∀ o, ops[k]? = some o → (∀ l : Array Bool, Closed ops l → (∀ e ∈ o.after, Region.binds .any e = true → l.getD e.on false = true) → ∀ j, j < k → l.getD j false = true) ∧ (∀ e ∈ o.after, Region.binds .any e = true → e.on < k) := by
    intro k hk1 hk2 o ho
    have h := List.all_eq_true.1 hlast (k - m) (List.mem_range.2 (by omega))
    rw [show m + (k - m) = k by omega] at h
    unfold okLast2 at h
    rw [ho] at h
    simp only [Bool.and_eq_true, List.all_eq_true, List.mem_range] at h
    refine ⟨fun l hc hl j hj => ?_, fun e he hb => ?_⟩
    · have := h.1 j hj
      simp only [Array.any_eq_true', Bool.and_eq_true, Bool.or_eq_true, beq_iff_eq] at this
      obtain ⟨e, he, hb, h2⟩ := this
      rcases h2 with rfl | h2
      · exact hl e he hb
      · cases ho' : ops[e.on]? with
        | none => rw [ho'] at h2; cases h2
        | some o' =>
          rw [ho'] at h2
          simp only [Array.any_eq_true', Bool.and_eq_true, beq_iff_eq] at h2
          obtain ⟨e', he', hb', rfl⟩ := h2
          exact hc e.on o' (hl e he hb) ho' e' he' hb'
    · have := Array.all_eq_true_iff_forall_mem.1 h.2 e he
      rw [hb] at this
      simpa using this
  have readyPre : ∀ (l : Array Bool), l.size = ops.size → ∀ i, i < m → i ∈ Region.ready .any ops l → i ∈ Region.ready .any (ops.extract 0 m) (l.extract 0 m) := by
    intro l hs i hi h
    obtain ⟨h1, o, ho, hed⟩ := mem_ready.1 h
    have hoe := (hsame i hi).trans ho
    refine mem_ready.2 ⟨by rw [ext_getD _ _ _ _ hi]; exact h1, o, hoe, fun e he hb => ?_⟩
    have hlt := (okOps_spec hok hoe).1 e he hb
    rw [ext_getD _ _ _ _ (by omega)]
    exact hed e he hb
  have allPre : ∀ (l : Array Bool), l.size = ops.size → (∀ j, j < m → l.getD j false = true) → Region.ready .any (ops.extract 0 m) (l.extract 0 m) = [] := by
    intro l hs hdone
    rw [List.eq_nil_iff_forall_not_mem]
    intro j hj
    obtain ⟨h1, o, ho, _⟩ := mem_ready.1 hj
    have hj2 := (Array.getElem?_eq_some_iff.1 ho).1
    rw [hps] at hj2
    rw [ext_getD _ _ _ _ hj2] at h1
    have hd := hdone j hj2
    have hjl : j < l.size := by omega
    simp [hjl] at h1 hd
    rw [h1] at hd; cases hd
  refine wpAny_inv (fun l a' w' => l.size = ops.size ∧ Closed ops l ∧ (((∀ i, m ≤ i → l.getD i false = false) ∧ TInv (ops.extract 0 m) ty c WI a (l.extract 0 m) a' w') ∨ (∃ k, m ≤ k ∧ k ≤ ops.size ∧ (∀ i, i < ops.size → l.getD i true = decide (i < k)) ∧ wpOps P ops Q (List.range' k (ops.size - k)) a' w')))
    (fun l a' w' h => h.1) ?_ ?_ ops.size _ a _ (by omega) ⟨by simp, fun i o h => by (exfalso; by_cases h2 : i < ops.size <;> simp [h2] at h), .inl ⟨fun i hi => by by_cases h : i < ops.size <;> simp [h], ?_⟩⟩
  · rintro l a' w' i ⟨hs, hcl, ⟨hm0, hT⟩ | ⟨k, hk1, hk2, hall, hq⟩⟩ hi
    · obtain ⟨h1, o, ho, hed⟩ := mem_ready.1 hi
      have hi2 := (Array.getElem?_eq_some_iff.1 ho).1
      by_cases him : i < m
      · refine wpOp_pre him (hguard i him) (wpOp_mono ?_ (tinv_step n hn hok (by rw [hps]; exact hN) tyR steps _ a' w' i hT (readyPre l hs i him hi)))
        intro a'' w'' h'
        refine ⟨by rw [Array.size_setIfInBounds]; exact hs, hcl.step hi, .inl ⟨fun j hj => ?_, ?_⟩⟩
        · rw [getD_set_ne false (by omega)]; exact hm0 j hj
        · rw [ext_set l m i him (by omega)]; exact h'
      · have hdone : ∀ j, j < i → l.getD j false = true := (tail i (by omega) hi2 o ho).1 l hcl hed
        have eim : i = m := by
          rcases Nat.lt_or_ge m i with h | h
          · have := hdone m h; rw [hm0 m (Nat.le_refl _)] at this; cases this
          · omega
        subst eim
        obtain ⟨g1, g2⟩ := tinv_all n hok _ a' w' hT (allPre l hs hdone)
        rw [hps] at g2
        have hd := done a' w' g1 g2
        rw [show ops.size - i = (ops.size - (i + 1)) + 1 by omega, List.range'_succ, wpOps_cons] at hd
        refine wpOp_mono ?_ hd
        intro a'' w'' h'
        refine ⟨by rw [Array.size_setIfInBounds]; exact hs, hcl.step hi, .inr ⟨i + 1, by omega, by omega, fun j hj => ?_, h'⟩⟩
        by_cases e : j = i
        · subst e
          have hjl : j < l.size := by omega
          simp [hjl]
        · rw [getD_set_ne true (Ne.symm e)]
          have hjl : j < l.size := by omega
          rcases Nat.lt_or_ge j i with h | h
          · have hd := hdone j h
            simp [hjl] at hd ⊢
            rw [hd]; simp; omega
          · have hd := hm0 j h
            simp [hjl] at hd ⊢
            rw [hd]; simp; omega
    · obtain ⟨h1, o, ho, hed⟩ := mem_ready.1 hi
      have hi2 := (Array.getElem?_eq_some_iff.1 ho).1
      rw [hall i hi2] at h1
      have hik : k ≤ i := by simpa using h1
      have eik : i = k := by
        rcases Nat.lt_or_ge k i with h | h
        · have h3 := (tail i (by omega) hi2 o ho).1 l hcl hed k h
          have h4 := hall k (by omega)
          have hjl : k < l.size := by omega
          simp [hjl] at h3 h4
          rw [h3] at h4; cases h4
        · omega
      subst eik
      rw [show ops.size - i = (ops.size - (i + 1)) + 1 by omega, List.range'_succ, wpOps_cons] at hq
      refine wpOp_mono ?_ hq
      intro a'' w'' h'
      refine ⟨by rw [Array.size_setIfInBounds]; exact hs, hcl.step hi, .inr ⟨i + 1, by omega, by omega, fun j hj => ?_, h'⟩⟩
      by_cases e : j = i
      · subst e
        have hjl : j < l.size := by omega
        simp [hjl]
      · rw [getD_set_ne true (Ne.symm e), hall j hj]
        simp; omega
  · rintro l a' w' ⟨hs, hcl, ⟨hm0, hT⟩ | ⟨k, hk1, hk2, hall, hq⟩⟩ hr
    · have hdone : ∀ j, j < m → l.getD j false = true := by
        intro j
        induction j using Nat.strongRecOn with
        | ind j ih =>
          intro hj
          cases hlj : l.getD j false with
          | true => rfl
          | false =>
            exfalso
            have hjl : j < l.size := by omega
            have : j ∈ Region.ready .any ops l := mem_ready.2 ⟨by simpa [hjl] using hlj, ops[j], Array.getElem?_eq_getElem (by omega), fun e he hb => by
              have hlt := (okOps_spec hok ((hsame j hj).trans (Array.getElem?_eq_getElem (by omega)))).1 e he hb
              exact ih e.on hlt (by omega)⟩
            rw [hr] at this
            cases this
      obtain ⟨g1, g2⟩ := tinv_all n hok _ a' w' hT (allPre l hs hdone)
      rw [hps] at g2
      have hd := done a' w' g1 g2
      rcases Nat.lt_or_ge m ops.size with h | h
      · exfalso
        have hml : m < l.size := by omega
        have h0 := hm0 m (Nat.le_refl _)
        have : m ∈ Region.ready .any ops l := mem_ready.2 ⟨by simpa [hml] using h0, ops[m], Array.getElem?_eq_getElem h, fun e he hb =>
          hdone e.on ((tail m (Nat.le_refl _) h _ (Array.getElem?_eq_getElem h)).2 e he hb)⟩
        rw [hr] at this
        cases this
      · rw [show ops.size - m = 0 by omega] at hd
        simpa [wpOps] using hd
    · rcases Nat.lt_or_ge k ops.size with h | h
      · exfalso
        have hkl : k < l.size := by omega
        have h0 := hall k h
        have : k ∈ Region.ready .any ops l := mem_ready.2 ⟨by simpa using h0, ops[k], Array.getElem?_eq_getElem h, fun e he hb => by
          have hlt := (tail k hk1 h _ (Array.getElem?_eq_getElem h)).2 e he hb
          have h4 := hall e.on (by omega)
          have hjl : e.on < l.size := by omega
          simp [hjl] at h4 ⊢
          rw [h4]; simpa using hlt⟩
        rw [hr] at this
        cases this
      · rw [show ops.size - k = 0 by omega] at hq
        simpa [wpOps] using hq
  · have e : (Array.replicate ops.size false).extract 0 m = Array.replicate (ops.extract 0 m).size false := by
      rw [hps, Array.extract_replicate]; congr 1; omega
    rw [e]
    exact tinv_start _ h0
end
end Go.Proofs.YtackffegdmohiaaDoor
