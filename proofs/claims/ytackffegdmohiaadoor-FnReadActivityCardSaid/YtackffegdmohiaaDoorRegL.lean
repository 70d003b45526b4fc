/- A region that draws its order, whose last operation comes after all the others: the others by types, the last by hand. No condition. -/
import Derived.Test.YtackffegdmohiaaDoorReg
namespace Go.Proofs.YtackffegdmohiaaDoor
open Go

section
variable {P : Program} {ops : Array Oper} {Q : Exit → Act → World → Prop} {a : Act}
/-- The operation m comes after each of those ahead of it, and after no other. -/
def okLast (ops : Array Oper) (m : Nat) : Bool := match ops[m]? with
  | none => false
  | some o => (List.range m).all (fun j => o.after.any (fun e => Region.binds .any e && e.on == j)) && o.after.all (fun e => !Region.binds .any e || decide (e.on < m))
theorem ext_getD (l : Array Bool) (m j : Nat) (d : Bool) (hj : j < m) : (l.extract 0 m).getD j d = l.getD j d := by
  rw [Array.getD_eq_getD_getElem?, Array.getD_eq_getD_getElem?, Array.getElem?_extract]
  by_cases h : j < l.size
  · rw [if_pos (by omega)]; simp
  · rw [if_neg (by omega), Array.getElem?_eq_none (by omega)]
theorem ext_set (l : Array Bool) (m i : Nat) (hi : i < m) (hm : m ≤ l.size) : (l.setIfInBounds i true).extract 0 m = (l.extract 0 m).setIfInBounds i true := by
  apply Array.ext_getElem?
  intro j
  simp only [Array.getElem?_extract, Array.getElem?_setIfInBounds, Array.size_extract]
  by_cases e : i = j
  · subst e; simp [show i < l.size by omega]
  · simp [e]

theorem wp_region_typed_last {id : Nat} {w : World} (m : Nat) (ty : Nat → World → Value → Prop) (c : Nat → Nat) (WI : Nat → World → Prop) (R : World → World → Prop) (N : Nat)
    (hmix : P.follows .mixedOrders = true) (n : Nat) (hn : a.tmps.size = n) (hsz : ops.size = m + 1) (hgd : (ops.extract 0 m).all (fun o => o.guard.isNone) = true) (hok : okOps (ops.extract 0 m) n = true) (hlast : okLast ops m = true)
    (hN : total c m ≤ N) (h0 : WI 0 w.drew)
    (tyR : ∀ i u u' v, R u u' → ty i u v → ty i u' v) (steps : Steps P (ops.extract 0 m) Q ty c WI R N a)
    (done : ∀ a' w', Left (ops.extract 0 m) ty a a' w' → WI (total c m) w' → wpOp P ops Q m (fun a'' w'' => Q .normal a'' w'') a' w') : (Code.region id ops true).wp P Q a w := by
  refine wp_region_any hmix ?_
  have hps : (ops.extract 0 m).size = m := by simp; omega
  have hsame : ∀ i, i < m → (ops.extract 0 m)[i]? = ops[i]? := fun i hi => by rw [Array.getElem?_extract]; simp; intro h1; omega
  have hguard : ∀ i, i < m → ∀ o, ops[i]? = some o → o.guard = none := fun i hi o ho => by
    have := Array.all_eq_true_iff_forall_mem.1 hgd o (Array.mem_of_getElem? ((hsame i hi).trans ho))
    simpa using this
  obtain ⟨om, hom⟩ : ∃ o, ops[m]? = some o := ⟨ops[m], Array.getElem?_eq_getElem (by omega)⟩
  unfold okLast at hlast
  rw [hom] at hlast
  simp only [Bool.and_eq_true, List.all_eq_true, List.mem_range] at hlast
  obtain ⟨hl1, hl2⟩ := hlast
  have readyPre : ∀ (l : Array Bool), l.size = ops.size → ∀ i, i < m → i ∈ Region.ready .any ops l → i ∈ Region.ready .any (ops.extract 0 m) (l.extract 0 m) := by
    intro l hs i hi h
    obtain ⟨h1, o, ho, hed⟩ := mem_ready.1 h
    have hoe := (hsame i hi).trans ho
    refine mem_ready.2 ⟨by rw [ext_getD _ _ _ _ hi]; exact h1, o, hoe, fun e he hb => ?_⟩
    have hlt := (okOps_spec hok hoe).1 e he hb
    rw [ext_getD _ _ _ _ (by omega)]
    exact hed e he hb
  have readyFull : ∀ (l : Array Bool), l.size = ops.size → ∀ i, i < m → i ∈ Region.ready .any (ops.extract 0 m) (l.extract 0 m) → i ∈ Region.ready .any ops l := by
    intro l hs i hi h
    obtain ⟨h1, o, ho, hed⟩ := mem_ready.1 h
    refine mem_ready.2 ⟨by rw [← ext_getD _ m _ _ hi]; exact h1, o, (hsame i hi).symm.trans ho, fun e he hb => ?_⟩
    have hlt := (okOps_spec hok ho).1 e he hb
    rw [← ext_getD _ m _ _ (by omega)]
    exact hed e he hb
  refine wpAny_inv (fun l a' w' => l.size = ops.size ∧ ((l.getD m false = false ∧ TInv (ops.extract 0 m) ty c WI a (l.extract 0 m) a' w') ∨ ((∀ i, i < ops.size → l.getD i true = true) ∧ Q .normal a' w')))
    (fun l a' w' h => h.1) ?_ ?_ ops.size _ a _ (by omega) ⟨by simp, .inl ⟨by simp [hsz], ?_⟩⟩
  · rintro l a' w' i ⟨hs, ⟨hm0, hT⟩ | ⟨hall, hq⟩⟩ hi
    · obtain ⟨h1, o, ho, hed⟩ := mem_ready.1 hi
      have hi2 := (Array.getElem?_eq_some_iff.1 ho).1
      by_cases him : i < m
      · refine wpOp_pre him (hguard i him) (wpOp_mono ?_ (tinv_step n hn hok (by rw [hps]; exact hN) tyR steps _ a' w' i hT (readyPre l hs i him hi)))
        intro a'' w'' h'
        refine ⟨by rw [Array.size_setIfInBounds]; exact hs, .inl ⟨?_, ?_⟩⟩
        · rw [getD_set_ne false (by omega)]; exact hm0
        · rw [ext_set l m i him (by omega)]; exact h'
      · obtain rfl : i = m := by omega
        have hdone : ∀ j, j < i → l.getD j false = true := fun j hj => by
          have := hl1 j hj
          simp only [Array.any_eq_true', Bool.and_eq_true, beq_iff_eq] at this
          obtain ⟨e, he, hb, rfl⟩ := this
          rw [hom] at ho
          cases ho
          exact hed e he hb
        have hr : Region.ready .any (ops.extract 0 i) (l.extract 0 i) = [] := by
          rw [List.eq_nil_iff_forall_not_mem]
          intro j hj
          obtain ⟨h1, o, ho, _⟩ := mem_ready.1 hj
          have hj2 := (Array.getElem?_eq_some_iff.1 ho).1
          rw [hps] at hj2
          rw [ext_getD _ _ _ _ hj2] at h1
          have hd := hdone j hj2
          have hjl : j < l.size := by omega
          simp [hjl] at h1 hd
          rw [h1] at hd; cases hd
        obtain ⟨g1, g2⟩ := tinv_all n hok _ a' w' hT hr
        rw [hps] at g2
        refine wpOp_mono ?_ (done a' w' g1 g2)
        intro a'' w'' h'
        refine ⟨by rw [Array.size_setIfInBounds]; exact hs, .inr ⟨fun j hj => ?_, h'⟩⟩
        by_cases e : j = i
        · subst e; have hjl : j < l.size := by omega
          simp [hjl]
        · rw [getD_set_ne true (Ne.symm e)]
          have hd := hdone j (by omega)
          have hjl : j < l.size := by omega
          simp [hjl] at hd ⊢
          exact hd
    · obtain ⟨h1, o, ho, _⟩ := mem_ready.1 hi
      rw [hall i (Array.getElem?_eq_some_iff.1 ho).1] at h1
      cases h1
  · rintro l a' w' ⟨hs, ⟨hm0, hT⟩ | ⟨hall, hq⟩⟩ hr
    · exfalso
      have hall : ∀ j, j < m → l.getD j false = true := by
        intro j
        induction j using Nat.strongRecOn with
        | ind j ih =>
          intro hj
          cases hlj : l.getD j false with
          | true => rfl
          | false =>
            exfalso
            have hjl : j < l.size := by omega
            have : j ∈ Region.ready .any ops l := mem_ready.2 ⟨by simpa [hjl] using hlj, ops[j], Array.getElem?_eq_getElem (by omega), fun e he hb => by
              have hlt := (okOps_spec hok ((hsame j hj).trans (Array.getElem?_eq_getElem (by omega)))).1 e he hb
              exact ih e.on hlt (by omega)⟩
            rw [hr] at this
            cases this
      have hml : m < l.size := by omega
      have : m ∈ Region.ready .any ops l := mem_ready.2 ⟨by simpa [hml] using hm0, om, hom, fun e he hb => by
        have := Array.all_eq_true_iff_forall_mem.1 hl2 e he
        rw [hb] at this
        exact hall e.on (by simpa using this)⟩
      rw [hr] at this
      cases this
    · exact hq
  · have e : (Array.replicate ops.size false).extract 0 m = Array.replicate (ops.extract 0 m).size false := by
      rw [hps, Array.extract_replicate]; congr 1; omega
    rw [e]
    exact tinv_start _ h0
end
end Go.Proofs.YtackffegdmohiaaDoor
