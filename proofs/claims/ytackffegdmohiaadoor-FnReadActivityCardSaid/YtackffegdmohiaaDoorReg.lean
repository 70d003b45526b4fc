/- A region that draws its order, by types: each operation, in whatever order the edges allow, leaves a value of its type. No condition. -/
import Derived.Orders
import Derived.RegionTactic
import Derived.KernelRfl
namespace Go.Proofs.YtackffegdmohiaaDoor
open Go

section
variable {P : Program} {ops : Array Oper} {Q : Exit → Act → World → Prop}

theorem getD_of {a : Array Value} {t : Nat} {v d : Value} (h : a[t]? = some v) : a.getD t d = v := by simp [Array.getD_eq_getD_getElem?, h]
def nlisted (l : Array Bool) : Nat := l.toList.count true
theorem nlisted_set {l : Array Bool} {i : Nat} (hi : l.getD i true = false) : nlisted (l.setIfInBounds i true) = nlisted l + 1 := by
  have hlt : i < l.size := by
    rcases Nat.lt_or_ge i l.size with h | h
    · exact h
    · simp [Array.getElem?_eq_none h] at hi
  have hv : l[i] = false := by simpa [hlt] using hi
  unfold nlisted
  rw [Array.toList_setIfInBounds, List.count_set (by simpa using hlt)]
  simp [hv]
theorem nlisted_lt {l : Array Bool} {i : Nat} (hi : l.getD i true = false) : nlisted l < l.size := by
  have hlt : i < l.size := by
    rcases Nat.lt_or_ge i l.size with h | h
    · exact h
    · simp [Array.getElem?_eq_none h] at hi
  have h1 := nlisted_set hi
  have h2 : nlisted (l.setIfInBounds i true) ≤ (l.setIfInBounds i true).size := by
    unfold nlisted; rw [← Array.length_toList]; exact List.count_le_length
  rw [Array.size_setIfInBounds] at h2
  omega

theorem wpAny_inv (Inv : Array Bool → Act → World → Prop) (size : ∀ l a w, Inv l a w → l.size = ops.size)
    (step : ∀ l a w i, Inv l a w → i ∈ Region.ready .any ops l → wpOp P ops Q i (fun a' w' => Inv (l.setIfInBounds i true) a' w') a w)
    (done : ∀ l a w, Inv l a w → Region.ready .any ops l = [] → Q .normal a w) :
    ∀ (fuel : Nat) (l : Array Bool) (a : Act) (w : World), ops.size ≤ fuel + nlisted l → Inv l a w → wpAny P .any ops Q fuel l a w := by
  intro fuel
  induction fuel with
  | zero =>
    intro l a w hf h
    have hr : Region.ready .any ops l = [] := by
      rw [List.eq_nil_iff_forall_not_mem]
      intro i hi
      have := nlisted_lt (mem_ready.1 hi).1
      have := size l a w h
      omega
    exact ⟨hr, done l a w h hr⟩
  | succ fuel ih =>
    intro l a w hf h
    refine ⟨fun hr => done l a w h hr, fun i hi => wpOp_mono (fun a' w' h' => ih _ a' w' ?_ h') (step l a w i h hi)⟩
    have := nlisted_set (mem_ready.1 hi).1
    omega

def spent (c : Nat → Nat) (l : Array Bool) : Nat → Nat
  | 0 => 0
  | n + 1 => spent c l n + (if l.getD n false = true then c n else 0)
theorem spent_ge (c : Nat → Nat) (l : Array Bool) (i : Nat) : ∀ n, n ≤ i → spent c (l.setIfInBounds i true) n = spent c l n
  | 0, _ => rfl
  | n + 1, h => by
    have e : (l.setIfInBounds i true).getD n false = l.getD n false := getD_set_ne false (by omega)
    simp only [spent, spent_ge c l i n (by omega), e]
theorem spent_set (c : Nat → Nat) (l : Array Bool) (i : Nat) (hi : l.getD i true = false) : ∀ n, i < n → spent c (l.setIfInBounds i true) n = spent c l n + c i
  | n + 1, h => by
    have hlt : i < l.size := by
      rcases Nat.lt_or_ge i l.size with h | h
      · exact h
      · simp [Array.getElem?_eq_none h] at hi
    have h0 : l.getD i false = false := by simpa [hlt] using hi
    have h1 : (l.setIfInBounds i true).getD i false = true := by simp [hlt]
    by_cases e : i = n
    · subst e
      simp only [spent, spent_ge c l i i (Nat.le_refl _), h0, h1]
      simp
    · have e2 : (l.setIfInBounds i true).getD n false = l.getD n false := getD_set_ne false e
      simp only [spent, spent_set c l i hi n (by omega), e2]
      omega
def total (c : Nat → Nat) : Nat → Nat
  | 0 => 0
  | n + 1 => total c n + c n
theorem spent_le (c : Nat → Nat) (l : Array Bool) : ∀ n, spent c l n ≤ total c n
  | 0 => Nat.le_refl _
  | n + 1 => by
    have := spent_le c l n
    simp only [spent, total]
    split <;> omega
theorem spent_none (c : Nat → Nat) (l : Array Bool) (h : ∀ i, l.getD i false = false) : ∀ n, spent c l n = 0
  | 0 => rfl
  | n + 1 => by simp [spent, spent_none c l h n, h n]

/-- Edges lead back, no slot is written twice, and each slot lies in the frame. -/
def okOps (ops : Array Oper) (n : Nat) : Bool :=
  (List.range ops.size).all fun i => match ops[i]? with
    | none => true
    | some o => o.after.all (fun e => !Region.binds .any e || decide (e.on < i)) && (match o.dst with
      | none => true
      | some d => decide (d < n) && (List.range ops.size).all fun j => j == i || match ops[j]? with
        | none => true
        | some o' => o'.dst != some d)
theorem okOps_spec {n : Nat} (h : okOps ops n = true) {i : Nat} {o : Oper} (ho : ops[i]? = some o) :
    (∀ e ∈ o.after, Region.binds .any e = true → e.on < i) ∧ ∀ d, o.dst = some d → d < n ∧ ∀ j o', j ≠ i → ops[j]? = some o' → o'.dst ≠ some d := by
  have hi := (Array.getElem?_eq_some_iff.1 ho).1
  have h1 := List.all_eq_true.1 h i (List.mem_range.2 hi)
  rw [ho] at h1
  simp only [Bool.and_eq_true] at h1
  refine ⟨fun e he hb => by have := Array.all_eq_true_iff_forall_mem.1 h1.1 e he; simpa [hb] using this, ?_⟩
  intro d hd
  rw [hd] at h1
  simp only [Bool.and_eq_true, decide_eq_true_eq] at h1
  refine ⟨h1.2.1, fun j o' hj ho' => ?_⟩
  have h3 := List.all_eq_true.1 h1.2.2 j (List.mem_range.2 (Array.getElem?_eq_some_iff.1 ho').1)
  rw [ho'] at h3
  simpa [hj] using h3

/-- What an operation that has run has left: a value of its type in its slot; one without a slot: what it says of the world. -/
def Has (ty : Nat → World → Value → Prop) (i : Nat) (o : Oper) (a : Act) (w : World) : Prop :=
  match o.dst with
  | some d => ∃ v, a.tmps[d]? = some v ∧ ty i w v
  | none => ty i w undef

/-- What an operation leaves: its value, where it has a slot. -/
def slotted (o : Oper) (v : Value) : Value := match o.dst with
  | some _ => v
  | none => undef
/-- What an operation finds: the slots that nothing in the region writes, as they were; of each operation that it comes after, a value of its type. -/
structure Finds (ops : Array Oper) (ty : Nat → World → Value → Prop) (a0 : Act) (o : Oper) (a : Act) (w : World) : Prop where
  old : ∀ t, (∀ (i : Nat) (o' : Oper), ops[i]? = some o' → o'.dst ≠ some t) → a.tmps[t]? = a0.tmps[t]?
  val : ∀ e ∈ o.after, Region.binds .any e = true → ∀ (o' : Oper), ops[e.on]? = some o' → Has ty e.on o' a w
/-- What stands behind the region. -/
structure Left (ops : Array Oper) (ty : Nat → World → Value → Prop) (a0 : Act) (a : Act) (w : World) : Prop where
  defers : a.defers = a0.defers
  size : a.tmps.size = a0.tmps.size
  old : ∀ t, (∀ (i : Nat) (o' : Oper), ops[i]? = some o' → o'.dst ≠ some t) → a.tmps[t]? = a0.tmps[t]?
  val : ∀ (i : Nat) (o : Oper), ops[i]? = some o → Has ty i o a w

structure TInv (ops : Array Oper) (ty : Nat → World → Value → Prop) (c : Nat → Nat) (WI : Nat → World → Prop) (a0 : Act) (l : Array Bool) (a : Act) (w : World) : Prop where
  lsize : l.size = ops.size
  defers : a.defers = a0.defers
  size : a.tmps.size = a0.tmps.size
  old : ∀ t, (∀ (i : Nat) (o' : Oper), ops[i]? = some o' → o'.dst ≠ some t) → a.tmps[t]? = a0.tmps[t]?
  val : ∀ (i : Nat) (o : Oper), ops[i]? = some o → l.getD i false = true → Has ty i o a w
  wi : WI (spent c l ops.size) w

def AllSteps (f : Nat → Oper → Prop) : Nat → List Oper → Prop
  | _, [] => True
  | k, o :: r => f k o ∧ AllSteps f (k + 1) r
theorem AllSteps.get {f : Nat → Oper → Prop} : ∀ {l : List Oper} {k : Nat}, AllSteps f k l → ∀ i o, l[i]? = some o → f (k + i) o
  | o :: r, k, ⟨h1, h2⟩, i, o', h => by
    cases i with
    | zero => simp at h; subst h; exact h1
    | succ i => have := AllSteps.get h2 i o' (by simpa using h); rwa [show k + 1 + i = k + (i + 1) by omega] at this
  | [], _, _, i, o', h => by simp at h
def okOld (ops : Array Oper) (t : Nat) : Bool := ops.all fun o => o.dst != some t
theorem okOld_spec {t : Nat} (h : okOld ops t = true) : ∀ (i : Nat) (o' : Oper), ops[i]? = some o' → o'.dst ≠ some t := fun i o' ho => by
  have := Array.all_eq_true_iff_forall_mem.1 h o' (Array.mem_of_getElem? ho)
  simpa using this
theorem Finds.at {ty : Nat → World → Value → Prop} {a0 : Act} {o : Oper} {a : Act} {w : World} (h : Finds ops ty a0 o a w) (t : Nat) (hk : okOld ops t = true) : a.tmps[t]? = a0.tmps[t]? := h.old t (okOld_spec hk)
theorem Left.at {ty : Nat → World → Value → Prop} {a0 : Act} {a : Act} {w : World} (h : Left ops ty a0 a w) (t : Nat) (hk : okOld ops t = true) : a.tmps[t]? = a0.tmps[t]? := h.old t (okOld_spec hk)

/-- What each operation owes. -/
def Steps (P : Program) (ops : Array Oper) (Q : Exit → Act → World → Prop) (ty : Nat → World → Value → Prop) (c : Nat → Nat) (WI : Nat → World → Prop) (R : World → World → Prop) (N : Nat) (a : Act) : Prop :=
  AllSteps (fun i o => ∀ B a' w', B + c i ≤ N → WI B w' → Finds ops ty a o a' w' →
      wpOp P ops Q i (fun a'' w'' => ∃ v, a'' = a'.put o.dst v ∧ R w' w'' ∧ ty i w'' (slotted o v) ∧ WI (B + c i) w'') a' w') 0 ops.toList

section
variable {a : Act} {ty : Nat → World → Value → Prop} {c : Nat → Nat} {WI : Nat → World → Prop} {R : World → World → Prop} {N : Nat}
theorem tinv_step (n : Nat) (hn : a.tmps.size = n) (hok : okOps ops n = true) (hN : total c ops.size ≤ N) (tyR : ∀ i u u' v, R u u' → ty i u v → ty i u' v) (steps : Steps P ops Q ty c WI R N a)
    (l : Array Bool) (a' : Act) (w' : World) (i : Nat) (h : TInv ops ty c WI a l a' w') (hi : i ∈ Region.ready .any ops l) :
    wpOp P ops Q i (fun a'' w'' => TInv ops ty c WI a (l.setIfInBounds i true) a'' w'') a' w' := by
  have step : ∀ i o, ops[i]? = some o → ∀ B a' w', B + c i ≤ N → WI B w' → Finds ops ty a o a' w' →
      wpOp P ops Q i (fun a'' w'' => ∃ v, a'' = a'.put o.dst v ∧ R w' w'' ∧ ty i w'' (slotted o v) ∧ WI (B + c i) w'') a' w' := fun i o ho => by
    have := steps.get i o (by simpa using ho)
    rwa [Nat.zero_add] at this
  obtain ⟨hl0, o, ho, hed⟩ := mem_ready.1 hi
  obtain ⟨hback, hdst⟩ := okOps_spec hok ho
  have hil := (Array.getElem?_eq_some_iff.1 ho).1
  have hsp := spent_set c l i hl0 ops.size hil
  have hle := spent_le c (l.setIfInBounds i true) ops.size
  refine wpOp_mono ?_ (step i o ho (spent c l ops.size) a' w' (by omega) h.wi ⟨h.old, fun e he hb o' ho' => h.val e.on o' ho' (hed e he hb)⟩)
  rintro a'' w'' ⟨v, rfl, hR, hv, hw⟩
  refine ⟨by rw [Array.size_setIfInBounds]; exact h.lsize, ?_, ?_, ?_, ?_, by rw [hsp]; exact hw⟩
  · cases hd : o.dst <;> exact h.defers
  · cases hd : o.dst with
    | none => exact h.size
    | some d => simp only [Act.put, Array.size_setIfInBounds]; exact h.size
  · intro t ht
    cases hd : o.dst with
    | none => exact h.old t ht
    | some d =>
      have hne : d ≠ t := fun e => ht i o ho (by rw [hd, e])
      simp only [Act.put, Array.getElem?_setIfInBounds_ne hne]
      exact h.old t ht
  · intro j o' ho' hj
    by_cases e : j = i
    · subst e
      rw [ho] at ho'
      cases ho'
      unfold Has
      unfold slotted at hv
      cases hd : o.dst with
      | none => rw [hd] at hv; exact hv
      | some d =>
        rw [hd] at hv
        have hds : d < a'.tmps.size := by rw [h.size, hn]; exact (hdst d hd).1
        exact ⟨v, by simp [Act.put, hds], hv⟩
    · have hj' : l.getD j false = true := by rw [← getD_set_ne false (Ne.symm e)]; exact hj
      have hh := h.val j o' ho' hj'
      unfold Has at hh ⊢
      cases hd' : o'.dst with
      | none => rw [hd'] at hh; exact tyR j _ _ _ hR hh
      | some d' =>
        rw [hd'] at hh
        obtain ⟨u, hu, hty⟩ := hh
        refine ⟨u, ?_, tyR j _ _ _ hR hty⟩
        cases hd : o.dst with
        | none => exact hu
        | some d =>
          have hne : d ≠ d' := fun e2 => (hdst d hd).2 j o' e ho' (by rw [hd', e2])
          simp only [Act.put, Array.getElem?_setIfInBounds_ne hne]
          exact hu
theorem tinv_all (n : Nat) (hok : okOps ops n = true) (l : Array Bool) (a' : Act) (w' : World) (h : TInv ops ty c WI a l a' w') (hr : Region.ready .any ops l = []) :
    Left ops ty a a' w' ∧ WI (total c ops.size) w' := by
  have all : ∀ i, i < ops.size → l.getD i false = true := by
    intro i
    induction i using Nat.strongRecOn with
    | ind i ih =>
      intro hi
      cases hli : l.getD i false with
      | true => rfl
      | false =>
        exfalso
        have hil : i < l.size := by rw [h.lsize]; exact hi
        have hmem : i ∈ Region.ready .any ops l := mem_ready.2 ⟨by simpa [hil] using hli, ops[i], Array.getElem?_eq_getElem hi, fun e he hb => ih e.on ((okOps_spec hok (Array.getElem?_eq_getElem hi)).1 e he hb) (by have := (okOps_spec hok (Array.getElem?_eq_getElem hi)).1 e he hb; omega)⟩
        rw [hr] at hmem
        cases hmem
  have hsp : spent c l ops.size = total c ops.size := by
    have : ∀ n, n ≤ ops.size → spent c l n = total c n := by
      intro n
      induction n with
      | zero => intro _; rfl
      | succ n ih => intro hn; simp only [spent, total, ih (by omega), all n (by omega), if_true]
    exact this _ (Nat.le_refl _)
  exact ⟨⟨h.defers, h.size, h.old, fun i o ho => h.val i o ho (all i (Array.getElem?_eq_some_iff.1 ho).1)⟩, by rw [← hsp]; exact h.wi⟩
theorem tinv_start (w : World) (h0 : WI 0 w) : TInv ops ty c WI a (Array.replicate ops.size false) a w := by
  have hf : ∀ i, (Array.replicate ops.size false).getD i false = false := fun i => by
    by_cases h : i < ops.size <;> simp [h]
  refine ⟨by simp, rfl, rfl, fun _ _ => rfl, fun i o _ h => ?_, by rw [spent_none c _ hf]; exact h0⟩
  rw [hf] at h
  cases h

theorem wp_region_typed {id : Nat} {w : World} (ty : Nat → World → Value → Prop) (c : Nat → Nat) (WI : Nat → World → Prop) (R : World → World → Prop) (N : Nat)
    (hm : P.follows .mixedOrders = true) (n : Nat) (hn : a.tmps.size = n) (hok : okOps ops n = true) (hN : total c ops.size ≤ N) (h0 : WI 0 w.drew)
    (tyR : ∀ i u u' v, R u u' → ty i u v → ty i u' v) (steps : Steps P ops Q ty c WI R N a)
    (done : ∀ a' w', Left ops ty a a' w' → WI (total c ops.size) w' → Q .normal a' w') : (Code.region id ops true).wp P Q a w := by
  refine wp_region_any hm ?_
  refine wpAny_inv (TInv ops ty c WI a) (fun l a' w' h => h.lsize) (fun l a' w' i h hi => tinv_step n hn hok hN tyR steps l a' w' i h hi)
    (fun l a' w' h hr => (fun x => done a' w' x.1 x.2) (tinv_all n hok l a' w' h hr)) ops.size _ a _ (by omega) (tinv_start _ h0)

/-- The same for a region that runs in the order of the text. -/
theorem wp_region_typed_text {id : Nat} {w : World} (ty : Nat → World → Value → Prop) (c : Nat → Nat) (WI : Nat → World → Prop) (R : World → World → Prop) (N : Nat)
    (n : Nat) (hn : a.tmps.size = n) (hok : okOps ops n = true) (hN : total c ops.size ≤ N) (h0 : WI 0 w)
    (tyR : ∀ i u u' v, R u u' → ty i u v → ty i u' v) (steps : Steps P ops Q ty c WI R N a)
    (done : ∀ a' w', Left ops ty a a' w' → WI (total c ops.size) w' → Q .normal a' w') : (Code.region id ops false).wp P Q a w := by
  refine wp_region ?_
  have key : ∀ (m k : Nat) (l : Array Bool) (a' : Act) (w' : World), k + m = ops.size → (∀ i, i < ops.size → l.getD i true = decide (i < k)) → TInv ops ty c WI a l a' w' → wpOps P ops Q (List.range' k m) a' w' := by
    intro m
    induction m with
    | zero =>
      intro k l a' w' hk hl h
      have hr : Region.ready .any ops l = [] := by
        rw [List.eq_nil_iff_forall_not_mem]
        intro i hi
        obtain ⟨h1, o, ho, _⟩ := mem_ready.1 hi
        have hi2 := (Array.getElem?_eq_some_iff.1 ho).1
        rw [hl i hi2] at h1
        simp at h1
        omega
      obtain ⟨h1, h2⟩ := tinv_all n hok l a' w' h hr
      simpa [wpOps] using done a' w' h1 h2
    | succ m ih =>
      intro k l a' w' hk hl h
      rw [List.range'_succ, wpOps_cons]
      have hkn : k < ops.size := by omega
      have hready : k ∈ Region.ready .any ops l := mem_ready.2 ⟨by rw [hl k hkn]; simp, ops[k], Array.getElem?_eq_getElem hkn, fun e he hb => by
        have hlt := (okOps_spec hok (Array.getElem?_eq_getElem hkn)).1 e he hb
        have h1 := hl e.on (by omega)
        have hsz : e.on < l.size := by rw [h.lsize]; omega
        simp [hsz] at h1 ⊢
        rw [h1]; simp [hlt]⟩
      refine wpOp_mono (fun a'' w'' h' => ih (k + 1) _ a'' w'' (by omega) ?_ h') (tinv_step n hn hok hN tyR steps l a' w' k h hready)
      intro i hi
      by_cases e : i = k
      · subst e
        have : i < l.size := by rw [h.lsize]; exact hi
        simp [this]
      · rw [getD_set_ne true (Ne.symm e), hl i hi]
        simp; omega
  rw [List.range_eq_range']
  refine key ops.size 0 _ a w (by omega) (fun i hi => by simp [hi]) (tinv_start _ h0)

theorem wpOp_pre {m i : Nat} {K : Act → World → Prop} {a' : Act} {w : World} (hi : i < m) (hg : ∀ o, ops[i]? = some o → o.guard = none) (h : wpOp P (ops.extract 0 m) Q i K a' w) : wpOp P ops Q i K a' w := by
  have e : (ops.extract 0 m)[i]? = ops[i]? := by
    rw [Array.getElem?_extract]; simp
    intro h1; omega
  unfold wpOp at h ⊢
  rw [e] at h
  cases ho : ops[i]? with
  | none => rw [ho] at h; exact h
  | some o =>
    rw [ho] at h
    simp only [Region.wanted, hg o ho] at h ⊢
    exact h
/-- A frame that is known slot by slot is written out. -/
def AllAt (t : Array Value) : Nat → List Value → Prop
  | _, [] => True
  | k, v :: r => t[k]? = some v ∧ AllAt t (k + 1) r
theorem AllAt.nil {t : Array Value} {k : Nat} : AllAt t k [] := trivial
theorem AllAt.cons {t : Array Value} {k : Nat} {v : Value} {r : List Value} (h : t[k]? = some v) (hr : AllAt t (k + 1) r) : AllAt t k (v :: r) := ⟨h, hr⟩
theorem AllAt.get {t : Array Value} : ∀ {l : List Value} {k : Nat}, AllAt t k l → ∀ i, i < l.length → t[k + i]? = l[i]?
  | v :: r, k, ⟨h1, h2⟩, i, hi => by
    cases i with
    | zero => simpa using h1
    | succ i =>
      have := AllAt.get h2 i (by simpa using hi)
      rw [show k + (i + 1) = k + 1 + i by omega, this]; rfl
  | [], _, _, i, hi => absurd hi (by simp)
theorem act_lit {a' : Act} {d : List Deferred} {l : List Value} (hd : a'.defers = d) (hs : a'.tmps.size = l.length) (h : AllAt a'.tmps 0 l) : a' = ⟨l.toArray, d⟩ := by
  obtain ⟨t, d'⟩ := a'
  simp only at hd hs h
  subst hd
  congr
  apply Array.ext'
  apply List.ext_getElem?
  intro i
  by_cases hi : i < l.length
  · have := h.get i hi
    rw [Nat.zero_add] at this
    simpa using this
  · simp [hi, hs]
/-- The first m operations of a region that runs in the order of the text. -/
theorem wp_region_typed_pre {id : Nat} {w : World} (m : Nat) (ty : Nat → World → Value → Prop) (c : Nat → Nat) (WI : Nat → World → Prop) (R : World → World → Prop) (N : Nat)
    (n : Nat) (hn : a.tmps.size = n) (hm : m ≤ ops.size) (hgd : (ops.extract 0 m).all (fun o => o.guard.isNone) = true) (hok : okOps (ops.extract 0 m) n = true) (hN : total c m ≤ N) (h0 : WI 0 w)
    (tyR : ∀ i u u' v, R u u' → ty i u v → ty i u' v) (steps : Steps P (ops.extract 0 m) Q ty c WI R N a)
    (done : ∀ a' w', Left (ops.extract 0 m) ty a a' w' → WI (total c m) w' → wpList P ops Q (ops.toList.drop m) a' w') : (Code.region id ops false).wp P Q a w := by
  refine wp_region ?_
  have hps : (ops.extract 0 m).size = m := by simp; omega
  have hguard : ∀ i, i < m → ∀ o, ops[i]? = some o → o.guard = none := fun i hi o ho => by
    have e : (ops.extract 0 m)[i]? = ops[i]? := by rw [Array.getElem?_extract]; simp; intro h1; omega
    have := Array.all_eq_true_iff_forall_mem.1 hgd o (Array.mem_of_getElem? (e.trans ho))
    simpa using this
  have key : ∀ (j k : Nat) (l : Array Bool) (a' : Act) (w' : World), k + j = m → (∀ i, i < m → l.getD i true = decide (i < k)) → TInv (ops.extract 0 m) ty c WI a l a' w' → wpOps P ops Q (List.range' k (ops.size - k)) a' w' := by
    intro j
    induction j with
    | zero =>
      intro k l a' w' hk hl h
      obtain rfl : k = m := by omega
      have hr : Region.ready .any (ops.extract 0 k) l = [] := by
        rw [List.eq_nil_iff_forall_not_mem]
        intro i hi
        obtain ⟨h1, o, ho, _⟩ := mem_ready.1 hi
        have hi2 := (Array.getElem?_eq_some_iff.1 ho).1
        rw [hps] at hi2
        rw [hl i hi2] at h1
        simp at h1
        omega
      obtain ⟨h1, h2⟩ := tinv_all n hok l a' w' h hr
      rw [hps] at h2
      have hd := done a' w' h1 h2
      have e := wpOps_eq_wpList (P := P) (ops := ops) (Q := Q) (ops.toList.drop k) k (fun j => by simp [List.getElem?_drop])
      rw [List.length_drop, Array.length_toList] at e
      rw [e]; exact hd
    | succ j ih =>
      intro k l a' w' hk hl h
      have hkm : k < m := by omega
      rw [show ops.size - k = (ops.size - (k + 1)) + 1 by omega, List.range'_succ, wpOps_cons]
      have hkn : k < (ops.extract 0 m).size := by omega
      have hready : k ∈ Region.ready .any (ops.extract 0 m) l := mem_ready.2 ⟨by rw [hl k hkm]; simp, (ops.extract 0 m)[k], Array.getElem?_eq_getElem hkn, fun e he hb => by
        have hlt := (okOps_spec hok (Array.getElem?_eq_getElem hkn)).1 e he hb
        have h1 := hl e.on (by omega)
        have hsz : e.on < l.size := by rw [h.lsize]; omega
        simp [hsz] at h1 ⊢
        rw [h1]; simp [hlt]⟩
      refine wpOp_pre hkm (hguard k hkm) (wpOp_mono (fun a'' w'' h' => ih (k + 1) _ a'' w'' (by omega) ?_ h') (tinv_step n hn hok (by rw [hps]; exact hN) tyR steps l a' w' k h hready))
      intro i hi
      by_cases e : i = k
      · subst e
        have : i < l.size := by rw [h.lsize, hps]; exact hi
        simp [this]
      · rw [getD_set_ne true (Ne.symm e), hl i hi]
        simp; omega
  rw [List.range_eq_range']
  exact key m 0 _ a w (by omega) (fun i hi => by rw [hps]; simp [hi]) (tinv_start _ h0)
end
end
end Go.Proofs.YtackffegdmohiaaDoor
