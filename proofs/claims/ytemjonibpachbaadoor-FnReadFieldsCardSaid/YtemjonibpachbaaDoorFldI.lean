/- The walk of the program's SortFields: the fields in the order of their names. Condition: the slice reads as the list, texts are no longer than a machine holds. -/
import Derived.Test.YtemjonibpachbaaDoorFldV
import Derived.Test.YtemjonibpachbaaDoorCpField
import Derived.Test.YtemjonibpachbaaDoorSort
import Derived.Test.YtemjonibpachbaaDoorShelf
namespace Go.Proofs.YtemjonibpachbaaDoor
open Go.RowKit Go.Sort Go.Lib Go.Shelf

def lessF (x y : Fld) : Prop := Op.bytesLess x.name.toList y.name.toList = true
/-- The fields in the order of their names; none of others. -/
def SortRel (l out : List Fld) : Prop := (fieldsB l = true ∧ out.Perm l ∧ out.Pairwise lessF) ∨ (fieldsB l = false ∧ out = [])
theorem lessF_not (x y : Fld) (h : lessF x y) (h2 : lessF y x) : False := by
  unfold lessF at h h2
  rw [less_asymm h] at h2
  cases h2
theorem SortRel.eq {l a b : List Fld} (h1 : SortRel l a) (h2 : SortRel l b) : a = b := by
  rcases h1 with ⟨h1, p1, s1⟩ | ⟨h1, rfl⟩ <;> rcases h2 with ⟨h2, p2, s2⟩ | ⟨h2, rfl⟩
  · exact sorted_unique lessF_not (p1.trans p2.symm) s1 s2
  · rw [h1] at h2; cases h2
  · rw [h1] at h2; cases h2
  · rfl
theorem fields_apart {l : List Fld} (h : fieldsB l = true) : l.Pairwise fun x y => x.name.toList ≠ y.name.toList := by
  rw [List.pairwise_iff_getElem]
  intro i j hi hj hij
  exact (goodB_iff.1 h).2.2 i j hij hj
theorem SortRel.of {l out : List Fld} (h : fieldsB l = true) (hp : out.Perm l) (hs : out.Pairwise fun x y => Op.bytesLess y.name.toList x.name.toList = false) : SortRel l out := by
  refine .inl ⟨h, hp, ?_⟩
  have hd : out.Pairwise fun x y => x.name.toList ≠ y.name.toList := (hp.pairwise_iff (fun h e => h e.symm)).2 (fields_apart h)
  refine (hs.and hd).imp ?_
  rintro x y ⟨h1, h2⟩
  exact less_total (fun e => h2 e.symm) h1
theorem owns_base {w : World} {base base' : Nat} {e : TypeId} {size : Nat} {v : Value} {n : Nat} {xs : List Value} (h : w.ownsRow base' e size v n xs) (hb : base ≤ base') : w.ownsRow base e size v n xs := by
  rcases h with ⟨h1, h2 | ⟨g, cap, cur, h3, h4, h5⟩⟩
  · exact ⟨h1, .inl h2⟩
  · exact ⟨h1, .inr ⟨g, cap, cur, h3, Nat.le_trans hb h4, h5⟩⟩

instance : Inhabited Fld := ⟨⟨⟨#[]⟩, 0⟩⟩
def cmpF (x y : Fld) : Int := Lib.compareBytes x.name.data.toList y.name.data.toList
theorem ltF (x y : Fld) : ltOf cmpF x y = Op.bytesLess x.name.toList y.name.toList := by
  unfold ltOf cmpF
  rw [cmp_less, Lib.toList_data, Lib.toList_data]
theorem swoF : SWO (ltOf cmpF) where
  irrefl x := by rw [ltF]; exact less_irr _
  trans x y z h1 h2 := by rw [ltF] at *; exact less_trans h1 h2
  ntrans x y z h1 h2 := by
    rw [ltF] at *
    cases h : Op.bytesLess x.name.toList z.name.toList
    · rfl
    · by_cases e : x.name.toList = y.name.toList
      · rw [e, h2] at h; cases h
      · have h3 := less_total e h1
        have h4 := less_trans h3 h
        rw [h2] at h4; cases h4

theorem cmp_call (x y : Fld) (W : World) : Calls Tryd.prog 34 #[.agg #[.string x.name, .int .i64 x.val], .agg #[.string y.name, .int .i64 y.val]] W fun e w' => e = .returned (.int .i64 (cmpF x y)) ∧ ∃ q os', w' = grow (W.drewN q) os' := by
  have hcon := fun W' => Tryd.strings_Compare x.name y.name W'
  have hcon2 : ∀ W', Calls Tryd.prog 35 #[.string x.name, .string y.name] W' fun e w' => e = .returned (.int .i64 (cmpF x y)) ∧ w' = W' := hcon
  clear hcon
  generalize cmpF x y = r at hcon2 ⊢
  go_enter Tryd.func34, Tryd.ntmps34
  go_wp2_with (go_at_call 35; refine (hcon2 _).mono ?_; rintro e w' ⟨rfl, rfl⟩)
  go_ret
  exact ⟨rfl, 0, _, by rw [alloc_eq_grow, alloc_eq_grow, grow_grow]; rfl⟩
theorem cmp_lays (blk off size : Nat) (w : World) : CmpLays Tryd.prog 34 #[] fldS.enc 2 cmpF blk off size w :=
  fun _ _ _ _ x y => cmp_call x y _
theorem sort_none (p : Option Addr) (cap : Nat) (fv : Value) (w : World) : Calls Tryd.prog 33 #[.slice p 0 cap, fv] w fun e w' => e = .returned (.tuple #[]) ∧ w' = w :=
  AnyF.slices_SortFunc_none Tryd.sortF p cap fv w
theorem sort_some (g cap : Nat) (l : List Fld) (w : World) (hH : HoldsK fldS.enc 2 w g 0 l.toArray) (hg : g < w.heap.size) (hsz : l.length ≤ 1048576) :
    Calls Tryd.prog 33 #[.slice (some ⟨g, 0, none⟩) l.length cap, .func (.func 34) #[] #[]] w fun e w' => e = .returned (.tuple #[]) ∧ ∃ d' n os, PermIn 0 l.toArray.size l.toArray d' ∧ SortedIn (ltOf cmpF) 0 l.toArray.size d' ∧ w' = sortWorldK fldS.enc 2 w g 0 n d' os := by
  have eg : ∀ args w, (callFunc 34 args).run Tryd.prog w = .ok (.enter 34 args) w := enters_of Tryd.func34 (by kernel_rfl) rfl
  have hcon := AnyQ.slices_SortFunc Tryd.sortF 2 Tryd.isAgg41 Tryd.sizeOf41 fldS.enc (fun _ => rfl) fldS.one cmpF swoF 34 #[] g 0 cap l.toArray w eg (cmp_lays g 0 l.toArray.size w) hH hg (by simp; omega)
  change Calls Tryd.prog 33 _ _ _ at hcon
  simpa using hcon

def SortRet (l : List Fld) (w : World) (e : Ending) (w' : World) : Prop := ∃ v out, e = .returned v ∧ SortRel l out ∧ w'.ownsRow w.heap.size 41 2 v out.length (fldS.cells out) ∧ Below w.heap.size w w'
theorem SortRet.mk {l out : List Fld} {w w' : World} {v : Value} (hr : SortRel l out) (ho : w'.ownsRow w.heap.size 41 2 v out.length (fldS.cells out)) (hb : Below w.heap.size w w') : SortRet l w (.returned v) w' := ⟨v, out, rfl, hr, ho, hb⟩
set_option maxHeartbeats 800000 in
theorem i_SortFields (v : Value) (l : List Fld) (w : World) (h : Sl fldS w v l) (hs : ∀ y ∈ l, y.name.size ≤ 140737488355328) :
    Calls Tryd.prog 13 #[v] w (SortRet l w) := by
  cases hf : fieldsB l
  · have HF := Lib.hid hf
    go_enter Tryd.func13, Tryd.ntmps13
    go_wp2_with fail
    refine (i_FieldsValid _ l _ h hs).mono ?_
    rintro e w1 ⟨rfl, hb1⟩
    rw [hf]
    go_wp2_with fail
    go_ret
    exact SortRet.mk (out := []) (.inr ⟨HF.out, rfl⟩) (World.ownsRow_nil _ _ _ _) hb1
  · have HF := Lib.hid hf
    have hl6 : l.length ≤ 1048576 := by have := (goodB_iff.1 hf).1; omega
    go_enter Tryd.func13, Tryd.ntmps13
    go_wp2_with fail
    refine (i_FieldsValid _ l _ h hs).mono ?_
    rintro e w1 ⟨rfl, hb1⟩
    rw [hf]
    have h1 := h.mono hb1
    clear hf h hs
    go_wp2_with fail
    refine (copy_Field _ l _ h1 hl6).mono ?_
    rintro e w2 ⟨v2, rfl, ho, hb2⟩
    have hB := below_trans hb1 hb2
    have ho2 := owns_base ho hb1.size
    rcases Nat.eq_zero_or_pos l.length with h0 | h0
    · obtain rfl := List.eq_nil_of_length_eq_zero h0
      obtain ⟨A, cap, rfl⟩ : ∃ A cap, v2 = .slice A 0 cap := by
        rcases ho.2 with ⟨rfl, _⟩ | ⟨g, cap, cur, rfl, _⟩
        · exact ⟨_, _, rfl⟩
        · exact ⟨_, _, rfl⟩
      have HO := Lib.hid ho2
      clear ho ho2 h0
      go_wp2_with fail
      refine (sort_none _ _ _ _).mono ?_
      rintro e w3 ⟨rfl, hw3⟩
      subst hw3
      go_wp2_with fail
      go_ret
      exact SortRet.mk (out := []) (SortRel.of HF.out (List.Perm.refl _) List.Pairwise.nil) HO.out hB
    · obtain ⟨g, cap, rfl, hg1, hg2⟩ := ho.form h0
      have HO := Lib.hid ho2
      clear ho2
      go_wp2_with fail
      refine (sort_some g cap l _ (holds_own ho) hg2 hl6).mono ?_
      rintro e w3 ⟨rfl, d', m, os, hp, hd, hw3⟩
      have P := perm_of hp
      have Q := pairs_of (by simpa using hp.1) hd
      obtain ⟨l', rfl⟩ : ∃ l' : List Fld, d' = l'.toArray := ⟨d'.toList, by simp⟩
      change l'.Perm l ∧ l'.length = l.length at P
      change l'.Pairwise _ at Q
      have ho3 : w3.ownsRow w.heap.size 41 2 (.slice (some ⟨g, 0, none⟩) l'.length cap) l'.length (fldS.cells l') := by rw [hw3]; exact own_sorted (S := fldS) HO.out l' P.2 m os
      have hB3 : Below w.heap.size w w3 := by
        have hgr : w2.grownBy w3 (some g) := by rw [hw3]; exact grown_sorted (S := fldS) l' m os
        exact hB.grown hgr hB.size (fun k hk => by cases hk; exact Nat.le_trans hb1.size hg1)
      have H3 := Lib.hid ho3
      have HR := Lib.hid (SortRel.of HF.out P.1 (Q.imp fun {x y} h => by rw [ltF] at h; exact h))
      rw [← P.2]
      clear hw3 P Q hp hd ho3 ho HO
      go_wp2_with fail
      go_ret
      exact SortRet.mk HR.out H3.out hB3
end Go.Proofs.YtemjonibpachbaaDoor
