/- The walk of the program's SortFeed: the items in their order. Condition: the slice reads as the list, texts are no longer than a machine holds. -/
import Derived.Test.YtlmpkajnbdhppaaFeedV
import Derived.Test.YtlmpkajnbdhppaaCpItem
import Derived.Test.YtlmpkajnbdhppaaSort
import Derived.Test.YtlmpkajnbdhppaaShelf
namespace Go.Proofs.Ytlmpkajnbdhppaa
open Go.RowKit Go.Sort Go.Lib Go.Shelf

theorem owns_base {w : World} {base base' : Nat} {e : TypeId} {size : Nat} {v : Value} {n : Nat} {xs : List Value} (h : w.ownsRow base' e size v n xs) (hb : base ≤ base') : w.ownsRow base e size v n xs := by
  rcases h with ⟨h1, h2 | ⟨g, cap, cur, h3, h4, h5⟩⟩
  · exact ⟨h1, .inl h2⟩
  · exact ⟨h1, .inr ⟨g, cap, cur, h3, Nat.le_trans hb h4, h5⟩⟩
instance : Inhabited Itm := ⟨⟨⟨#[]⟩, ⟨#[]⟩, ⟨#[]⟩, 0⟩⟩
def cmpN (x y : Int) : Int := if x < y then -1 else if y < x then 1 else 0
def cmpI (x y : Itm) : Int := if x.day = y.day then Lib.compareBytes x.key.data.toList y.key.data.toList else cmpN y.day x.day
theorem ltI (x y : Itm) : ltOf cmpI x y = lessI x y := by
  unfold ltOf cmpI lessI cmpN
  by_cases h : x.day = y.day
  · rw [if_pos h, cmp_less, Lib.toList_data, Lib.toList_data]
    simp [h]
  · rw [if_neg h]
    by_cases h1 : y.day < x.day
    · simp [h1]
    · have h2 : x.day < y.day := by omega
      simp [h, h1, h2]
theorem swoI : SWO (ltOf cmpI) where
  irrefl x := by rw [ltI]; exact lessI_irr _
  trans x y z h1 h2 := by rw [ltI] at *; exact lessI_trans h1 h2
  ntrans x y z h1 h2 := by
    rw [ltI] at *
    cases h : lessI x z
    · rfl
    · exfalso
      have n1 : ¬ lessI x y = true := by rw [h1]; simp
      have n2 : ¬ lessI y z = true := by rw [h2]; simp
      rw [lessI_iff] at h n1 n2
      rcases h with h | ⟨h, hk⟩
      · have a1 : ¬ y.day < x.day := fun e => n1 (.inl e)
        have a2 : ¬ z.day < y.day := fun e => n2 (.inl e)
        omega
      · have a1 : ¬ y.day < x.day := fun e => n1 (.inl e)
        have a2 : ¬ z.day < y.day := fun e => n2 (.inl e)
        have b1 : ¬ Op.bytesLess x.key.toList y.key.toList = true := fun e => n1 (.inr ⟨by omega, e⟩)
        have b2 : ¬ Op.bytesLess y.key.toList z.key.toList = true := fun e => n2 (.inr ⟨by omega, e⟩)
        by_cases e : x.key.toList = y.key.toList
        · rw [e] at hk; exact b2 hk
        · have h3 := less_total e (by simpa using b1)
          exact b2 (less_trans h3 hk)

set_option maxHeartbeats 400000 in
theorem cmp_int (x y : Int) (W : World) : Calls Try.prog 33 #[.int .i64 x, .int .i64 y] W fun e w' => e = .returned (.int .i64 (cmpN x y)) ∧ W = w' := by
  by_cases h1 : x < y
  · rw [show cmpN x y = -1 by unfold cmpN; rw [if_pos h1]]
    go_enter Try.func33, Try.ntmps33
    go_wp2_with (go_at_call 52; refine (Try.cmp_isNaN_int2 _ _).mono ?_; rintro e w' ⟨rfl, rfl⟩)
    go_ret
    exact ⟨rfl, rfl⟩
  · by_cases h2 : y < x
    · rw [show cmpN x y = 1 by unfold cmpN; rw [if_neg h1, if_pos h2]]
      go_enter Try.func33, Try.ntmps33
      go_wp2_with (go_at_call 52; refine (Try.cmp_isNaN_int2 _ _).mono ?_; rintro e w' ⟨rfl, rfl⟩)
      go_ret
      exact ⟨rfl, rfl⟩
    · rw [show cmpN x y = 0 by unfold cmpN; rw [if_neg h1, if_neg h2]]
      go_enter Try.func33, Try.ntmps33
      go_wp2_with (go_at_call 52; refine (Try.cmp_isNaN_int2 _ _).mono ?_; rintro e w' ⟨rfl, rfl⟩)
      go_ret
      exact ⟨rfl, rfl⟩
set_option maxHeartbeats 800000 in
theorem cmp_call (x y : Itm) (W : World) : Calls Try.prog 32 #[.agg #[.string x.key, .string x.title, .string x.body, .int .i64 x.day], .agg #[.string y.key, .string y.title, .string y.body, .int .i64 y.day]] W fun e w' => e = .returned (.int .i64 (cmpI x y)) ∧ ∃ q os', w' = grow (W.drewN q) os' := by
  by_cases h : x.day = y.day
  · rw [show cmpI x y = Lib.compareBytes x.key.data.toList y.key.data.toList by unfold cmpI; rw [if_pos h]]
    have hcon := fun W' => Try.strings_Compare x.key y.key W'
    have h1 : (x.day != y.day) = false := by simpa using h
    clear h
    generalize Lib.compareBytes x.key.data.toList y.key.data.toList = r at hcon ⊢
    go_enter Try.func32, Try.ntmps32
    go_wp2_with (go_at_call 34; refine (hcon _).mono ?_; rintro e w' ⟨rfl, rfl⟩)
    go_ret
    exact ⟨rfl, 0, _, by rw [alloc_eq_grow, alloc_eq_grow, grow_grow]; rfl⟩
  · rw [show cmpI x y = cmpN y.day x.day by unfold cmpI; rw [if_neg h]]
    have h1 : (x.day != y.day) = true := by simpa using h
    have hcon := fun W' => cmp_int y.day x.day W'
    clear h
    generalize cmpN y.day x.day = r at hcon ⊢
    go_enter Try.func32, Try.ntmps32
    go_wp2_with (go_at_call 33; refine (hcon _).mono ?_; rintro e w' ⟨rfl, rfl⟩)
    go_ret
    exact ⟨rfl, 0, _, by rw [alloc_eq_grow, alloc_eq_grow, grow_grow]; rfl⟩
theorem cmp_lays (blk off size : Nat) (w : World) : CmpLays Try.prog 32 #[] itmS.enc 4 cmpI blk off size w :=
  fun _ _ _ _ x y => cmp_call x y _
theorem sort_none (p : Option Addr) (cap : Nat) (fv : Value) (w : World) : Calls Try.prog 31 #[.slice p 0 cap, fv] w fun e w' => e = .returned (.tuple #[]) ∧ w' = w :=
  AnyF.slices_SortFunc_none Try.sortF p cap fv w
theorem sort_some (g cap : Nat) (l : List Itm) (w : World) (hH : HoldsK itmS.enc 4 w g 0 l.toArray) (hg : g < w.heap.size) (hsz : l.length ≤ 1048576) :
    Calls Try.prog 31 #[.slice (some ⟨g, 0, none⟩) l.length cap, .func (.func 32) #[] #[]] w fun e w' => e = .returned (.tuple #[]) ∧ ∃ d' n os, PermIn 0 l.toArray.size l.toArray d' ∧ SortedIn (ltOf cmpI) 0 l.toArray.size d' ∧ w' = sortWorldK itmS.enc 4 w g 0 n d' os := by
  have eg : ∀ args w, (callFunc 32 args).run Try.prog w = .ok (.enter 32 args) w := enters_of Try.func32 (by kernel_rfl) rfl
  have hcon := AnyQ.slices_SortFunc Try.sortF 4 Try.isAgg30 Try.sizeOf30 itmS.enc (fun _ => rfl) itmS.one cmpI swoI 32 #[] g 0 cap l.toArray w eg (cmp_lays g 0 l.toArray.size w) hH hg (by simp; omega)
  change Calls Try.prog 31 _ _ _ at hcon
  simpa using hcon

def FSortRet (l : List Itm) (w : World) (e : Ending) (w' : World) : Prop := ∃ v out, e = .returned v ∧ FeedRel l out ∧ w'.ownsRow w.heap.size 30 4 v out.length (itmS.cells out) ∧ Below w.heap.size w w'
theorem FSortRet.mk {l out : List Itm} {w w' : World} {v : Value} (hr : FeedRel l out) (ho : w'.ownsRow w.heap.size 30 4 v out.length (itmS.cells out)) (hb : Below w.heap.size w w') : FSortRet l w (.returned v) w' := ⟨v, out, rfl, hr, ho, hb⟩
set_option maxHeartbeats 800000 in
theorem i_SortFeed (v : Value) (l : List Itm) (w : World) (h : Sl itmS w v l) (hs : SzL l) :
    Calls Try.prog 8 #[v] w (FSortRet l w) := by
  cases hf : feedB l
  · have HF := Lib.hid hf
    go_enter Try.func8, Try.ntmps8
    go_wp2_with fail
    refine (i_FeedValid _ l _ h hs).mono ?_
    rintro e w1 ⟨rfl, hb1⟩
    rw [hf]
    go_wp2_with fail
    go_ret
    exact FSortRet.mk (out := []) (.inr ⟨HF.out, rfl⟩) (World.ownsRow_nil _ _ _ _) hb1
  · have HF := Lib.hid hf
    have hl6 : l.length ≤ 1048576 := by have := (goodB_iff.1 hf).1; omega
    go_enter Try.func8, Try.ntmps8
    go_wp2_with fail
    refine (i_FeedValid _ l _ h hs).mono ?_
    rintro e w1 ⟨rfl, hb1⟩
    rw [hf]
    have h1 := h.mono hb1
    clear hf h hs
    go_wp2_with fail
    refine (copy_Item _ l _ h1 hl6).mono ?_
    rintro e w2 ⟨v2, rfl, ho, hb2⟩
    have hB := below_trans hb1 hb2
    have ho2 := owns_base ho hb1.size
    rcases Nat.eq_zero_or_pos l.length with h0 | h0
    · obtain rfl := List.eq_nil_of_length_eq_zero h0
      obtain ⟨A, cap, rfl⟩ : ∃ A cap, v2 = .slice A 0 cap := by
        rcases ho.2 with ⟨rfl, _⟩ | ⟨g, cap, cur, rfl, _⟩
        · exact ⟨_, _, rfl⟩
        · exact ⟨_, _, rfl⟩
      have HO := Lib.hid ho2
      clear ho ho2 h0
      go_wp2_with fail
      refine (sort_none _ _ _ _).mono ?_
      rintro e w3 ⟨rfl, hw3⟩
      subst hw3
      go_wp2_with fail
      go_ret
      exact FSortRet.mk (out := []) (FeedRel.of HF.out (List.Perm.refl _) List.Pairwise.nil) HO.out hB
    · obtain ⟨g, cap, rfl, hg1, hg2⟩ := ho.form h0
      have HO := Lib.hid ho2
      clear ho2
      go_wp2_with fail
      refine (sort_some g cap l _ (holds_own ho) hg2 hl6).mono ?_
      rintro e w3 ⟨rfl, d', m, os, hp, hd, hw3⟩
      have P := perm_of hp
      have Q := pairs_of (by simpa using hp.1) hd
      obtain ⟨l', rfl⟩ : ∃ l' : List Itm, d' = l'.toArray := ⟨d'.toList, by simp⟩
      change l'.Perm l ∧ l'.length = l.length at P
      change l'.Pairwise _ at Q
      have ho3 : w3.ownsRow w.heap.size 30 4 (.slice (some ⟨g, 0, none⟩) l'.length cap) l'.length (itmS.cells l') := by rw [hw3]; exact own_sorted (S := itmS) HO.out l' P.2 m os
      have hB3 : Below w.heap.size w w3 := by
        have hgr : w2.grownBy w3 (some g) := by rw [hw3]; exact grown_sorted (S := itmS) l' m os
        exact hB.grown hgr hB.size (fun k hk => by cases hk; exact Nat.le_trans hb1.size hg1)
      have H3 := Lib.hid ho3
      have HR := Lib.hid (FeedRel.of HF.out P.1 (Q.imp fun {x y} h => by rw [ltI] at h; exact h))
      rw [← P.2]
      clear hw3 P Q hp hd ho3 ho HO
      go_wp2_with fail
      go_ret
      exact FSortRet.mk HR.out H3.out hB3
end Go.Proofs.Ytlmpkajnbdhppaa
