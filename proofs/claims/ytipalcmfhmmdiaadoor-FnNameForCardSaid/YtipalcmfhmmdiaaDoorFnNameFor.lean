/- FnNameFor: for every input the law returns true, and each argument reads afterwards as it read before. No condition. -/
import Derived.Test.YtipalcmfhmmdiaaDoorRows
import Derived.Test.YtipalcmfhmmdiaaDoorTie
import Derived.Test.YtipalcmfhmmdiaaDoorCards
import Derived.WalkKit
import Derived.LaidMore
import Derived.Lay
import Derived.MakeChecks
import Derived.SevenTiedAt
import Derived.Stop.Joined
import Derived.ProofKit
import Derived.OpenShut
import Derived.ChangeOld
import Derived.Below
import Derived.Test.YtipalcmfhmmdiaaDoorOpen
import Derived.Test.YtipalcmfhmmdiaaDoorTypes
import Derived.Test.YtipalcmfhmmdiaaDoorDrawNf
import Derived.Test.YtipalcmfhmmdiaaDoorNameS
import Derived.Test.YtipalcmfhmmdiaaDoorAlive
namespace Go.Proofs.YtipalcmfhmmdiaaDoor.fnNameFor
open Go.ChangeShapes Go.WideShapes Go.ChangeAt Go.RowKit
open Go.ChangeMaps (open_string shut_string)
set_option linter.unusedVariables false

theorem own : ownKnob Tryd.prog.godebug = none := by kernel_rfl
theorem laidOut : laidOutB Tryd.prog = true := by kernel_rfl

theorem openByte {H : Type} {enc : TypeId × Value → H} {w : World} (fuel : Nat) (cs : List Value) (x : DataW H × List MemPlace) (h : DataW.trod enc Tryd.prog w 0 (fun _ => true) true fuel 5 cs = some x) : ∃ y : UInt8, cs = byteS.enc y ∧ True := by
  obtain ⟨s, rfl, _, hb⟩ := DataW.trod_int Tryd.underlying5 h
  have := bounds_u8 hb
  exact ⟨UInt8.ofNat s.toNat, by simp [byteS]; omega, trivial⟩

theorem stem_list (wd : ByteArray) : (stemB wd).data.toList = wd.data.toList.take 7 := by
  have hl := size_len wd
  unfold stemB
  split
  · rw [List.take_of_length_le (by omega)]
  · rw [ByteArray.data_extract, Array.toList_extract]; simp [List.extract]
theorem dg_aln : ∀ d : Nat, d ≤ 9 → alnB (UInt8.ofNat (48 + d)) = true := by
  intro d h
  have key : ∀ k : Fin 10, alnB (UInt8.ofNat (48 + k.val)) = true := by decide
  exact key ⟨d, by omega⟩
theorem word_cand {wd : ByteArray} {d : Nat} (h : wordB wd.data.toList = true) (hd : d ≤ 9) : wordB (candB wd d).data.toList = true := by
  have e : (candB wd d).data.toList = wd.data.toList.take 7 ++ [UInt8.ofNat (48 + d)] := by
    unfold candB
    rw [ByteArray.data_append, Array.toList_append, stem_list]; rfl
  rw [e]
  generalize wd.data.toList = L at h
  unfold wordB at h ⊢
  rw [Bool.and_eq_true, decide_eq_true_eq, Bool.and_eq_true, List.all_eq_true] at h
  obtain ⟨⟨h1, h2⟩, h3, h4⟩ := h
  cases L with
  | nil => simp at h1
  | cons a r =>
    rw [Bool.and_eq_true, decide_eq_true_eq, Bool.and_eq_true, List.all_eq_true]
    refine ⟨by simp; simp at h2; omega, by simpa using h3, fun c hc => ?_⟩
    rw [List.take_succ_cons, List.cons_append, List.drop_succ_cons, List.drop_zero] at hc
    rcases List.mem_append.1 hc with hc | hc
    · exact h4 c (by simpa using List.mem_of_mem_take hc)
    · rw [List.mem_singleton.1 hc]; exact dg_aln d hd
/-- What the law asks of a name that is not empty. -/
def NameOk (l : List Actr) (wd s : ByteArray) : Prop := wordB s.data.toList = true ∧ namedM l s = -1 ∧ ((0 ≤ namedM l wd) ∨ s = wd)
theorem named_neg {l : List Actr} {nm : ByteArray} (h : namedM l nm < 0) : namedM l nm = -1 := by have := named_ge l nm; omega
theorem try_ok {l : List Actr} {wd : ByteArray} (hw : wordB wd.data.toList = true) (h0 : ¬ namedM l wd < 0) : ∀ n d, n + d ≤ 10 → nameTry l wd n d = ⟨#[]⟩ ∨ NameOk l wd (nameTry l wd n d)
  | 0, _, _ => .inl rfl
  | n + 1, d, hd => by
    rw [nameTry]
    split
    · exact .inr ⟨word_cand hw (by omega), named_neg (by assumption), .inl (by omega)⟩
    · exact try_ok hw h0 n (d + 1) (by omega)
theorem name_ok (l : List Actr) (wd : ByteArray) : nameM l wd = ⟨#[]⟩ ∨ NameOk l wd (nameM l wd) := by
  unfold nameM
  split
  · rename_i h
    split
    · exact .inr ⟨h.2, named_neg (by assumption), .inr rfl⟩
    · exact try_ok h.2 (by assumption) 8 2 (by omega)
  · exact .inl rfl
theorem word_ne {s : ByteArray} (h : wordB s.data.toList = true) : (s.toList == ([] : List UInt8)) = false := by
  cases hs : s.toList with
  | nil => rw [ByteArray.toList_eq] at hs; rw [hs] at h; exact absurd h (by decide)
  | cons a r => rfl

set_option maxHeartbeats 1600000 in
theorem walk (v0 : Value) (l0 : List UInt8) (w : World) (w0 : Sl byteS w v0 l0) (x0 : ∀ y ∈ l0, True) :
    Calls Tryd.prog 4 #[v0] w fun e w' => e = .returned (.bool true) ∧ Below w.heap.size w w' := by
  obtain ⟨aa, cap, rfl⟩ : ∃ aa cap, v0 = .slice aa l0.length cap := by obtain ⟨a, c, h, _⟩ := w0; exact ⟨a, c, h⟩
  by_cases hlen : l0.length ≤ 1048576
  rotate_left
  · go_enter Tryd.func4, Tryd.ntmps4
    go_wp2_with fail
    go_ret
    exact ⟨rfl, Below.refl _ _⟩
  go_enter Tryd.func4, Tryd.ntmps4
  go_wp2_with fail
  refine (draw_NameFor _ l0 _ w0).mono ?_
  rintro e w1 ⟨v, o, s, rfl, hs, ho, hdr, hsl, hB⟩
  go_wp2_with fail
  refine (i_NameFor _ o s _ hsl (dr_sizes hdr) (by omega)).mono ?_
  rintro e w2 ⟨rfl, hb1⟩
  go_wp2_with fail
  refine (s_NameFor _ o s _ (hsl.mono hb1) (dr_sizes hdr) (by omega)).mono ?_
  rintro e w3 ⟨rfl, hb2⟩
  have hsl3 := (hsl.mono hb1).mono hb2
  have bz := below_trans (below_trans hB hb1) hb2
  clear hB hb1 hb2 hsl
  have HN := Lib.hid (name_ok o s)
  generalize nameM o s = x at HN ⊢
  rcases HN.out with rfl | ⟨k1, k2, k3⟩
  · go_wp2_with (first | (go_at_call 11; refine (alive_any _).mono ?_; rintro e w' ⟨rfl, rfl⟩))
    go_ret
    exact ⟨rfl, bz⟩
  · have hx := word_ne k1
    have hxs : x.size ≤ 140737488355328 := by
      unfold wordB at k1
      rw [Bool.and_eq_true, decide_eq_true_eq] at k1
      have := size_len x
      omega
    clear HN
    go_wp2_with fail
    refine (i_WordValid _ _ hxs).mono ?_
    rintro e w4 ⟨rfl, rfl⟩
    rw [k1]
    go_wp2_with fail
    refine (i_ActorNamed _ o x _ hsl3 (dr_sizes hdr)).mono ?_
    rintro e w5 ⟨rfl, hb5⟩
    rw [k2]
    go_wp2_with fail
    refine (i_ActorNamed _ o s _ (hsl3.mono hb5) (dr_sizes hdr)).mono ?_
    rintro e w6 ⟨rfl, hb6⟩
    have b6 := below_trans bz (below_trans hb5 hb6)
    rcases k3 with k3 | rfl
    · have d1 : decide (0 ≤ namedM o s) = true := decide_eq_true k3
      go_wp2_with fail
      go_ret
      exact ⟨rfl, b6⟩
    · have d1 : decide (0 ≤ namedM o x) = false := decide_eq_false (by rw [k2]; decide)
      go_wp2_with fail
      go_ret
      exact ⟨rfl, b6⟩

set_option maxRecDepth 100000 in
theorem lifted (os : Os) (started : os.Started) (H : Type) (enc : TypeId × Value → H) :
    ReturnsInHanded {} Tryd.checked os 4 .any (fun w args => (Rows.fnNameForSpec.pre enc Tryd.prog Tryd.f4 Rows.fnNameForRow.domain false w args ∧ laidMetH Tryd.prog Rows.fnNameForRow.laid w) ∧ sizedMet enc Tryd.prog Tryd.f4 (OpenSpec.ofChange Rows.fnNameForSpec) false w args) (Rows.fnNameForSpec.post enc Tryd.prog Tryd.f4 false true false false) := by
  refine returnsInHanded_of_change_and (C := Tryd.checked) (X := fun w _ => laidMetH Tryd.prog Rows.fnNameForRow.laid w) (fun _ _ _ hh h => h.of_heap hh) own started (by kernel_rfl) Tryd.func4
    (ChangeSpec.witness_shaped (enc := enc) (C := Tryd.checked) (os := os) (X := fun w _ => laidMetH Tryd.prog Rows.fnNameForRow.laid w) false (World.laidAll Tryd.prog os Rows.fnNameForRow.laid) #[.slice none 0 0] 8 (World.laidAll_os _ _ _)
      (World.shaped_of_ZipB (by kernel_rfl) (by kernel_rfl)) (by kernel_rfl) (by kernel_rfl) (by kernel_rfl)
      (by rw [MakeChecks.laidMetH_plain _ _ _ (by kernel_rfl)]; exact laidMet_laidAll _ (by kernel_rfl) (by kernel_rfl))) ?_
  intro W base args ds gs before hval0 hW hcnd _ hL _
  have hval : ∀ (j : Nat) t v, Tryd.f4.params[j]? = some t → args[j]? = some v → Value.okWide Tryd.prog W .any base t v := hval0
  have hW' := hW
  obtain ⟨p, q, hA0, hV, rfl, hfz, hnd⟩ := hW
  have hA : DataW.TrodAll enc Tryd.prog W 0 (fun _ => true) true Tryd.f4.params.toList args.toList ds p := hA0
  rw [Tryd.params4] at hA hval
  obtain ⟨v0, vs0, d0, ds0, p0, q0, hargs, rfl, rfl, h0, r0⟩ := trodAll_cons hA
  obtain ⟨rfl, rfl, rfl⟩ := trodAll_nil r0
  obtain rfl : args = #[v0] := by cases args; simp_all
  obtain ⟨rfl, rfl⟩ := trodVars_none hV
  have k0 := h0
  have lt0 : ∀ x ∈ p0, x.block < W.heap.size := by obtain ⟨m, hm⟩ := k0; exact DataW.trod_lt m _ _ _ hm
  obtain ⟨aa0, len0, cap0, rfl⟩ := okWide_slice Tryd.underlying29 (hval 0 29 v0 rfl rfl)
  obtain ⟨l0, w0, x0⟩ : ∃ l, Sl byteS W (.slice aa0 len0 cap0) l ∧ ∀ y ∈ l, True := by obtain ⟨fuel, hf⟩ := h0; exact open_rows byteS (fun y => True) Tryd.underlying29 (by kernel_rfl) openByte hf
  clear hA0 hval0
  refine (walk _ l0 W w0 x0).mono fun e W' ⟨he, bel⟩ => ?_
  subst he
  exact ⟨_, rfl, _, _, _, [], _, [], hW', trodAll_mk1 (shut_bool Tryd.underlying4 _), (trodAll_cons_mk (Below.trod laidOut (by kernel_rfl) (of_decide_eq_true (by kernel_rfl)) k0 bel lt0) trodAll_mk0), rfl, bel.frame _, fun h => by cases h⟩

theorem over : Rows.fnNameForRow.holds Tryd.pinned (OpenSpec.ofChange Rows.fnNameForSpec) :=
  OpenClaim.holds_of_wide 4 Tryd.f4 rfl rfl rfl rfl rfl rfl rfl ⟨rfl, rfl, rfl, rfl, rfl⟩ rfl rfl rfl rfl rfl (by kernel_rfl) Tryd.func4 (by kernel_rfl)
    (of_decide_eq_true (by kernel_rfl)) (by unfold Func.isWrapper; first | (rw [if_pos (by decide +kernel)]; kernel_rfl) | (rw [if_neg (by decide +kernel)]; exact ⟨rfl, rfl⟩))
    (fun os started H enc _ => lifted os started H enc)

theorem proved : Rows.FnNameForCardSaid :=
  Claim7.holds_tied_plain_at .later [] [.data, .data, .data] true (true, "29d8d67d6cbccc5a7bdfed95d0c05fc81bf22e7b98a7084f8a13de1959399f95") false over (fun _ h => by cases h) (by kernel_rfl) (fun _ h => by cases h) fnNameFor_row_tie rfl ⟨rfl, rfl⟩ (by kernel_rfl) rfl
    (fun f fn hf hfn => by
      obtain rfl : f = 4 := Option.some.inj ((show Tryd.prog.funcNamed "loop.example/feedbridge/laws.FnNameFor" = some 4 by kernel_rfl).symm.trans hf) |>.symm
      obtain rfl : fn = Tryd.f4 := (Option.some.inj (Tryd.func4.symm.trans hfn)).symm
      exact ⟨by kernel_rfl, fun j t ht => by
        rw [Tryd.params4] at ht
        have hm : t ∈ [29] := by simpa using Array.mem_of_getElem? ht
        have hall : ([29].all fun u => !Tryd.prog.wantsStandIn u) = true := by kernel_rfl
        exact (show Tryd.prog.wantsStandIn t = false by simpa using List.all_eq_true.1 hall t hm)⟩)
    (by kernel_rfl)
end Go.Proofs.YtipalcmfhmmdiaaDoor.fnNameFor
