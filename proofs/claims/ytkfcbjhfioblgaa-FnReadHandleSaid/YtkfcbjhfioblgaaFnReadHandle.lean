/- FnReadHandle: for every input the law returns true, and each argument reads afterwards as it read before. No condition. -/
import Derived.Test.YtkfcbjhfioblgaaRows
import Derived.WalkKit
import Derived.ProofKit
import Derived.OpenShut
import Derived.ChangeOld
import Derived.Below
import Derived.Test.YtkfcbjhfioblgaaOpen
import Derived.Test.YtkfcbjhfioblgaaTypes
import Derived.Test.YtkfcbjhfioblgaaHandI
import Derived.Test.YtkfcbjhfioblgaaDrawHR
import Derived.Test.YtkfcbjhfioblgaaAlive
namespace Go.Proofs.Ytkfcbjhfioblgaa.fnReadHandle
open Go.ChangeShapes Go.WideShapes Go.ChangeAt Go.RowKit
open Go.ChangeMaps (open_string shut_string)
set_option linter.unusedVariables false

theorem own : ownKnob Try.prog.godebug = none := by kernel_rfl
theorem laidOut : laidOutB Try.prog = true := by kernel_rfl

theorem openByte {H : Type} {enc : TypeId × Value → H} {w : World} (fuel : Nat) (cs : List Value) (x : DataW H × List MemPlace) (h : DataW.trod enc Try.prog w 0 (fun _ => true) true fuel 5 cs = some x) : ∃ y : UInt8, cs = byteS.enc y ∧ True := by
  obtain ⟨s, rfl, _, hb⟩ := DataW.trod_int Try.underlying5 h
  have := bounds_u8 hb
  exact ⟨UInt8.ofNat s.toNat, by simp [byteS]; omega, trivial⟩

theorem more_no {s n h n' h' : ByteArray} (h1 : Reads s n h) (h2 : Reads (s ++ ⟨#[64]⟩) n' h') : False := by
  have e : (s ++ ⟨#[64]⟩).data.toList = s.data.toList ++ [64] := by rw [ByteArray.data_append]; simp
  have h3 := h2.2
  rw [e, h1.2] at h3
  have h4 : FirstAt ((n.data.toList ++ 64 :: (h.data.toList ++ [64]))) 64 n.data.toList.length := first_app fun j hj => word_64 (handleB_word h1.1).1 hj
  have h5 : FirstAt ((n'.data.toList ++ 64 :: h'.data.toList)) 64 n'.data.toList.length := first_app fun j hj => word_64 (handleB_word h2.1).1 hj
  have h6 : n.data.toList ++ 64 :: (h.data.toList ++ [64]) = n'.data.toList ++ 64 :: h'.data.toList := by simpa using h3
  rw [← h6] at h5
  have h7 := h4.eq h5
  have h8 := congrArg (List.drop (n.data.toList.length + 1)) h6
  rw [drop_app, h7, drop_app] at h8
  have h9 := word_64 (handleB_word h2.1).2 (j := h.data.toList.length) (by rw [← h8]; simp)
  rw [← h8] at h9
  exact h9 (by simp)
theorem text_back {s n h : ByteArray} (hr : Reads s n h) : handleT n h = s := Go.WideShapes.bytes_inj ((handleT_list hr.1).trans hr.2.symm)

set_option maxHeartbeats 1000000 in
theorem walk (v0 : Value) (l0 : List UInt8) (w : World) (w0 : Sl byteS w v0 l0) (x0 : ∀ y ∈ l0, True) :
    Calls Try.prog 10 #[v0] w fun e w' => e = .returned (.bool true) ∧ Below w.heap.size w w' := by
  obtain ⟨aa, cap, rfl⟩ : ∃ aa cap, v0 = .slice aa l0.length cap := by obtain ⟨a, c, h, _⟩ := w0; exact ⟨a, c, h⟩
  by_cases hlen : l0.length ≤ 1048576
  · go_enter Try.func10, Try.ntmps10
    go_wp2_with fail
    refine (draw_ReadHandle _ l0 _ w0).mono ?_
    rintro e w1 ⟨s, rfl, hs, hB⟩
    go_wp2_with fail
    refine (i_ReadHandle _ _ (by omega)).mono ?_
    rintro x w2 ⟨n, h, ok, rfl, hr1, n1, n2, hb1⟩
    go_wp2_with fail
    refine (s_ReadHandle _ _ (by omega)).mono ?_
    rintro x w3 ⟨n', h', ok', rfl, hr2, -, -, hb2⟩
    obtain ⟨rfl, rfl, rfl⟩ := hr1.eq hr2
    clear hr2
    have c0 : w3.cell? ⟨w2.heap.size, 0, none⟩ = some (.string n) := keep_cell hb2 (by simp)
    have c1 : w3.cell? ⟨w2.heap.size, 1, none⟩ = some (.string h) := keep_cell hb2 (by simp)
    have hlt : w2.heap.size < w3.heap.size := Nat.lt_of_lt_of_le (by simp) hb2.size
    have bz : Below w.heap.size w w3 := below_trans hB (below_trans hb1 (below_trans (below1 _ _) hb2))
    rcases hr1 with ⟨rfl, hr⟩ | ⟨rfl, rfl, rfl, hr⟩
    · have hT : Hid (handleT n h = s) := text_back hr
      have hM : Hid (∀ n' h', ¬ Reads (s ++ ⟨#[64]⟩) n' h') := fun n' h' h2 => more_no hr h2
      clear hr
      go_wp2_with fail
      refine (i_ReadHandle _ _ (by rw [ByteArray.size_append, show (⟨#[64]⟩ : ByteArray).size = 1 from rfl]; omega)).mono ?_
      rintro x w4 ⟨n', h', ok', rfl, hr4, -, -, hb4⟩
      rcases hr4 with ⟨rfl, hr4⟩ | ⟨rfl, rfl, rfl, -⟩
      · exact absurd hr4 (hM.out _ _)
      replace c0 := keep_cell (below_trans (below1 _ _) hb4) c0
      replace c1 := keep_cell (below_trans (below1 _ _) hb4) c1
      have hlt4 : w2.heap.size < w4.heap.size := by have := hb4.size; simp at this; omega
      have bz4 : Below w.heap.size w w4 := below_trans bz (below_trans (below1 _ _) hb4)
      go_wp2_with fail
      refine (i_HandleText n h _ (by omega) (by omega)).mono ?_
      rintro e w5 ⟨rfl, hb5⟩
      rw [hT.out]
      go_wp2_with fail
      go_ret
      exact ⟨rfl, below_trans bz4 (below_trans (below1 _ _) hb5)⟩
    · go_wp2_with (first | (go_at_call 20; refine (alive_any _).mono ?_; rintro e w' ⟨rfl, rfl⟩))
      go_ret
      exact ⟨rfl, by repeat (first | exact bz | refine Below.alloc ?_ (by have := bz.size; omega) _)⟩
  · go_enter Try.func10, Try.ntmps10
    go_wp2_with fail
    go_ret
    exact ⟨rfl, Below.refl _ _⟩

set_option maxRecDepth 100000 in
theorem lifted (os : Os) (started : os.Started) (H : Type) (enc : TypeId × Value → H) :
    ReturnsInHanded {} Try.checked os 10 .any (Rows.fnReadHandleSpec.pre6 enc Try.prog Try.f10 Rows.fnReadHandleRow.domain false) (Rows.fnReadHandleSpec.post enc Try.prog Try.f10 false true false false) := by
  refine returnsInHanded_of_change (C := Try.checked) own started (by kernel_rfl) Try.func10
    (ChangeSpec.witness6 (enc := enc) (C := Try.checked) false ⟨#[], #[.slice none 0 0], []⟩ 8 (by kernel_rfl) (by kernel_rfl) (by kernel_rfl) (by kernel_rfl)) ?_
  intro W base args ds gs before hval0 hW hcnd _
  have hval : ∀ (j : Nat) t v, Try.f10.params[j]? = some t → args[j]? = some v → Value.okWide Try.prog W .any base t v := hval0
  have hW' := hW
  obtain ⟨p, q, hA0, hV, rfl, hfz, hnd⟩ := hW
  have hA : DataW.TrodAll enc Try.prog W 0 (fun _ => true) true Try.f10.params.toList args.toList ds p := hA0
  rw [Try.params10] at hA hval
  obtain ⟨v0, vs0, d0, ds0, p0, q0, hargs, rfl, rfl, h0, r0⟩ := trodAll_cons hA
  obtain ⟨rfl, rfl, rfl⟩ := trodAll_nil r0
  obtain rfl : args = #[v0] := by cases args; simp_all
  obtain ⟨rfl, rfl⟩ := trodVars_none hV
  have k0 := h0
  have lt0 : ∀ x ∈ p0, x.block < W.heap.size := by obtain ⟨m, hm⟩ := k0; exact DataW.trod_lt m _ _ _ hm
  obtain ⟨aa0, len0, cap0, rfl⟩ := okWide_slice Try.underlying32 (hval 0 32 v0 rfl rfl)
  obtain ⟨l0, w0, x0⟩ : ∃ l, Sl byteS W (.slice aa0 len0 cap0) l ∧ ∀ y ∈ l, True := by obtain ⟨fuel, hf⟩ := h0; exact open_rows byteS (fun y => True) Try.underlying32 (by kernel_rfl) openByte hf
  clear hA0 hval0
  refine (walk _ l0 W w0 x0).mono fun e W' ⟨he, bel⟩ => ?_
  subst he
  exact ⟨_, rfl, _, _, _, [], _, [], hW', trodAll_mk1 (shut_bool Try.underlying4 _), (trodAll_cons_mk (Below.trod laidOut (by kernel_rfl) (of_decide_eq_true (by kernel_rfl)) k0 bel lt0) trodAll_mk0), rfl, bel.frame _, fun h => by cases h⟩

theorem over : Rows.fnReadHandleRow.holds Try.pinned (OpenSpec.ofChange Rows.fnReadHandleSpec) :=
  OpenClaim.holds_of_wide 10 Try.f10 rfl rfl rfl rfl rfl rfl rfl ⟨rfl, rfl, rfl, rfl, rfl⟩ rfl rfl rfl rfl rfl (by kernel_rfl) Try.func10 (by kernel_rfl)
    (of_decide_eq_true (by kernel_rfl)) (by unfold Func.isWrapper; first | (rw [if_pos (by decide +kernel)]; kernel_rfl) | (rw [if_neg (by decide +kernel)]; exact ⟨rfl, rfl⟩))
    (fun os started H enc _ => lifted os started H enc)

theorem proved : Rows.FnReadHandleSaid := over
end Go.Proofs.Ytkfcbjhfioblgaa.fnReadHandle
