/- FnHandleText: for every input the law returns true, and each argument reads afterwards as it read before. No condition. -/
import Derived.Test.YtkfcbjhfioblgaaRows
import Derived.WalkKit
import Derived.ProofKit
import Derived.OpenShut
import Derived.ChangeOld
import Derived.Below
import Derived.Test.YtkfcbjhfioblgaaOpen
import Derived.Test.YtkfcbjhfioblgaaTypes
import Derived.Test.YtkfcbjhfioblgaaHandI
import Derived.Test.YtkfcbjhfioblgaaDrawHL
import Derived.Test.YtkfcbjhfioblgaaAlive
namespace Go.Proofs.Ytkfcbjhfioblgaa.fnHandleText
open Go.ChangeShapes Go.WideShapes Go.ChangeAt Go.RowKit
open Go.ChangeMaps (open_string shut_string)
set_option linter.unusedVariables false

theorem own : ownKnob Try.prog.godebug = none := by kernel_rfl
theorem laidOut : laidOutB Try.prog = true := by kernel_rfl

theorem openByte {H : Type} {enc : TypeId × Value → H} {w : World} (fuel : Nat) (cs : List Value) (x : DataW H × List MemPlace) (h : DataW.trod enc Try.prog w 0 (fun _ => true) true fuel 5 cs = some x) : ∃ y : UInt8, cs = byteS.enc y ∧ True := by
  obtain ⟨s, rfl, _, hb⟩ := DataW.trod_int Try.underlying5 h
  have := bounds_u8 hb
  exact ⟨UInt8.ofNat s.toNat, by simp [byteS]; omega, trivial⟩

theorem reads_text {n h : ByteArray} (hb : handleB n h = true) : Reads (handleT n h) n h := ⟨hb, handleT_list hb⟩
theorem text_no {n h : ByteArray} (hb : handleB n h = false) : handleT n h = ⟨#[]⟩ := by unfold handleT; rw [hb]; rfl
theorem text_size {n h : ByteArray} (h1 : n.size ≤ 9) (h2 : h.size ≤ 9) : (handleT n h).size ≤ 100 := by
  unfold handleT
  split
  · simp only [ByteArray.size_append, show (⟨#[64]⟩ : ByteArray).size = 1 from rfl]; omega
  · exact Nat.zero_le _

set_option maxHeartbeats 1000000 in
theorem walk (v0 : Value) (l0 : List UInt8) (w : World) (w0 : Sl byteS w v0 l0) (x0 : ∀ y ∈ l0, True) :
    Calls Try.prog 9 #[v0] w fun e w' => e = .returned (.bool true) ∧ Below w.heap.size w w' := by
  obtain ⟨aa, cap, rfl⟩ : ∃ aa cap, v0 = .slice aa l0.length cap := by obtain ⟨a, c, h, _⟩ := w0; exact ⟨a, c, h⟩
  by_cases hlen : l0.length ≤ 1048576
  · go_enter Try.func9, Try.ntmps9
    go_wp2_with fail
    refine (draw_HandleText _ l0 _ w0).mono ?_
    rintro e w1 ⟨n, h, rfl, ⟨n1, n2⟩, hB⟩
    have hz := text_size n1 n2
    go_wp2_with fail
    refine (i_HandleText _ _ _ (by omega) (by omega)).mono ?_
    rintro e w2 ⟨rfl, hb1⟩
    have c0 : w2.cell? ⟨w1.heap.size, 0, none⟩ = some (.string n) := keep_cell hb1 (by simp)
    have c1 : w2.cell? ⟨w1.heap.size, 1, none⟩ = some (.string h) := keep_cell hb1 (by simp)
    have hlt : w1.heap.size < w2.heap.size := Nat.lt_of_lt_of_le (by simp) hb1.size
    go_wp2_with fail
    refine (s_HandleText _ _ _ (by omega) (by omega)).mono ?_
    rintro e w3 ⟨rfl, hb2⟩
    replace c0 := keep_cell hb2 c0
    replace c1 := keep_cell hb2 c1
    have hlt3 : w1.heap.size < w3.heap.size := Nat.lt_of_lt_of_le hlt hb2.size
    have bz : Below w.heap.size w w3 := below_trans hB (below_trans (below1 _ _) (below_trans hb1 hb2))
    go_wp2_with fail
    refine (s_HandleValid _ _ _ (by omega) (by omega)).mono ?_
    rintro e w4 ⟨rfl, hb3⟩
    replace c0 := keep_cell hb3 c0
    replace c1 := keep_cell hb3 c1
    have hlt4 : w1.heap.size < w4.heap.size := Nat.lt_of_lt_of_le hlt3 hb3.size
    replace bz := below_trans bz hb3
    cases hv : handleB n h
    · rw [text_no hv]
      go_wp2_with (first | (go_at_call 20; refine (alive_any _).mono ?_; rintro e w' ⟨rfl, rfl⟩))
      go_ret
      exact ⟨rfl, bz⟩
    · have hr := reads_text hv
      go_wp2_with fail
      refine (i_ReadHandle _ _ (by omega)).mono ?_
      rintro x w5 ⟨n', h', ok', rfl, hr2, -, -, hb5⟩
      obtain ⟨rfl, rfl, rfl⟩ := ReadRel.eq (.inl ⟨rfl, hr⟩) hr2
      replace c0 := keep_cell hb5 c0
      replace c1 := keep_cell hb5 c1
      have hlt5 : w1.heap.size < w5.heap.size := Nat.lt_of_lt_of_le hlt4 hb5.size
      replace bz := below_trans bz hb5
      go_wp2_with fail
      go_ret
      exact ⟨rfl, by repeat (first | exact bz | refine Below.alloc ?_ (by have := bz.size; omega) _)⟩
  · go_enter Try.func9, Try.ntmps9
    go_wp2_with fail
    go_ret
    exact ⟨rfl, Below.refl _ _⟩

set_option maxRecDepth 100000 in
theorem lifted (os : Os) (started : os.Started) (H : Type) (enc : TypeId × Value → H) :
    ReturnsInHanded {} Try.checked os 9 .any (Rows.fnHandleTextSpec.pre6 enc Try.prog Try.f9 Rows.fnHandleTextRow.domain false) (Rows.fnHandleTextSpec.post enc Try.prog Try.f9 false true false false) := by
  refine returnsInHanded_of_change (C := Try.checked) own started (by kernel_rfl) Try.func9
    (ChangeSpec.witness6 (enc := enc) (C := Try.checked) false ⟨#[], #[.slice none 0 0], []⟩ 8 (by kernel_rfl) (by kernel_rfl) (by kernel_rfl) (by kernel_rfl)) ?_
  intro W base args ds gs before hval0 hW hcnd _
  have hval : ∀ (j : Nat) t v, Try.f9.params[j]? = some t → args[j]? = some v → Value.okWide Try.prog W .any base t v := hval0
  have hW' := hW
  obtain ⟨p, q, hA0, hV, rfl, hfz, hnd⟩ := hW
  have hA : DataW.TrodAll enc Try.prog W 0 (fun _ => true) true Try.f9.params.toList args.toList ds p := hA0
  rw [Try.params9] at hA hval
  obtain ⟨v0, vs0, d0, ds0, p0, q0, hargs, rfl, rfl, h0, r0⟩ := trodAll_cons hA
  obtain ⟨rfl, rfl, rfl⟩ := trodAll_nil r0
  obtain rfl : args = #[v0] := by cases args; simp_all
  obtain ⟨rfl, rfl⟩ := trodVars_none hV
  have k0 := h0
  have lt0 : ∀ x ∈ p0, x.block < W.heap.size := by obtain ⟨m, hm⟩ := k0; exact DataW.trod_lt m _ _ _ hm
  obtain ⟨aa0, len0, cap0, rfl⟩ := okWide_slice Try.underlying32 (hval 0 32 v0 rfl rfl)
  obtain ⟨l0, w0, x0⟩ : ∃ l, Sl byteS W (.slice aa0 len0 cap0) l ∧ ∀ y ∈ l, True := by obtain ⟨fuel, hf⟩ := h0; exact open_rows byteS (fun y => True) Try.underlying32 (by kernel_rfl) openByte hf
  clear hA0 hval0
  refine (walk _ l0 W w0 x0).mono fun e W' ⟨he, bel⟩ => ?_
  subst he
  exact ⟨_, rfl, _, _, _, [], _, [], hW', trodAll_mk1 (shut_bool Try.underlying4 _), (trodAll_cons_mk (Below.trod laidOut (by kernel_rfl) (of_decide_eq_true (by kernel_rfl)) k0 bel lt0) trodAll_mk0), rfl, bel.frame _, fun h => by cases h⟩

theorem over : Rows.fnHandleTextRow.holds Try.pinned (OpenSpec.ofChange Rows.fnHandleTextSpec) :=
  OpenClaim.holds_of_wide 9 Try.f9 rfl rfl rfl rfl rfl rfl rfl ⟨rfl, rfl, rfl, rfl, rfl⟩ rfl rfl rfl rfl rfl (by kernel_rfl) Try.func9 (by kernel_rfl)
    (of_decide_eq_true (by kernel_rfl)) (by unfold Func.isWrapper; first | (rw [if_pos (by decide +kernel)]; kernel_rfl) | (rw [if_neg (by decide +kernel)]; exact ⟨rfl, rfl⟩))
    (fun os started H enc _ => lifted os started H enc)

theorem proved : Rows.FnHandleTextSaid := over
end Go.Proofs.Ytkfcbjhfioblgaa.fnHandleText
