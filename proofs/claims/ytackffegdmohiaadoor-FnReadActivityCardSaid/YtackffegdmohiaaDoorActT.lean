/- The walks of ActivityText, of the program and of the reference. Condition: texts are no longer than a machine holds; the program's words of the kinds are laid. -/
import Derived.Test.YtackffegdmohiaaDoorActV
import Derived.Test.YtackffegdmohiaaDoorHandF
import Derived.Test.YtackffegdmohiaaDoorMkT
import Derived.Test.YtackffegdmohiaaDoorDetW
namespace Go.Proofs.YtackffegdmohiaaDoor
open Go.RowKit

/-- The words of the kinds. -/
def kindL : List (List UInt8) := [[99, 114, 101, 97, 116, 101], [117, 112, 100, 97, 116, 101], [100, 101, 108, 101, 116, 101], [102, 111, 108, 108, 111, 119], [97, 99, 99, 101, 112, 116], [117, 110, 100, 111]]
def kindW (k : Nat) : ByteArray := ⟨(kindL.getD k []).toArray⟩
theorem kind_inj : ∀ i, i < 6 → ∀ j, j < 6 → kindL.getD i [] = kindL.getD j [] → i = j := by decide
theorem kind_aln : ∀ i, i < 6 → ∀ c ∈ kindL.getD i [], alnB c = true := by decide
theorem kind_len : ∀ i, i < 6 → (kindL.getD i []).length ≤ 6 := by decide
theorem kindW_list (k : Nat) : (kindW k).data.toList = kindL.getD k [] := rfl
def actT (k m : Int) (n h t : ByteArray) : ByteArray := if actB k m n h t then kindW k.toNat ++ ⟨#[32]⟩ ++ markS m ++ ⟨#[32]⟩ ++ handleT n h ++ ⟨#[32]⟩ ++ t else ⟨#[]⟩
theorem actT_no {k m : Int} {n h t : ByteArray} (hb : actB k m n h t = false) : actT k m n h t = ⟨#[]⟩ := by unfold actT; rw [hb]; rfl
theorem actT_yes {k m : Int} {n h t : ByteArray} (hb : actB k m n h t = true) : actT k m n h t = kindW k.toNat ++ ⟨#[32]⟩ ++ markS m ++ ⟨#[32]⟩ ++ handleT n h ++ ⟨#[32]⟩ ++ t := by unfold actT; rw [if_pos hb]
/-- The program's variable holds the words of the kinds. -/
def KindsAt (w : World) : Prop := ∀ k : Nat, k < 6 → w.cell? ⟨0, k, none⟩ = some (.string (kindW k))
theorem KindsAt.keep {w w' : World} (h : KindsAt w) (hb : Below w.heap.size w w') : KindsAt w' := fun k hk => keep_cell hb (h k hk)
theorem i_MarkB (n : Int) (w : World) : Calls Tryd.prog 25 #[.int .i64 n] w fun e w' => e = .returned (.string (markS n)) ∧ Below w.heap.size w w' :=
  (i_MarkText n w).mono fun _ _ ⟨h, e⟩ => ⟨h, e ▸ Below.refl _ _⟩
theorem s_MarkB (n : Int) (w : World) : Calls Tryd.prog 21 #[.int .i64 n] w fun e w' => e = .returned (.string (markS n)) ∧ Below w.heap.size w w' :=
  (s_MarkText n w).mono fun _ _ ⟨h, e⟩ => ⟨h, e ▸ Below.refl _ _⟩
theorem kindW_size {k : Nat} (hk : k < 6) : (kindW k).size ≤ 6 := by
  have := kind_len k hk
  rw [← kindW_list, size_len] at this
  exact this
theorem word_size {s : ByteArray} (h : wordB s.data.toList = true) : s.size ≤ 8 := by
  unfold wordB at h
  rw [Bool.and_eq_true, decide_eq_true_eq, size_len] at h
  exact h.1.2
theorem handleT_size {n h : ByteArray} (hb : handleB n h = true) : (handleT n h).size ≤ 18 := by
  unfold handleB at hb
  rw [Bool.and_eq_true] at hb
  have h1 := word_size hb.1
  have h2 := word_size hb.2
  unfold handleT
  split
  · simp only [ByteArray.size_append, show (⟨#[64]⟩ : ByteArray).size = 1 from rfl]; omega
  · exact Nat.zero_le _

theorem sum_size (a b : ByteArray) {p q : Nat} (ha : a.size ≤ p) (hb : b.size ≤ q) : (a ++ b).size ≤ p + q := by rw [ByteArray.size_append]; omega
set_option maxHeartbeats 1600000 in
theorem i_ActivityText (k m : Int) (n g t : ByteArray) (w : World) (hn : n.size ≤ 140737488355328) (hh : g.size ≤ 140737488355328) (ht : t.size ≤ 140737488355328) (hK : KindsAt w) :
    Calls Tryd.prog 10 #[.agg #[.int .i64 k, .int .i64 m, .string n, .string g, .string t]] w fun x w' => x = .returned (.string (actT k m n g t)) ∧ Below w.heap.size w w' := by
  cases hB : actB k m n g t
  · rw [actT_no hB]
    go_enter Tryd.func10, Tryd.ntmps10
    go_wp2_with fail
    refine (i_ActivityValid k m n g t _ hn hh ht).mono ?_
    rintro x w1 ⟨rfl, hb⟩
    rw [hB]
    go_wp2_with fail
    go_ret
    exact ⟨rfl, below_trans (below1 _ _) hb⟩
  · obtain ⟨k0, k1, m0, m1, hH, hw⟩ := actB_true hB
    obtain ⟨kd, rfl⟩ := Int.eq_ofNat_of_zero_le k0
    have hK6 : kd < 6 := by omega
    have s1 := kindW_size hK6
    have s2 := markS_size m
    have s3 := handleT_size hH
    have s4 := word_size hw
    have e32 : (ByteArray.mk #[32]).size = 1 := rfl
    have dk0 := hK kd hK6
    rw [actT_yes hB, show ((kd : Int)).toNat = kd from rfl]
    generalize kindW kd = KW at dk0 s1 ⊢
    have z1 := sum_size KW ⟨#[32]⟩ s1 (Nat.le_of_eq e32)
    have z2 := sum_size _ _ z1 s2
    have z3 := sum_size _ ⟨#[32]⟩ z2 (Nat.le_of_eq e32)
    have z4 := sum_size _ _ z3 s3
    have z5 := sum_size _ ⟨#[32]⟩ z4 (Nat.le_of_eq e32)
    have HB := Lib.hid hB
    have q1 : (0 : Int) ≤ (kd : Int) := k0
    have q2 : (kd : Int) < 6 := by omega
    clear hB hK k0 k1 m0 m1 hH hw
    go_enter Tryd.func10, Tryd.ntmps10
    go_wp2_with fail
    refine (i_ActivityValid kd m n g t _ hn hh ht).mono ?_
    rintro x w1 ⟨rfl, hb⟩
    rw [HB.out]
    have bz : Below w.heap.size w w1 := below_trans (below1 _ _) hb
    have dk := keep_cell bz dk0
    have d0 : w1.cell? ⟨w.heap.size, 0, none⟩ = some (.int .i64 (kd : Int)) := keep_cell hb (by simp)
    have d1 : w1.cell? ⟨w.heap.size, 1, none⟩ = some (.int .i64 m) := keep_cell hb (by simp)
    have d2 : w1.cell? ⟨w.heap.size, 2, none⟩ = some (.string n) := keep_cell hb (by simp)
    have d3 : w1.cell? ⟨w.heap.size, 3, none⟩ = some (.string g) := keep_cell hb (by simp)
    have d4 : w1.cell? ⟨w.heap.size, 4, none⟩ = some (.string t) := keep_cell hb (by simp)
    clear dk0 hb
    go_wp2_with fail
    refine wp_region_typed (fun i _ v => v = ([.pointer (some ⟨w.heap.size, 0, none⟩), .int .i64 (kd : Int), .pointer (some ⟨0, kd, none⟩), .string KW, .string (KW ++ ⟨#[32]⟩), .pointer (some ⟨w.heap.size, 1, none⟩), .int .i64 m, .string (markS m), .string (KW ++ ⟨#[32]⟩ ++ markS m), .string (KW ++ ⟨#[32]⟩ ++ markS m ++ ⟨#[32]⟩), .pointer (some ⟨w.heap.size, 2, none⟩), .agg #[.string n, .string g], .string (handleT n g), .string (KW ++ ⟨#[32]⟩ ++ markS m ++ ⟨#[32]⟩ ++ handleT n g), .string (KW ++ ⟨#[32]⟩ ++ markS m ++ ⟨#[32]⟩ ++ handleT n g ++ ⟨#[32]⟩), .pointer (some ⟨w.heap.size, 4, none⟩), .string t, .string (KW ++ ⟨#[32]⟩ ++ markS m ++ ⟨#[32]⟩ ++ handleT n g ++ ⟨#[32]⟩ ++ t), .string (KW ++ ⟨#[32]⟩ ++ markS m ++ ⟨#[32]⟩ ++ handleT n g ++ ⟨#[32]⟩ ++ t)] : List Value).getD i undef) (fun _ => 0) (fun _ w' => Below w1.heap.size w1 w') (fun _ _ => True) 0 (by kernel_rfl) 24 rfl (by kernel_rfl) (by decide) (Below.refl _ _).drew (fun _ _ _ _ _ h => h) ?_ ?_
    · refine ⟨?_, ?_, ?_, ?_, ?_, ?_, ?_, ?_, ?_, ?_, ?_, ?_, ?_, ?_, ?_, ?_, ?_, ?_, ?_, trivial⟩
      · intro B a' w' hB hW hF
        have h1 : a'.tmps[1]? = some (.pointer (some ⟨w.heap.size, 0, none⟩)) := (hF.at 1 (by kernel_rfl)).trans rfl
        refine wpOp_step rfl (fun K hK => ?_)
        go_simp
        exact hK _ _ ⟨_, rfl, trivial, rfl, hW⟩
      · intro B a' w' hB hW hF
        have h6 : a'.tmps[6]? = some (.pointer (some ⟨w.heap.size, 0, none⟩)) := by obtain ⟨_, h, e⟩ := hF.val ⟨0, .data⟩ (by simp) rfl _ rfl; rw [h, show _ = (.pointer (some ⟨w.heap.size, 0, none⟩) : Value) from e]
        have c0 : w'.cell? ⟨w.heap.size, 0, none⟩ = some (.int .i64 (kd : Int)) := keep_cell hW d0
        refine wpOp_step rfl (fun K hK => ?_)
        go_simp
        exact hK _ _ ⟨_, rfl, trivial, rfl, hW⟩
      · intro B a' w' hB hW hF
        have h7 : a'.tmps[7]? = some (.int .i64 (kd : Int)) := by obtain ⟨_, h, e⟩ := hF.val ⟨1, .data⟩ (by simp) rfl _ rfl; rw [h, show _ = (.int .i64 (kd : Int) : Value) from e]
        refine wpOp_step rfl (fun K hK => ?_)
        go_simp
        exact hK _ _ ⟨_, rfl, trivial, rfl, hW⟩
      · intro B a' w' hB hW hF
        have h8 : a'.tmps[8]? = some (.pointer (some ⟨0, kd, none⟩)) := by obtain ⟨_, h, e⟩ := hF.val ⟨2, .data⟩ (by simp) rfl _ rfl; rw [h, show _ = (.pointer (some ⟨0, kd, none⟩) : Value) from e]
        have ck := keep_cell hW dk
        refine wpOp_step rfl (fun K hK => ?_)
        go_simp
        exact hK _ _ ⟨_, rfl, trivial, rfl, hW⟩
      · intro B a' w' hB hW hF
        have h9 : a'.tmps[9]? = some (.string KW) := by obtain ⟨_, h, e⟩ := hF.val ⟨3, .data⟩ (by simp) rfl _ rfl; rw [h, show _ = (.string KW : Value) from e]
        refine wpOp_step rfl (fun K hK => ?_)
        go_simp
        rw [if_neg (by omega)]
        go_simp
        have hb : Below w'.heap.size w' w' := Below.refl _ _
        exact hK _ _ ⟨_, rfl, trivial, rfl, below_trans hW hb⟩
      · intro B a' w' hB hW hF
        have h1 : a'.tmps[1]? = some (.pointer (some ⟨w.heap.size, 0, none⟩)) := (hF.at 1 (by kernel_rfl)).trans rfl
        refine wpOp_step rfl (fun K hK => ?_)
        go_simp
        exact hK _ _ ⟨_, rfl, trivial, rfl, hW⟩
      · intro B a' w' hB hW hF
        have h11 : a'.tmps[11]? = some (.pointer (some ⟨w.heap.size, 1, none⟩)) := by obtain ⟨_, h, e⟩ := hF.val ⟨5, .data⟩ (by simp) rfl _ rfl; rw [h, show _ = (.pointer (some ⟨w.heap.size, 1, none⟩) : Value) from e]
        have c1 : w'.cell? ⟨w.heap.size, 1, none⟩ = some (.int .i64 m) := keep_cell hW d1
        refine wpOp_step rfl (fun K hK => ?_)
        go_simp
        exact hK _ _ ⟨_, rfl, trivial, rfl, hW⟩
      · intro B a' w' hB hW hF
        have h12 : a'.tmps[12]? = some (.int .i64 m) := by obtain ⟨_, h, e⟩ := hF.val ⟨6, .data⟩ (by simp) rfl _ rfl; rw [h, show _ = (.int .i64 m : Value) from e]
        refine wpOp_step rfl (fun K hK => ?_)
        go_simp
        refine (i_MarkB _ _).mono ?_
        rintro e w'' ⟨rfl, hb⟩
        exact hK _ _ ⟨_, rfl, trivial, rfl, below_trans hW hb⟩
      · intro B a' w' hB hW hF
        have h10 : a'.tmps[10]? = some (.string (KW ++ ⟨#[32]⟩)) := by obtain ⟨_, h, e⟩ := hF.val ⟨4, .data⟩ (by simp) rfl _ rfl; rw [h, show _ = (.string (KW ++ ⟨#[32]⟩) : Value) from e]
        have h13 : a'.tmps[13]? = some (.string (markS m)) := by obtain ⟨_, h, e⟩ := hF.val ⟨7, .data⟩ (by simp) rfl _ rfl; rw [h, show _ = (.string (markS m) : Value) from e]
        refine wpOp_step rfl (fun K hK => ?_)
        go_simp
        rw [if_neg (by omega)]
        go_simp
        have hb : Below w'.heap.size w' w' := Below.refl _ _
        exact hK _ _ ⟨_, rfl, trivial, rfl, below_trans hW hb⟩
      · intro B a' w' hB hW hF
        have h14 : a'.tmps[14]? = some (.string (KW ++ ⟨#[32]⟩ ++ markS m)) := by obtain ⟨_, h, e⟩ := hF.val ⟨8, .data⟩ (by simp) rfl _ rfl; rw [h, show _ = (.string (KW ++ ⟨#[32]⟩ ++ markS m) : Value) from e]
        refine wpOp_step rfl (fun K hK => ?_)
        go_simp
        rw [if_neg (by omega)]
        go_simp
        have hb : Below w'.heap.size w' w' := Below.refl _ _
        exact hK _ _ ⟨_, rfl, trivial, rfl, below_trans hW hb⟩
      · intro B a' w' hB hW hF
        have h1 : a'.tmps[1]? = some (.pointer (some ⟨w.heap.size, 0, none⟩)) := (hF.at 1 (by kernel_rfl)).trans rfl
        refine wpOp_step rfl (fun K hK => ?_)
        go_simp
        exact hK _ _ ⟨_, rfl, trivial, rfl, hW⟩
      · intro B a' w' hB hW hF
        have h16 : a'.tmps[16]? = some (.pointer (some ⟨w.heap.size, 2, none⟩)) := by obtain ⟨_, h, e⟩ := hF.val ⟨10, .data⟩ (by simp) rfl _ rfl; rw [h, show _ = (.pointer (some ⟨w.heap.size, 2, none⟩) : Value) from e]
        have c2 : w'.cell? ⟨w.heap.size, 2, none⟩ = some (.string n) := keep_cell hW d2
        have c3 : w'.cell? ⟨w.heap.size, 3, none⟩ = some (.string g) := keep_cell hW d3
        refine wpOp_step rfl (fun K hK => ?_)
        go_simp
        exact hK _ _ ⟨_, rfl, trivial, rfl, hW⟩
      · intro B a' w' hB hW hF
        have h17 : a'.tmps[17]? = some (.agg #[.string n, .string g]) := by obtain ⟨_, h, e⟩ := hF.val ⟨11, .data⟩ (by simp) rfl _ rfl; rw [h, show _ = (.agg #[.string n, .string g] : Value) from e]
        refine wpOp_step rfl (fun K hK => ?_)
        go_simp
        refine (i_HandleText n g _ hn hh).mono ?_
        rintro e w'' ⟨rfl, hb⟩
        exact hK _ _ ⟨_, rfl, trivial, rfl, below_trans hW hb⟩
      · intro B a' w' hB hW hF
        have h15 : a'.tmps[15]? = some (.string (KW ++ ⟨#[32]⟩ ++ markS m ++ ⟨#[32]⟩)) := by obtain ⟨_, h, e⟩ := hF.val ⟨9, .data⟩ (by simp) rfl _ rfl; rw [h, show _ = (.string (KW ++ ⟨#[32]⟩ ++ markS m ++ ⟨#[32]⟩) : Value) from e]
        have h18 : a'.tmps[18]? = some (.string (handleT n g)) := by obtain ⟨_, h, e⟩ := hF.val ⟨12, .data⟩ (by simp) rfl _ rfl; rw [h, show _ = (.string (handleT n g) : Value) from e]
        refine wpOp_step rfl (fun K hK => ?_)
        go_simp
        rw [if_neg (by omega)]
        go_simp
        have hb : Below w'.heap.size w' w' := Below.refl _ _
        exact hK _ _ ⟨_, rfl, trivial, rfl, below_trans hW hb⟩
      · intro B a' w' hB hW hF
        have h19 : a'.tmps[19]? = some (.string (KW ++ ⟨#[32]⟩ ++ markS m ++ ⟨#[32]⟩ ++ handleT n g)) := by obtain ⟨_, h, e⟩ := hF.val ⟨13, .data⟩ (by simp) rfl _ rfl; rw [h, show _ = (.string (KW ++ ⟨#[32]⟩ ++ markS m ++ ⟨#[32]⟩ ++ handleT n g) : Value) from e]
        refine wpOp_step rfl (fun K hK => ?_)
        go_simp
        rw [if_neg (by omega)]
        go_simp
        have hb : Below w'.heap.size w' w' := Below.refl _ _
        exact hK _ _ ⟨_, rfl, trivial, rfl, below_trans hW hb⟩
      · intro B a' w' hB hW hF
        have h1 : a'.tmps[1]? = some (.pointer (some ⟨w.heap.size, 0, none⟩)) := (hF.at 1 (by kernel_rfl)).trans rfl
        refine wpOp_step rfl (fun K hK => ?_)
        go_simp
        exact hK _ _ ⟨_, rfl, trivial, rfl, hW⟩
      · intro B a' w' hB hW hF
        have h21 : a'.tmps[21]? = some (.pointer (some ⟨w.heap.size, 4, none⟩)) := by obtain ⟨_, h, e⟩ := hF.val ⟨15, .data⟩ (by simp) rfl _ rfl; rw [h, show _ = (.pointer (some ⟨w.heap.size, 4, none⟩) : Value) from e]
        have c4 : w'.cell? ⟨w.heap.size, 4, none⟩ = some (.string t) := keep_cell hW d4
        refine wpOp_step rfl (fun K hK => ?_)
        go_simp
        exact hK _ _ ⟨_, rfl, trivial, rfl, hW⟩
      · intro B a' w' hB hW hF
        have h20 : a'.tmps[20]? = some (.string (KW ++ ⟨#[32]⟩ ++ markS m ++ ⟨#[32]⟩ ++ handleT n g ++ ⟨#[32]⟩)) := by obtain ⟨_, h, e⟩ := hF.val ⟨14, .data⟩ (by simp) rfl _ rfl; rw [h, show _ = (.string (KW ++ ⟨#[32]⟩ ++ markS m ++ ⟨#[32]⟩ ++ handleT n g ++ ⟨#[32]⟩) : Value) from e]
        have h22 : a'.tmps[22]? = some (.string t) := by obtain ⟨_, h, e⟩ := hF.val ⟨16, .data⟩ (by simp) rfl _ rfl; rw [h, show _ = (.string t : Value) from e]
        refine wpOp_step rfl (fun K hK => ?_)
        go_simp
        rw [if_neg (by omega)]
        go_simp
        have hb : Below w'.heap.size w' w' := Below.refl _ _
        exact hK _ _ ⟨_, rfl, trivial, rfl, below_trans hW hb⟩
      · intro B a' w' hB hW hF
        have h23 : a'.tmps[23]? = some (.string (KW ++ ⟨#[32]⟩ ++ markS m ++ ⟨#[32]⟩ ++ handleT n g ++ ⟨#[32]⟩ ++ t)) := by obtain ⟨_, h, e⟩ := hF.val ⟨17, .data⟩ (by simp) rfl _ rfl; rw [h, show _ = (.string (KW ++ ⟨#[32]⟩ ++ markS m ++ ⟨#[32]⟩ ++ handleT n g ++ ⟨#[32]⟩ ++ t) : Value) from e]
        refine wpOp_step rfl (fun K hK => ?_)
        go_simp
        exact hK _ _ ⟨_, rfl, trivial, rfl, hW⟩
    · intro a' w' hL hW
      have hd := hL.defers
      have hs := hL.size
      have h6 : a'.tmps[6]? = some (.pointer (some ⟨w.heap.size, 0, none⟩)) := by obtain ⟨_, h, e⟩ := hL.val 0 _ rfl; rw [h, show _ = (.pointer (some ⟨w.heap.size, 0, none⟩) : Value) from e]
      have h7 : a'.tmps[7]? = some (.int .i64 (kd : Int)) := by obtain ⟨_, h, e⟩ := hL.val 1 _ rfl; rw [h, show _ = (.int .i64 (kd : Int) : Value) from e]
      have h8 : a'.tmps[8]? = some (.pointer (some ⟨0, kd, none⟩)) := by obtain ⟨_, h, e⟩ := hL.val 2 _ rfl; rw [h, show _ = (.pointer (some ⟨0, kd, none⟩) : Value) from e]
      have h9 : a'.tmps[9]? = some (.string KW) := by obtain ⟨_, h, e⟩ := hL.val 3 _ rfl; rw [h, show _ = (.string KW : Value) from e]
      have h10 : a'.tmps[10]? = some (.string (KW ++ ⟨#[32]⟩)) := by obtain ⟨_, h, e⟩ := hL.val 4 _ rfl; rw [h, show _ = (.string (KW ++ ⟨#[32]⟩) : Value) from e]
      have h11 : a'.tmps[11]? = some (.pointer (some ⟨w.heap.size, 1, none⟩)) := by obtain ⟨_, h, e⟩ := hL.val 5 _ rfl; rw [h, show _ = (.pointer (some ⟨w.heap.size, 1, none⟩) : Value) from e]
      have h12 : a'.tmps[12]? = some (.int .i64 m) := by obtain ⟨_, h, e⟩ := hL.val 6 _ rfl; rw [h, show _ = (.int .i64 m : Value) from e]
      have h13 : a'.tmps[13]? = some (.string (markS m)) := by obtain ⟨_, h, e⟩ := hL.val 7 _ rfl; rw [h, show _ = (.string (markS m) : Value) from e]
      have h14 : a'.tmps[14]? = some (.string (KW ++ ⟨#[32]⟩ ++ markS m)) := by obtain ⟨_, h, e⟩ := hL.val 8 _ rfl; rw [h, show _ = (.string (KW ++ ⟨#[32]⟩ ++ markS m) : Value) from e]
      have h15 : a'.tmps[15]? = some (.string (KW ++ ⟨#[32]⟩ ++ markS m ++ ⟨#[32]⟩)) := by obtain ⟨_, h, e⟩ := hL.val 9 _ rfl; rw [h, show _ = (.string (KW ++ ⟨#[32]⟩ ++ markS m ++ ⟨#[32]⟩) : Value) from e]
      have h16 : a'.tmps[16]? = some (.pointer (some ⟨w.heap.size, 2, none⟩)) := by obtain ⟨_, h, e⟩ := hL.val 10 _ rfl; rw [h, show _ = (.pointer (some ⟨w.heap.size, 2, none⟩) : Value) from e]
      have h17 : a'.tmps[17]? = some (.agg #[.string n, .string g]) := by obtain ⟨_, h, e⟩ := hL.val 11 _ rfl; rw [h, show _ = (.agg #[.string n, .string g] : Value) from e]
      have h18 : a'.tmps[18]? = some (.string (handleT n g)) := by obtain ⟨_, h, e⟩ := hL.val 12 _ rfl; rw [h, show _ = (.string (handleT n g) : Value) from e]
      have h19 : a'.tmps[19]? = some (.string (KW ++ ⟨#[32]⟩ ++ markS m ++ ⟨#[32]⟩ ++ handleT n g)) := by obtain ⟨_, h, e⟩ := hL.val 13 _ rfl; rw [h, show _ = (.string (KW ++ ⟨#[32]⟩ ++ markS m ++ ⟨#[32]⟩ ++ handleT n g) : Value) from e]
      have h20 : a'.tmps[20]? = some (.string (KW ++ ⟨#[32]⟩ ++ markS m ++ ⟨#[32]⟩ ++ handleT n g ++ ⟨#[32]⟩)) := by obtain ⟨_, h, e⟩ := hL.val 14 _ rfl; rw [h, show _ = (.string (KW ++ ⟨#[32]⟩ ++ markS m ++ ⟨#[32]⟩ ++ handleT n g ++ ⟨#[32]⟩) : Value) from e]
      have h21 : a'.tmps[21]? = some (.pointer (some ⟨w.heap.size, 4, none⟩)) := by obtain ⟨_, h, e⟩ := hL.val 15 _ rfl; rw [h, show _ = (.pointer (some ⟨w.heap.size, 4, none⟩) : Value) from e]
      have h22 : a'.tmps[22]? = some (.string t) := by obtain ⟨_, h, e⟩ := hL.val 16 _ rfl; rw [h, show _ = (.string t : Value) from e]
      have h23 : a'.tmps[23]? = some (.string (KW ++ ⟨#[32]⟩ ++ markS m ++ ⟨#[32]⟩ ++ handleT n g ++ ⟨#[32]⟩ ++ t)) := by obtain ⟨_, h, e⟩ := hL.val 17 _ rfl; rw [h, show _ = (.string (KW ++ ⟨#[32]⟩ ++ markS m ++ ⟨#[32]⟩ ++ handleT n g ++ ⟨#[32]⟩ ++ t) : Value) from e]
      have h2 : a'.tmps[2]? = some (.string (KW ++ ⟨#[32]⟩ ++ markS m ++ ⟨#[32]⟩ ++ handleT n g ++ ⟨#[32]⟩ ++ t)) := by obtain ⟨_, h, e⟩ := hL.val 18 _ rfl; rw [h, show _ = (.string (KW ++ ⟨#[32]⟩ ++ markS m ++ ⟨#[32]⟩ ++ handleT n g ++ ⟨#[32]⟩ ++ t) : Value) from e]
      have hlit := act_lit (l := [_, _, _, _, _, _, _, _, _, _, _, _, _, _, _, _, _, _, _, _, _, _, _, _]) (hd.trans rfl) (by rw [hs]; rfl) (AllAt.cons ((hL.at 0 (by kernel_rfl)).trans rfl) (AllAt.cons ((hL.at 1 (by kernel_rfl)).trans rfl) (AllAt.cons h2 (AllAt.cons ((hL.at 3 (by kernel_rfl)).trans rfl) (AllAt.cons ((hL.at 4 (by kernel_rfl)).trans rfl) (AllAt.cons ((hL.at 5 (by kernel_rfl)).trans rfl) (AllAt.cons h6 (AllAt.cons h7 (AllAt.cons h8 (AllAt.cons h9 (AllAt.cons h10 (AllAt.cons h11 (AllAt.cons h12 (AllAt.cons h13 (AllAt.cons h14 (AllAt.cons h15 (AllAt.cons h16 (AllAt.cons h17 (AllAt.cons h18 (AllAt.cons h19 (AllAt.cons h20 (AllAt.cons h21 (AllAt.cons h22 (AllAt.cons h23 AllAt.nil))))))))))))))))))))))))
      clear hL hd hs h2 h6 h7 h8 h9 h10 h11 h12 h13 h14 h15 h16 h17 h18 h19 h20 h21 h22 h23
      subst hlit
      dsimp only [List.getElem_toArray, List.getElem_cons_zero, List.getElem_cons_succ]
      go_wp2_with fail
      go_ret
      exact ⟨rfl, below_trans bz hW⟩
/-- A block that holds the words of the kinds. -/
def WordsAt (w : World) (g : Nat) : Prop := ∀ k : Nat, k < 6 → w.cell? ⟨g, k, none⟩ = some (.string (kindW k))
theorem WordsAt.keep {w w' : World} {g : Nat} (h : WordsAt w g) (hb : Below w.heap.size w w') : WordsAt w' g := fun k hk => keep_cell hb (h k hk)
def bSix : BTy := ⟨fun w v => ∃ g, v = .slice (some ⟨g, 0, none⟩) 6 6 ∧ WordsAt w g, fun _ _ _ hb h => by obtain ⟨g, e, hc⟩ := h; exact ⟨g, e, hc.keep hb⟩⟩
def SixRet (w : World) (e : Ending) (w' : World) : Prop := ∃ g, e = .returned (.slice (some ⟨g, 0, none⟩) 6 6) ∧ WordsAt w' g ∧ Below w.heap.size w w'
theorem words_at (w : World) (t : TypeId) : WordsAt (w.alloc (.cells #[.string ⟨#[99, 114, 101, 97, 116, 101]⟩, .string ⟨#[117, 112, 100, 97, 116, 101]⟩, .string ⟨#[100, 101, 108, 101, 116, 101]⟩, .string ⟨#[102, 111, 108, 108, 111, 119]⟩, .string ⟨#[97, 99, 99, 101, 112, 116]⟩, .string ⟨#[117, 110, 100, 111]⟩] t)) w.heap.size := fun k hk => by
  rw [World.cell?_alloc_new]
  match k, hk with
  | 0, _ => rfl
  | 1, _ => rfl
  | 2, _ => rfl
  | 3, _ => rfl
  | 4, _ => rfl
  | 5, _ => rfl
theorem s_words (w : World) : Calls Tryd.prog 20 #[] w (SixRet w) := by
  go_enter Tryd.func20, Tryd.ntmps20
  go_wp2
  go_ret
  exact ⟨_, rfl, words_at _ _, below1 _ _⟩
set_option maxHeartbeats 1600000 in
theorem s_ActivityText (k m : Int) (n g t : ByteArray) (w : World) (hn : n.size ≤ 140737488355328) (hh : g.size ≤ 140737488355328) (ht : t.size ≤ 140737488355328) :
    Calls Tryd.prog 8 #[.agg #[.int .i64 k, .int .i64 m, .string n, .string g, .string t]] w fun x w' => x = .returned (.string (actT k m n g t)) ∧ Below w.heap.size w w' := by
  cases hB : actB k m n g t
  · rw [actT_no hB]
    go_enter Tryd.func8, Tryd.ntmps8
    go_wp2_with fail
    refine (s_ActivityValid k m n g t _ hn hh ht).mono ?_
    rintro x w1 ⟨rfl, hb⟩
    rw [hB]
    go_wp2_with fail
    go_ret
    exact ⟨rfl, below_trans (below1 _ _) hb⟩
  · obtain ⟨k0, k1, m0, m1, hH, hw⟩ := actB_true hB
    obtain ⟨kd, rfl⟩ := Int.eq_ofNat_of_zero_le k0
    have hK6 : kd < 6 := by omega
    have s1 := kindW_size hK6
    have s2 := markS_size m
    have s3 := handleT_size hH
    have s4 := word_size hw
    have e32 : (ByteArray.mk #[32]).size = 1 := rfl
    rw [actT_yes hB, show ((kd : Int)).toNat = kd from rfl]
    obtain ⟨KW, hKW⟩ : ∃ KW, Hid (KW = kindW kd) := ⟨_, Lib.hid rfl⟩
    rw [← hKW.out] at s1 ⊢
    have z1 := sum_size KW ⟨#[32]⟩ s1 (Nat.le_of_eq e32)
    have z2 := sum_size _ _ z1 s2
    have z3 := sum_size _ ⟨#[32]⟩ z2 (Nat.le_of_eq e32)
    have z4 := sum_size _ _ z3 s3
    have z5 := sum_size _ ⟨#[32]⟩ z4 (Nat.le_of_eq e32)
    have HB := Lib.hid hB
    have q1 : (0 : Int) ≤ (kd : Int) := k0
    have q2 : (kd : Int) < 6 := by omega
    clear hB k0 k1 m0 m1 hH hw
    go_enter Tryd.func8, Tryd.ntmps8
    go_wp2_with fail
    refine (s_ActivityValid kd m n g t _ hn hh ht).mono ?_
    rintro x w1 ⟨rfl, hb⟩
    rw [HB.out]
    have bz : Below w.heap.size w w1 := below_trans (below1 _ _) hb
    have d0 : w1.cell? ⟨w.heap.size, 0, none⟩ = some (.int .i64 (kd : Int)) := keep_cell hb (by simp)
    have d1 : w1.cell? ⟨w.heap.size, 1, none⟩ = some (.int .i64 m) := keep_cell hb (by simp)
    have d2 : w1.cell? ⟨w.heap.size, 2, none⟩ = some (.string n) := keep_cell hb (by simp)
    have d3 : w1.cell? ⟨w.heap.size, 3, none⟩ = some (.string g) := keep_cell hb (by simp)
    have d4 : w1.cell? ⟨w.heap.size, 4, none⟩ = some (.string t) := keep_cell hb (by simp)
    clear hb
    go_wp2_with fail
    refine wp_region_typed (fun iX wX vX => (([bSix, bIs (.pointer (some ⟨w.heap.size, 0, none⟩)), bIs (.int .i64 (kd : Int)), bPtr kd (.string KW), bIs (.string KW), bIs (.string (KW ++ ⟨#[32]⟩)), bIs (.pointer (some ⟨w.heap.size, 1, none⟩)), bIs (.int .i64 m), bIs (.string (markS m)), bIs (.string (KW ++ ⟨#[32]⟩ ++ markS m)), bIs (.string (KW ++ ⟨#[32]⟩ ++ markS m ++ ⟨#[32]⟩)), bIs (.pointer (some ⟨w.heap.size, 2, none⟩)), bIs (.agg #[.string n, .string g]), bIs (.string (handleT n g)), bIs (.string (KW ++ ⟨#[32]⟩ ++ markS m ++ ⟨#[32]⟩ ++ handleT n g)), bIs (.string (KW ++ ⟨#[32]⟩ ++ markS m ++ ⟨#[32]⟩ ++ handleT n g ++ ⟨#[32]⟩)), bIs (.pointer (some ⟨w.heap.size, 4, none⟩)), bIs (.string t), bIs (.string (KW ++ ⟨#[32]⟩ ++ markS m ++ ⟨#[32]⟩ ++ handleT n g ++ ⟨#[32]⟩ ++ t)), bIs (.string (KW ++ ⟨#[32]⟩ ++ markS m ++ ⟨#[32]⟩ ++ handleT n g ++ ⟨#[32]⟩ ++ t))] : List BTy).getD iX bAny).T wX vX) (fun _ => 0) (fun _ w' => Below w1.heap.size w1 w') (fun u u' => Below u.heap.size u u') 0 (by kernel_rfl) 25 rfl (by kernel_rfl) (by decide) (Below.refl _ _).drew (bty_st _) ?_ ?_
    · refine ⟨?_, ?_, ?_, ?_, ?_, ?_, ?_, ?_, ?_, ?_, ?_, ?_, ?_, ?_, ?_, ?_, ?_, ?_, ?_, ?_, trivial⟩
      · intro B a' w' hB hW hF
        refine wpOp_step rfl (fun K hK => ?_)
        go_simp
        refine (s_words _).mono ?_
        rintro e w'' ⟨g6, rfl, k6, hb⟩
        exact hK _ _ ⟨_, rfl, hb, ⟨_, rfl, k6⟩, below_trans hW hb⟩
      · intro B a' w' hB hW hF
        have h1 : a'.tmps[1]? = some (.pointer (some ⟨w.heap.size, 0, none⟩)) := (hF.at 1 (by kernel_rfl)).trans rfl
        refine wpOp_step rfl (fun K hK => ?_)
        go_simp
        exact hK _ _ ⟨_, rfl, Below.refl _ _, rfl, hW⟩
      · intro B a' w' hB hW hF
        have h7 : a'.tmps[7]? = some (.pointer (some ⟨w.heap.size, 0, none⟩)) := by obtain ⟨_, h, e⟩ := hF.val ⟨1, .data⟩ (by simp) rfl _ rfl; rw [h, show _ = (.pointer (some ⟨w.heap.size, 0, none⟩) : Value) from e]
        have c0 : w'.cell? ⟨w.heap.size, 0, none⟩ = some (.int .i64 (kd : Int)) := keep_cell hW d0
        refine wpOp_step rfl (fun K hK => ?_)
        go_simp
        exact hK _ _ ⟨_, rfl, Below.refl _ _, rfl, hW⟩
      · intro B a' w' hB hW hF
        obtain ⟨_, h6, g6, rfl, k6⟩ := hF.val ⟨0, .data⟩ (by simp) rfl _ rfl
        have h8 : a'.tmps[8]? = some (.int .i64 (kd : Int)) := by obtain ⟨_, h, e⟩ := hF.val ⟨2, .data⟩ (by simp) rfl _ rfl; rw [h, show _ = (.int .i64 (kd : Int) : Value) from e]
        refine wpOp_step rfl (fun K hK => ?_)
        go_simp
        exact hK _ _ ⟨_, rfl, Below.refl _ _, ⟨_, rfl, by rw [hKW.out]; exact k6 kd hK6⟩, hW⟩
      · intro B a' w' hB hW hF
        obtain ⟨_, h9, g9, rfl, k9⟩ := hF.val ⟨3, .data⟩ (by simp) rfl _ rfl
        refine wpOp_step rfl (fun K hK => ?_)
        go_simp
        exact hK _ _ ⟨_, rfl, Below.refl _ _, rfl, hW⟩
      · intro B a' w' hB hW hF
        have h10 : a'.tmps[10]? = some (.string KW) := by obtain ⟨_, h, e⟩ := hF.val ⟨4, .data⟩ (by simp) rfl _ rfl; rw [h, show _ = (.string KW : Value) from e]
        refine wpOp_step rfl (fun K hK => ?_)
        go_simp
        rw [if_neg (by omega)]
        go_simp
        have hb : Below w'.heap.size w' w' := Below.refl _ _
        exact hK _ _ ⟨_, rfl, hb, rfl, below_trans hW hb⟩
      · intro B a' w' hB hW hF
        have h1 : a'.tmps[1]? = some (.pointer (some ⟨w.heap.size, 0, none⟩)) := (hF.at 1 (by kernel_rfl)).trans rfl
        refine wpOp_step rfl (fun K hK => ?_)
        go_simp
        exact hK _ _ ⟨_, rfl, Below.refl _ _, rfl, hW⟩
      · intro B a' w' hB hW hF
        have h12 : a'.tmps[12]? = some (.pointer (some ⟨w.heap.size, 1, none⟩)) := by obtain ⟨_, h, e⟩ := hF.val ⟨6, .data⟩ (by simp) rfl _ rfl; rw [h, show _ = (.pointer (some ⟨w.heap.size, 1, none⟩) : Value) from e]
        have c1 : w'.cell? ⟨w.heap.size, 1, none⟩ = some (.int .i64 m) := keep_cell hW d1
        refine wpOp_step rfl (fun K hK => ?_)
        go_simp
        exact hK _ _ ⟨_, rfl, Below.refl _ _, rfl, hW⟩
      · intro B a' w' hB hW hF
        have h13 : a'.tmps[13]? = some (.int .i64 m) := by obtain ⟨_, h, e⟩ := hF.val ⟨7, .data⟩ (by simp) rfl _ rfl; rw [h, show _ = (.int .i64 m : Value) from e]
        refine wpOp_step rfl (fun K hK => ?_)
        go_simp
        refine (s_MarkB _ _).mono ?_
        rintro e w'' ⟨rfl, hb⟩
        exact hK _ _ ⟨_, rfl, hb, rfl, below_trans hW hb⟩
      · intro B a' w' hB hW hF
        have h11 : a'.tmps[11]? = some (.string (KW ++ ⟨#[32]⟩)) := by obtain ⟨_, h, e⟩ := hF.val ⟨5, .data⟩ (by simp) rfl _ rfl; rw [h, show _ = (.string (KW ++ ⟨#[32]⟩) : Value) from e]
        have h14 : a'.tmps[14]? = some (.string (markS m)) := by obtain ⟨_, h, e⟩ := hF.val ⟨8, .data⟩ (by simp) rfl _ rfl; rw [h, show _ = (.string (markS m) : Value) from e]
        refine wpOp_step rfl (fun K hK => ?_)
        go_simp
        rw [if_neg (by omega)]
        go_simp
        have hb : Below w'.heap.size w' w' := Below.refl _ _
        exact hK _ _ ⟨_, rfl, hb, rfl, below_trans hW hb⟩
      · intro B a' w' hB hW hF
        have h15 : a'.tmps[15]? = some (.string (KW ++ ⟨#[32]⟩ ++ markS m)) := by obtain ⟨_, h, e⟩ := hF.val ⟨9, .data⟩ (by simp) rfl _ rfl; rw [h, show _ = (.string (KW ++ ⟨#[32]⟩ ++ markS m) : Value) from e]
        refine wpOp_step rfl (fun K hK => ?_)
        go_simp
        rw [if_neg (by omega)]
        go_simp
        have hb : Below w'.heap.size w' w' := Below.refl _ _
        exact hK _ _ ⟨_, rfl, hb, rfl, below_trans hW hb⟩
      · intro B a' w' hB hW hF
        have h1 : a'.tmps[1]? = some (.pointer (some ⟨w.heap.size, 0, none⟩)) := (hF.at 1 (by kernel_rfl)).trans rfl
        refine wpOp_step rfl (fun K hK => ?_)
        go_simp
        exact hK _ _ ⟨_, rfl, Below.refl _ _, rfl, hW⟩
      · intro B a' w' hB hW hF
        have h17 : a'.tmps[17]? = some (.pointer (some ⟨w.heap.size, 2, none⟩)) := by obtain ⟨_, h, e⟩ := hF.val ⟨11, .data⟩ (by simp) rfl _ rfl; rw [h, show _ = (.pointer (some ⟨w.heap.size, 2, none⟩) : Value) from e]
        have c2 : w'.cell? ⟨w.heap.size, 2, none⟩ = some (.string n) := keep_cell hW d2
        have c3 : w'.cell? ⟨w.heap.size, 3, none⟩ = some (.string g) := keep_cell hW d3
        refine wpOp_step rfl (fun K hK => ?_)
        go_simp
        exact hK _ _ ⟨_, rfl, Below.refl _ _, rfl, hW⟩
      · intro B a' w' hB hW hF
        have h18 : a'.tmps[18]? = some (.agg #[.string n, .string g]) := by obtain ⟨_, h, e⟩ := hF.val ⟨12, .data⟩ (by simp) rfl _ rfl; rw [h, show _ = (.agg #[.string n, .string g] : Value) from e]
        refine wpOp_step rfl (fun K hK => ?_)
        go_simp
        refine (s_HandleText n g _ hn hh).mono ?_
        rintro e w'' ⟨rfl, hb⟩
        exact hK _ _ ⟨_, rfl, hb, rfl, below_trans hW hb⟩
      · intro B a' w' hB hW hF
        have h16 : a'.tmps[16]? = some (.string (KW ++ ⟨#[32]⟩ ++ markS m ++ ⟨#[32]⟩)) := by obtain ⟨_, h, e⟩ := hF.val ⟨10, .data⟩ (by simp) rfl _ rfl; rw [h, show _ = (.string (KW ++ ⟨#[32]⟩ ++ markS m ++ ⟨#[32]⟩) : Value) from e]
        have h19 : a'.tmps[19]? = some (.string (handleT n g)) := by obtain ⟨_, h, e⟩ := hF.val ⟨13, .data⟩ (by simp) rfl _ rfl; rw [h, show _ = (.string (handleT n g) : Value) from e]
        refine wpOp_step rfl (fun K hK => ?_)
        go_simp
        rw [if_neg (by omega)]
        go_simp
        have hb : Below w'.heap.size w' w' := Below.refl _ _
        exact hK _ _ ⟨_, rfl, hb, rfl, below_trans hW hb⟩
      · intro B a' w' hB hW hF
        have h20 : a'.tmps[20]? = some (.string (KW ++ ⟨#[32]⟩ ++ markS m ++ ⟨#[32]⟩ ++ handleT n g)) := by obtain ⟨_, h, e⟩ := hF.val ⟨14, .data⟩ (by simp) rfl _ rfl; rw [h, show _ = (.string (KW ++ ⟨#[32]⟩ ++ markS m ++ ⟨#[32]⟩ ++ handleT n g) : Value) from e]
        refine wpOp_step rfl (fun K hK => ?_)
        go_simp
        rw [if_neg (by omega)]
        go_simp
        have hb : Below w'.heap.size w' w' := Below.refl _ _
        exact hK _ _ ⟨_, rfl, hb, rfl, below_trans hW hb⟩
      · intro B a' w' hB hW hF
        have h1 : a'.tmps[1]? = some (.pointer (some ⟨w.heap.size, 0, none⟩)) := (hF.at 1 (by kernel_rfl)).trans rfl
        refine wpOp_step rfl (fun K hK => ?_)
        go_simp
        exact hK _ _ ⟨_, rfl, Below.refl _ _, rfl, hW⟩
      · intro B a' w' hB hW hF
        have h22 : a'.tmps[22]? = some (.pointer (some ⟨w.heap.size, 4, none⟩)) := by obtain ⟨_, h, e⟩ := hF.val ⟨16, .data⟩ (by simp) rfl _ rfl; rw [h, show _ = (.pointer (some ⟨w.heap.size, 4, none⟩) : Value) from e]
        have c4 : w'.cell? ⟨w.heap.size, 4, none⟩ = some (.string t) := keep_cell hW d4
        refine wpOp_step rfl (fun K hK => ?_)
        go_simp
        exact hK _ _ ⟨_, rfl, Below.refl _ _, rfl, hW⟩
      · intro B a' w' hB hW hF
        have h21 : a'.tmps[21]? = some (.string (KW ++ ⟨#[32]⟩ ++ markS m ++ ⟨#[32]⟩ ++ handleT n g ++ ⟨#[32]⟩)) := by obtain ⟨_, h, e⟩ := hF.val ⟨15, .data⟩ (by simp) rfl _ rfl; rw [h, show _ = (.string (KW ++ ⟨#[32]⟩ ++ markS m ++ ⟨#[32]⟩ ++ handleT n g ++ ⟨#[32]⟩) : Value) from e]
        have h23 : a'.tmps[23]? = some (.string t) := by obtain ⟨_, h, e⟩ := hF.val ⟨17, .data⟩ (by simp) rfl _ rfl; rw [h, show _ = (.string t : Value) from e]
        refine wpOp_step rfl (fun K hK => ?_)
        go_simp
        rw [if_neg (by omega)]
        go_simp
        have hb : Below w'.heap.size w' w' := Below.refl _ _
        exact hK _ _ ⟨_, rfl, hb, rfl, below_trans hW hb⟩
      · intro B a' w' hB hW hF
        have h24 : a'.tmps[24]? = some (.string (KW ++ ⟨#[32]⟩ ++ markS m ++ ⟨#[32]⟩ ++ handleT n g ++ ⟨#[32]⟩ ++ t)) := by obtain ⟨_, h, e⟩ := hF.val ⟨18, .data⟩ (by simp) rfl _ rfl; rw [h, show _ = (.string (KW ++ ⟨#[32]⟩ ++ markS m ++ ⟨#[32]⟩ ++ handleT n g ++ ⟨#[32]⟩ ++ t) : Value) from e]
        refine wpOp_step rfl (fun K hK => ?_)
        go_simp
        exact hK _ _ ⟨_, rfl, Below.refl _ _, rfl, hW⟩
    · intro a' w' hL hW
      have hd := hL.defers
      have hs := hL.size
      obtain ⟨_, h6, g6, rfl, k6⟩ := hL.val 0 _ rfl
      have h7 : a'.tmps[7]? = some (.pointer (some ⟨w.heap.size, 0, none⟩)) := by obtain ⟨_, h, e⟩ := hL.val 1 _ rfl; rw [h, show _ = (.pointer (some ⟨w.heap.size, 0, none⟩) : Value) from e]
      have h8 : a'.tmps[8]? = some (.int .i64 (kd : Int)) := by obtain ⟨_, h, e⟩ := hL.val 2 _ rfl; rw [h, show _ = (.int .i64 (kd : Int) : Value) from e]
      obtain ⟨_, h9, g9, rfl, k9⟩ := hL.val 3 _ rfl
      have h10 : a'.tmps[10]? = some (.string KW) := by obtain ⟨_, h, e⟩ := hL.val 4 _ rfl; rw [h, show _ = (.string KW : Value) from e]
      have h11 : a'.tmps[11]? = some (.string (KW ++ ⟨#[32]⟩)) := by obtain ⟨_, h, e⟩ := hL.val 5 _ rfl; rw [h, show _ = (.string (KW ++ ⟨#[32]⟩) : Value) from e]
      have h12 : a'.tmps[12]? = some (.pointer (some ⟨w.heap.size, 1, none⟩)) := by obtain ⟨_, h, e⟩ := hL.val 6 _ rfl; rw [h, show _ = (.pointer (some ⟨w.heap.size, 1, none⟩) : Value) from e]
      have h13 : a'.tmps[13]? = some (.int .i64 m) := by obtain ⟨_, h, e⟩ := hL.val 7 _ rfl; rw [h, show _ = (.int .i64 m : Value) from e]
      have h14 : a'.tmps[14]? = some (.string (markS m)) := by obtain ⟨_, h, e⟩ := hL.val 8 _ rfl; rw [h, show _ = (.string (markS m) : Value) from e]
      have h15 : a'.tmps[15]? = some (.string (KW ++ ⟨#[32]⟩ ++ markS m)) := by obtain ⟨_, h, e⟩ := hL.val 9 _ rfl; rw [h, show _ = (.string (KW ++ ⟨#[32]⟩ ++ markS m) : Value) from e]
      have h16 : a'.tmps[16]? = some (.string (KW ++ ⟨#[32]⟩ ++ markS m ++ ⟨#[32]⟩)) := by obtain ⟨_, h, e⟩ := hL.val 10 _ rfl; rw [h, show _ = (.string (KW ++ ⟨#[32]⟩ ++ markS m ++ ⟨#[32]⟩) : Value) from e]
      have h17 : a'.tmps[17]? = some (.pointer (some ⟨w.heap.size, 2, none⟩)) := by obtain ⟨_, h, e⟩ := hL.val 11 _ rfl; rw [h, show _ = (.pointer (some ⟨w.heap.size, 2, none⟩) : Value) from e]
      have h18 : a'.tmps[18]? = some (.agg #[.string n, .string g]) := by obtain ⟨_, h, e⟩ := hL.val 12 _ rfl; rw [h, show _ = (.agg #[.string n, .string g] : Value) from e]
      have h19 : a'.tmps[19]? = some (.string (handleT n g)) := by obtain ⟨_, h, e⟩ := hL.val 13 _ rfl; rw [h, show _ = (.string (handleT n g) : Value) from e]
      have h20 : a'.tmps[20]? = some (.string (KW ++ ⟨#[32]⟩ ++ markS m ++ ⟨#[32]⟩ ++ handleT n g)) := by obtain ⟨_, h, e⟩ := hL.val 14 _ rfl; rw [h, show _ = (.string (KW ++ ⟨#[32]⟩ ++ markS m ++ ⟨#[32]⟩ ++ handleT n g) : Value) from e]
      have h21 : a'.tmps[21]? = some (.string (KW ++ ⟨#[32]⟩ ++ markS m ++ ⟨#[32]⟩ ++ handleT n g ++ ⟨#[32]⟩)) := by obtain ⟨_, h, e⟩ := hL.val 15 _ rfl; rw [h, show _ = (.string (KW ++ ⟨#[32]⟩ ++ markS m ++ ⟨#[32]⟩ ++ handleT n g ++ ⟨#[32]⟩) : Value) from e]
      have h22 : a'.tmps[22]? = some (.pointer (some ⟨w.heap.size, 4, none⟩)) := by obtain ⟨_, h, e⟩ := hL.val 16 _ rfl; rw [h, show _ = (.pointer (some ⟨w.heap.size, 4, none⟩) : Value) from e]
      have h23 : a'.tmps[23]? = some (.string t) := by obtain ⟨_, h, e⟩ := hL.val 17 _ rfl; rw [h, show _ = (.string t : Value) from e]
      have h24 : a'.tmps[24]? = some (.string (KW ++ ⟨#[32]⟩ ++ markS m ++ ⟨#[32]⟩ ++ handleT n g ++ ⟨#[32]⟩ ++ t)) := by obtain ⟨_, h, e⟩ := hL.val 18 _ rfl; rw [h, show _ = (.string (KW ++ ⟨#[32]⟩ ++ markS m ++ ⟨#[32]⟩ ++ handleT n g ++ ⟨#[32]⟩ ++ t) : Value) from e]
      have h2 : a'.tmps[2]? = some (.string (KW ++ ⟨#[32]⟩ ++ markS m ++ ⟨#[32]⟩ ++ handleT n g ++ ⟨#[32]⟩ ++ t)) := by obtain ⟨_, h, e⟩ := hL.val 19 _ rfl; rw [h, show _ = (.string (KW ++ ⟨#[32]⟩ ++ markS m ++ ⟨#[32]⟩ ++ handleT n g ++ ⟨#[32]⟩ ++ t) : Value) from e]
      have hlit := act_lit (l := [_, _, _, _, _, _, _, _, _, _, _, _, _, _, _, _, _, _, _, _, _, _, _, _, _]) (hd.trans rfl) (by rw [hs]; rfl) (AllAt.cons ((hL.at 0 (by kernel_rfl)).trans rfl) (AllAt.cons ((hL.at 1 (by kernel_rfl)).trans rfl) (AllAt.cons h2 (AllAt.cons ((hL.at 3 (by kernel_rfl)).trans rfl) (AllAt.cons ((hL.at 4 (by kernel_rfl)).trans rfl) (AllAt.cons ((hL.at 5 (by kernel_rfl)).trans rfl) (AllAt.cons h6 (AllAt.cons h7 (AllAt.cons h8 (AllAt.cons h9 (AllAt.cons h10 (AllAt.cons h11 (AllAt.cons h12 (AllAt.cons h13 (AllAt.cons h14 (AllAt.cons h15 (AllAt.cons h16 (AllAt.cons h17 (AllAt.cons h18 (AllAt.cons h19 (AllAt.cons h20 (AllAt.cons h21 (AllAt.cons h22 (AllAt.cons h23 (AllAt.cons h24 AllAt.nil)))))))))))))))))))))))))
      clear hL hd hs h2 h6 h7 h8 h9 h10 h11 h12 h13 h14 h15 h16 h17 h18 h19 h20 h21 h22 h23 h24
      subst hlit
      dsimp only [List.getElem_toArray, List.getElem_cons_zero, List.getElem_cons_succ]
      go_wp2_with fail
      go_ret
      exact ⟨rfl, below_trans bz hW⟩
end Go.Proofs.YtackffegdmohiaaDoor
