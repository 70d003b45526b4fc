/- The walk of the reference's drawing function for activities. No condition. -/
import Derived.Test.YtackffegdmohiaaDoorDrawH
import Derived.Test.YtackffegdmohiaaDoorActE
namespace Go.Proofs.YtackffegdmohiaaDoor
open Go.RowKit

/-- What a drawn activity is. -/
def sAct (X : Nat → Prop) : STy X := sAgg [sInt _ (-1) 6, sInt _ (-1) 11, sStr _ 9, sStr _ 9, sStr _ 9]
theorem sAct_open {X : Nat → Prop} {w : World} {v : Value} (h : (sAct X).T w v) : ∃ (k m : Int) (n h t : ByteArray), v = .agg #[.int .i64 k, .int .i64 m, .string n, .string h, .string t] ∧ (-1 ≤ k ∧ k ≤ 6) ∧ (-1 ≤ m ∧ m ≤ 11) ∧ n.size ≤ 9 ∧ h.size ≤ 9 ∧ t.size ≤ 9 := by
  obtain ⟨vs, rfl, h⟩ := h
  match vs, h with
  | [_, _, _, _, _], ⟨⟨k, rfl, k1, k2⟩, ⟨m, rfl, m1, m2⟩, ⟨n, rfl, z1⟩, ⟨h, rfl, z2⟩, ⟨t, rfl, z3⟩, _⟩ => exact ⟨k, m, n, h, t, rfl, ⟨k1, k2⟩, ⟨m1, m2⟩, z1, z2, z3⟩
theorem AllT.get5 {X : Nat → Prop} {w : World} {a b c d e : STy X} {vs : List Value} (h : AllT w [a, b, c, d, e] vs) : ∃ u v x y z, a.T w u ∧ b.T w v ∧ c.T w x ∧ d.T w y ∧ e.T w z ∧ vs = [u, v, x, y, z] := by
  match vs, h with
  | [u, v, x, y, z], ⟨h1, h2, h3, h4, h5, _⟩ => exact ⟨u, v, x, y, z, h1, h2, h3, h4, h5, rfl⟩
theorem Rd.set_str {w : World} {rb B : Nat} {p : Addr} {s : ByteArray} (hR : Rd w rb B) (hne : p.block ≠ rb) (hc : w.cell? p = some (.string s)) (v : Value) : Rd (w.setCell p v) rb B := hR.set_other hne hc (fun c h => by cases h) v
theorem Rd.set_i64 {w : World} {rb B : Nat} {p : Addr} {k : Int} (hR : Rd w rb B) (hne : p.block ≠ rb) (hc : w.cell? p = some (.int .i64 k)) (v : Value) : Rd (w.setCell p v) rb B := hR.set_other hne hc (fun c h => by cases h) v
/-- The world behind the writing of a drawn activity. -/
theorem act_set {w w' : World} {rb B b : Nat} {k m : Int} {n h t : ByteArray} (hR : Rd w' rb B) (hE : Ex (· = rb) w w') (hb : w.heap.size ≤ b) (hne : b ≠ rb)
    (h0 : w'.cell? ⟨b, 0, none⟩ = some (.int .i64 0)) (h1 : w'.cell? ⟨b, 1, none⟩ = some (.int .i64 0)) (h2 : w'.cell? ⟨b, 2, none⟩ = some (.string ⟨#[]⟩)) (h3 : w'.cell? ⟨b, 3, none⟩ = some (.string ⟨#[]⟩)) (h4 : w'.cell? ⟨b, 4, none⟩ = some (.string ⟨#[]⟩)) :
    let W := ((((w'.setCell ⟨b, 0, none⟩ (.int .i64 k)).setCell ⟨b, 1, none⟩ (.int .i64 m)).setCell ⟨b, 2, none⟩ (.string n)).setCell ⟨b, 3, none⟩ (.string h)).setCell ⟨b, 4, none⟩ (.string t)
    Rd W rb B ∧ Ex (· = rb) w W := by
  have o : ∀ (X : World) (i j : Nat) (v : Value), i ≠ j → (X.setCell ⟨b, i, none⟩ v).cell? ⟨b, j, none⟩ = X.cell? ⟨b, j, none⟩ := fun X i j v hij => World.cell?_setCell_other _ _ _ _ (fun e => hij (congrArg Addr.off e))
  refine ⟨?_, ((((hE.setNew hb _).setNew hb _).setNew hb _).setNew hb _).setNew hb _⟩
  refine Rd.set_str (Rd.set_str (Rd.set_str (Rd.set_i64 (Rd.set_i64 hR hne h0 _) hne (k := 0) ?_ _) hne (s := ⟨#[]⟩) ?_ _) hne (s := ⟨#[]⟩) ?_ _) hne (s := ⟨#[]⟩) ?_ _
  · rw [o _ 0 1 _ (by decide)]; exact h1
  · rw [o _ 1 2 _ (by decide), o _ 0 2 _ (by decide)]; exact h2
  · rw [o _ 2 3 _ (by decide), o _ 1 3 _ (by decide), o _ 0 3 _ (by decide)]; exact h3
  · rw [o _ 3 4 _ (by decide), o _ 2 4 _ (by decide), o _ 1 4 _ (by decide), o _ 0 4 _ (by decide)]; exact h4
set_option maxHeartbeats 1000000 in
theorem activity_any (rb B0 : Nat) (n : Int) (w : World) (hR0 : Rd w rb B0) (hB : B0 ≤ 997000) (n1 : 0 ≤ n) (n2 : n ≤ 1000000) :
    Calls Tryd.prog 27 #[.pointer (some ⟨rb, 0, none⟩), .int .i64 n] w (DrawRet (sAct (· = rb)).T rb (B0 + 10) w) := by
  have hrc : w.heap.size ≠ rb := fun e => by have := hR0.lt; omega
  have hhandle : ∀ (b : Nat) (w : World), Rd w rb b → b ≤ 998000 → Calls Tryd.prog 45 #[.pointer (some ⟨rb, 0, none⟩), .int .i64 0] w (DrawRet (sAgg (X := (· = rb)) [sStr _ 9, sStr _ 9]).T rb (b + 6) w) := fun b w h1 h2 => handle_any rb b 0 w h1 h2 (by omega) (by omega)
  go_enter Tryd.func27, Tryd.ntmps27
  go_wp2_with fail
  refine (odd_any rb B0 n _ (hR0.below (below1 _ _)) (by omega) n2 (by omega)).mono ?_
  rintro e w1 ⟨_, rfl, ⟨b, rfl⟩, hR, hE1⟩
  have hE : Ex (· = rb) w w1 := ((Ex.refl _ _).alloc _).trans hE1
  have c0 : w1.cell? ⟨w.heap.size, 0, none⟩ = some (.int .i64 0) := hE1.cell hrc (by simp)
  have c1 : w1.cell? ⟨w.heap.size, 1, none⟩ = some (.int .i64 0) := hE1.cell hrc (by simp)
  have c2 : w1.cell? ⟨w.heap.size, 2, none⟩ = some (.string ⟨#[]⟩) := hE1.cell hrc (by simp)
  have c3 : w1.cell? ⟨w.heap.size, 3, none⟩ = some (.string ⟨#[]⟩) := hE1.cell hrc (by simp)
  have c4 : w1.cell? ⟨w.heap.size, 4, none⟩ = some (.string ⟨#[]⟩) := hE1.cell hrc (by simp)
  have hlt : w.heap.size < w1.heap.size := by have := hE1.size; simp at this; omega
  have f0 : w1.frozen? ⟨w.heap.size, 0, none⟩ = false := (World.frozen?_of_block (hE1.block _ (by simp) hrc)).trans (by simp)
  have f1 : w1.frozen? ⟨w.heap.size, 1, none⟩ = false := (World.frozen?_of_block (hE1.block _ (by simp) hrc)).trans (by simp)
  have f2 : w1.frozen? ⟨w.heap.size, 2, none⟩ = false := (World.frozen?_of_block (hE1.block _ (by simp) hrc)).trans (by simp)
  have f3 : w1.frozen? ⟨w.heap.size, 3, none⟩ = false := (World.frozen?_of_block (hE1.block _ (by simp) hrc)).trans (by simp)
  have f4 : w1.frozen? ⟨w.heap.size, 4, none⟩ = false := (World.frozen?_of_block (hE1.block _ (by simp) hrc)).trans (by simp)
  clear hE1
  have hrN := hR.lt
  cases b
  · go_upto_region 3 with (fail)
    refine wp_region_typed_pre 12 (fun i => (([sIs _ (.pointer (some ⟨rb, 0, none⟩)), sInt _ (0) (5), sIs _ (.pointer (some ⟨rb, 0, none⟩)), sInt _ (0) (11), sIs _ (.pointer (some ⟨rb, 0, none⟩)), sAgg [sStr _ 9, sStr _ 9], sSl 3 [sStr _ 2], sIs _ (.pointer (some ⟨rb, 0, none⟩)), sInt _ (0) (2), sRef [sStr _ 2], sStr _ 2, sAgg [sInt _ (0) (5), sInt _ (0) (11), sStr _ 9, sStr _ 9, sStr _ 2]] : List (STy (· = rb))).getD i (sAny _)).T) (fun i => ([0, 1, 0, 1, 0, 6, 0, 0, 1, 0, 0, 0] : List Nat).getD i 0) (fun B w' => Rd w' rb (B0 + 1 + B) ∧ Ex (· = rb) w1 w') (Ex (· = rb)) 9 34 rfl (by decide) (by kernel_rfl) (by kernel_rfl) (by decide) ⟨hR, Ex.refl _ _⟩ (fun i u u' v hx hv => STy.st _ _ _ _ hx hv) ?_ ?_
    · refine ⟨?_, ?_, ?_, ?_, ?_, ?_, ?_, ?_, ?_, ?_, ?_, ?_, trivial⟩
      · intro B a' w' hB hW hF
        have h0 : a'.tmps[0]? = some (.pointer (some ⟨rb, 0, none⟩)) := (hF.at 0 (by kernel_rfl)).trans rfl
        refine wpOp_step rfl (fun K hK => ?_)
        go_simp
        exact hK _ _ ⟨_, rfl, Ex.refl _ _, rfl, hW⟩
      · intro B a' w' hB hW hF
        obtain ⟨_, h22, rfl⟩ := hF.val ⟨0, .data⟩ (by simp) rfl _ rfl
        refine wpOp_step rfl (fun K hK => ?_)
        go_simp
        refine (pick_any rb _ _ _ hW.1 (by omega) (by omega)).mono ?_
        rintro e w'' ⟨k, rfl, hk, hR', hE'⟩
        exact hK _ _ ⟨_, rfl, hE', ⟨_, rfl, by omega, by omega⟩, ⟨hR', hW.2.trans hE'⟩⟩
      · intro B a' w' hB hW hF
        have h0 : a'.tmps[0]? = some (.pointer (some ⟨rb, 0, none⟩)) := (hF.at 0 (by kernel_rfl)).trans rfl
        refine wpOp_step rfl (fun K hK => ?_)
        go_simp
        exact hK _ _ ⟨_, rfl, Ex.refl _ _, rfl, hW⟩
      · intro B a' w' hB hW hF
        obtain ⟨_, h24, rfl⟩ := hF.val ⟨2, .data⟩ (by simp) rfl _ rfl
        refine wpOp_step rfl (fun K hK => ?_)
        go_simp
        refine (pick_any rb _ _ _ hW.1 (by omega) (by omega)).mono ?_
        rintro e w'' ⟨k, rfl, hk, hR', hE'⟩
        exact hK _ _ ⟨_, rfl, hE', ⟨_, rfl, by omega, by omega⟩, ⟨hR', hW.2.trans hE'⟩⟩
      · intro B a' w' hB hW hF
        have h0 : a'.tmps[0]? = some (.pointer (some ⟨rb, 0, none⟩)) := (hF.at 0 (by kernel_rfl)).trans rfl
        refine wpOp_step rfl (fun K hK => ?_)
        go_simp
        exact hK _ _ ⟨_, rfl, Ex.refl _ _, rfl, hW⟩
      · intro B a' w' hB hW hF
        obtain ⟨_, h26, rfl⟩ := hF.val ⟨4, .data⟩ (by simp) rfl _ rfl
        refine wpOp_step rfl (fun K hK => ?_)
        go_simp
        refine (hhandle _ _ hW.1 (by omega)).mono ?_
        rintro e w'' ⟨v, rfl, tv, hR', hE'⟩
        exact hK _ _ ⟨_, rfl, hE', tv, ⟨hR', hW.2.trans hE'⟩⟩
      · intro B a' w' hB hW hF
        refine wpOp_step rfl (fun K hK => ?_)
        go_simp
        exact hK _ _ ⟨_, rfl, (Ex.refl _ _).alloc _, sSl_new (cs := [[(Value.string { data := #[107, 49] })], [(Value.string { data := #[107, 50] })], [(Value.string { data := #[107, 51] })]]) (by intro h; have h2 := hW.2.size; (try dsimp only at h); omega) rfl ⟨⟨⟨_, rfl, by decide⟩, trivial⟩, ⟨⟨_, rfl, by decide⟩, trivial⟩, ⟨⟨_, rfl, by decide⟩, trivial⟩, trivial⟩ (heap_alloc_new w' _), ⟨hW.1.below (below1 _ _), hW.2.alloc _⟩⟩
      · intro B a' w' hB hW hF
        have h0 : a'.tmps[0]? = some (.pointer (some ⟨rb, 0, none⟩)) := (hF.at 0 (by kernel_rfl)).trans rfl
        refine wpOp_step rfl (fun K hK => ?_)
        go_simp
        exact hK _ _ ⟨_, rfl, Ex.refl _ _, rfl, hW⟩
      · intro B a' w' hB hW hF
        obtain ⟨_, h29, rfl⟩ := hF.val ⟨7, .data⟩ (by simp) rfl _ rfl
        refine wpOp_step rfl (fun K hK => ?_)
        go_simp
        refine (pick_any rb _ _ _ hW.1 (by omega) (by omega)).mono ?_
        rintro e w'' ⟨k, rfl, hk, hR', hE'⟩
        exact hK _ _ ⟨_, rfl, hE', ⟨_, rfl, by omega, by omega⟩, ⟨hR', hW.2.trans hE'⟩⟩
      · intro B a' w' hB hW hF
        obtain ⟨_, h28, b28, rfl, c28⟩ := hF.val ⟨6, .data⟩ (by simp) rfl _ rfl
        obtain ⟨_, h30, k30, rfl, a30, b30⟩ := hF.val ⟨8, .data⟩ (by simp) rfl _ rfl
        have i1 : k30 < 3 := by omega
        refine wpOp_step rfl (fun K hK => ?_)
        go_simp
        exact hK _ _ ⟨_, rfl, Ex.refl _ _, ⟨_, _, rfl, by simpa using c28 k30.toNat (by omega)⟩, hW⟩
      · intro B a' w' hB hW hF
        obtain ⟨_, h31, b31, o31, rfl, x31, c31⟩ := hF.val ⟨9, .data⟩ (by simp) rfl _ rfl
        obtain ⟨u0, hu0, tu0⟩ := c31 0 _ rfl
        have hv0 : w'.cell? ⟨b31, o31, none⟩ = some u0 := by simpa using hu0
        refine wpOp_step rfl (fun K hK => ?_)
        go_simp
        exact hK _ _ ⟨_, rfl, Ex.refl _ _, tu0, hW⟩
      · intro B a' w' hB hW hF
        obtain ⟨_, h23, k23, rfl, a23, b23⟩ := hF.val ⟨1, .data⟩ (by simp) rfl _ rfl
        obtain ⟨_, h25, k25, rfl, a25, b25⟩ := hF.val ⟨3, .data⟩ (by simp) rfl _ rfl
        obtain ⟨_, h27, vs27, rfl, A27⟩ := hF.val ⟨5, .data⟩ (by simp) rfl _ rfl
        obtain ⟨u27_0, u27_1, tu27_0, tu27_1, rfl⟩ := AllT.get2 A27
        obtain ⟨s27_0, rfl, z27_0⟩ := tu27_0
        obtain ⟨s27_1, rfl, z27_1⟩ := tu27_1
        obtain ⟨_, h32, s32, rfl, z32⟩ := hF.val ⟨10, .data⟩ (by simp) rfl _ rfl
        refine wpOp_step rfl (fun K hK => ?_)
        go_simp
        exact hK _ _ ⟨_, rfl, Ex.refl _ _, ⟨[.int .i64 k23, .int .i64 k25, .string s27_0, .string s27_1, .string s32], rfl, ⟨_, rfl, a23, b23⟩, ⟨_, rfl, a25, b25⟩, ⟨_, rfl, by omega⟩, ⟨_, rfl, by omega⟩, ⟨_, rfl, z32⟩, trivial⟩, hW⟩
    · intro a' w' hL hW
      obtain ⟨_, h33, vs, rfl, A21⟩ := hL.val 11 _ rfl
      obtain ⟨_, _, _, _, _, ⟨k, rfl, y1, y2⟩, ⟨m, rfl, y3, y4⟩, ⟨s1, rfl, z1⟩, ⟨s2, rfl, z2⟩, ⟨s3, rfl, z3⟩, rfl⟩ := AllT.get5 A21
      have h4 : a'.tmps[4]? = some (.pointer (some ⟨w.heap.size, 0, none⟩)) := (hL.at 4 (by kernel_rfl)).trans rfl
      have hd := hL.defers
      clear hL
      have d0 := hW.2.cell hrc c0
      have d1 := hW.2.cell hrc c1
      have d2 := hW.2.cell hrc c2
      have d3 := hW.2.cell hrc c3
      have d4 := hW.2.cell hrc c4
      have e0 : w'.frozen? ⟨w.heap.size, 0, none⟩ = false := (World.frozen?_of_block (hW.2.block _ hlt hrc)).trans f0
      have e1 : w'.frozen? ⟨w.heap.size, 1, none⟩ = false := (World.frozen?_of_block (hW.2.block _ hlt hrc)).trans f1
      have e2 : w'.frozen? ⟨w.heap.size, 2, none⟩ = false := (World.frozen?_of_block (hW.2.block _ hlt hrc)).trans f2
      have e3 : w'.frozen? ⟨w.heap.size, 3, none⟩ = false := (World.frozen?_of_block (hW.2.block _ hlt hrc)).trans f3
      have e4 : w'.frozen? ⟨w.heap.size, 4, none⟩ = false := (World.frozen?_of_block (hW.2.block _ hlt hrc)).trans f4
      have hR6 : Rd w' rb (B0 + 10) := Rd.mono (B := B0 + 1 + 9) hW.1 (by omega)
      have P := set5 (.int .i64 k) (.int .i64 m) (.string s1) (.string s2) (.string s3) d0 d1 d2 d3 d4
      have Q := act_set (k := k) (m := m) (n := s1) (h := s2) (t := s3) hR6 (hE.trans hW.2) (Nat.le_refl _) hrc d0 d1 d2 d3 d4
      have HP := Lib.hid P
      have HQ := Lib.hid Q
      clear P Q
      show wpList _ _ _ (_ :: []) _ _
      go_wp2
      exact bodyPost_ret (resAct Tryd.results27 _ _ h4 HP.out.1 HP.out.2.1 HP.out.2.2.1 HP.out.2.2.2.1 HP.out.2.2.2.2) (hd.trans rfl) (DrawRet.mk ⟨_, rfl, ⟨_, rfl, by omega, by omega⟩, ⟨_, rfl, by omega, by omega⟩, ⟨_, rfl, by omega⟩, ⟨_, rfl, by omega⟩, ⟨_, rfl, by omega⟩, trivial⟩ HQ.out.1 HQ.out.2)
  · go_upto_region 2 with (fail)
    refine wp_region_typed_pre 14 (fun i => (([sAgg [sInt _ (0) (0), sInt _ (0) (0), sStr _ 0, sStr _ 0, sStr _ 0], sAgg [sStr _ 1, sStr _ 1], sAgg [sInt _ (-1) (-1), sInt _ (0) (0), sStr _ 1, sStr _ 1, sStr _ 1], sAgg [sStr _ 1, sStr _ 1], sAgg [sInt _ (6) (6), sInt _ (0) (0), sStr _ 1, sStr _ 1, sStr _ 1], sAgg [sStr _ 1, sStr _ 1], sAgg [sInt _ (0) (0), sInt _ (0) (0), sStr _ 1, sStr _ 1, sStr _ 0], sAgg [sStr _ 1, sStr _ 1], sAgg [sInt _ (0) (0), sInt _ (-1) (-1), sStr _ 1, sStr _ 1, sStr _ 1], sSl 5 [sInt _ (-1) (6), sInt _ (-1) (0), sStr _ 1, sStr _ 1, sStr _ 1], sIs _ (.pointer (some ⟨rb, 0, none⟩)), sInt _ (0) (4), sRef [sInt _ (-1) (6), sInt _ (-1) (0), sStr _ 1, sStr _ 1, sStr _ 1], sAgg [sInt _ (-1) (6), sInt _ (-1) (0), sStr _ 1, sStr _ 1, sStr _ 1]] : List (STy (· = rb))).getD i (sAny _)).T) (fun i => ([0, 0, 0, 0, 0, 0, 0, 0, 0, 0, 0, 1, 0, 0] : List Nat).getD i 0) (fun B w' => Rd w' rb (B0 + 1 + B) ∧ Ex (· = rb) w1 w') (Ex (· = rb)) 1 34 rfl (by decide) (by kernel_rfl) (by kernel_rfl) (by decide) ⟨hR, Ex.refl _ _⟩ (fun i u u' v hx hv => STy.st _ _ _ _ hx hv) ?_ ?_
    · refine ⟨?_, ?_, ?_, ?_, ?_, ?_, ?_, ?_, ?_, ?_, ?_, ?_, ?_, ?_, trivial⟩
      · intro B a' w' hB hW hF
        refine wpOp_step rfl (fun K hK => ?_)
        go_simp
        exact hK _ _ ⟨_, rfl, Ex.refl _ _, ⟨[Value.int IntKind.i64 0, Value.int IntKind.i64 0, Value.string { data := #[] }, Value.string { data := #[] }, Value.string { data := #[] }], rfl, ⟨_, rfl, by omega, by omega⟩, ⟨_, rfl, by omega, by omega⟩, ⟨_, rfl, by decide⟩, ⟨_, rfl, by decide⟩, ⟨_, rfl, by decide⟩, trivial⟩, hW⟩
      · intro B a' w' hB hW hF
        refine wpOp_step rfl (fun K hK => ?_)
        go_simp
        exact hK _ _ ⟨_, rfl, Ex.refl _ _, ⟨[(Value.string { data := #[97] }), (Value.string { data := #[98] })], rfl, ⟨_, rfl, by decide⟩, ⟨_, rfl, by decide⟩, trivial⟩, hW⟩
      · intro B a' w' hB hW hF
        obtain ⟨_, h9, vs9, rfl, A9⟩ := hF.val ⟨1, .data⟩ (by simp) rfl _ rfl
        obtain ⟨u9_0, u9_1, tu9_0, tu9_1, rfl⟩ := AllT.get2 A9
        obtain ⟨s9_0, rfl, z9_0⟩ := tu9_0
        obtain ⟨s9_1, rfl, z9_1⟩ := tu9_1
        refine wpOp_step rfl (fun K hK => ?_)
        go_simp
        exact hK _ _ ⟨_, rfl, Ex.refl _ _, ⟨[(Value.int IntKind.i64 (-1)), Value.int IntKind.i64 0, .string s9_0, .string s9_1, (Value.string { data := #[99] })], rfl, ⟨_, rfl, by omega, by omega⟩, ⟨_, rfl, by omega, by omega⟩, ⟨_, rfl, by omega⟩, ⟨_, rfl, by omega⟩, ⟨_, rfl, by decide⟩, trivial⟩, hW⟩
      · intro B a' w' hB hW hF
        refine wpOp_step rfl (fun K hK => ?_)
        go_simp
        exact hK _ _ ⟨_, rfl, Ex.refl _ _, ⟨[(Value.string { data := #[97] }), (Value.string { data := #[98] })], rfl, ⟨_, rfl, by decide⟩, ⟨_, rfl, by decide⟩, trivial⟩, hW⟩
      · intro B a' w' hB hW hF
        obtain ⟨_, h11, vs11, rfl, A11⟩ := hF.val ⟨3, .data⟩ (by simp) rfl _ rfl
        obtain ⟨u11_0, u11_1, tu11_0, tu11_1, rfl⟩ := AllT.get2 A11
        obtain ⟨s11_0, rfl, z11_0⟩ := tu11_0
        obtain ⟨s11_1, rfl, z11_1⟩ := tu11_1
        refine wpOp_step rfl (fun K hK => ?_)
        go_simp
        exact hK _ _ ⟨_, rfl, Ex.refl _ _, ⟨[(Value.int IntKind.i64 6), Value.int IntKind.i64 0, .string s11_0, .string s11_1, (Value.string { data := #[99] })], rfl, ⟨_, rfl, by omega, by omega⟩, ⟨_, rfl, by omega, by omega⟩, ⟨_, rfl, by omega⟩, ⟨_, rfl, by omega⟩, ⟨_, rfl, by decide⟩, trivial⟩, hW⟩
      · intro B a' w' hB hW hF
        refine wpOp_step rfl (fun K hK => ?_)
        go_simp
        exact hK _ _ ⟨_, rfl, Ex.refl _ _, ⟨[(Value.string { data := #[97] }), (Value.string { data := #[98] })], rfl, ⟨_, rfl, by decide⟩, ⟨_, rfl, by decide⟩, trivial⟩, hW⟩
      · intro B a' w' hB hW hF
        obtain ⟨_, h13, vs13, rfl, A13⟩ := hF.val ⟨5, .data⟩ (by simp) rfl _ rfl
        obtain ⟨u13_0, u13_1, tu13_0, tu13_1, rfl⟩ := AllT.get2 A13
        obtain ⟨s13_0, rfl, z13_0⟩ := tu13_0
        obtain ⟨s13_1, rfl, z13_1⟩ := tu13_1
        refine wpOp_step rfl (fun K hK => ?_)
        go_simp
        exact hK _ _ ⟨_, rfl, Ex.refl _ _, ⟨[Value.int IntKind.i64 0, Value.int IntKind.i64 0, .string s13_0, .string s13_1, Value.string { data := #[] }], rfl, ⟨_, rfl, by omega, by omega⟩, ⟨_, rfl, by omega, by omega⟩, ⟨_, rfl, by omega⟩, ⟨_, rfl, by omega⟩, ⟨_, rfl, by decide⟩, trivial⟩, hW⟩
      · intro B a' w' hB hW hF
        refine wpOp_step rfl (fun K hK => ?_)
        go_simp
        exact hK _ _ ⟨_, rfl, Ex.refl _ _, ⟨[(Value.string { data := #[97] }), (Value.string { data := #[98] })], rfl, ⟨_, rfl, by decide⟩, ⟨_, rfl, by decide⟩, trivial⟩, hW⟩
      · intro B a' w' hB hW hF
        obtain ⟨_, h15, vs15, rfl, A15⟩ := hF.val ⟨7, .data⟩ (by simp) rfl _ rfl
        obtain ⟨u15_0, u15_1, tu15_0, tu15_1, rfl⟩ := AllT.get2 A15
        obtain ⟨s15_0, rfl, z15_0⟩ := tu15_0
        obtain ⟨s15_1, rfl, z15_1⟩ := tu15_1
        refine wpOp_step rfl (fun K hK => ?_)
        go_simp
        exact hK _ _ ⟨_, rfl, Ex.refl _ _, ⟨[Value.int IntKind.i64 0, (Value.int IntKind.i64 (-1)), .string s15_0, .string s15_1, (Value.string { data := #[99] })], rfl, ⟨_, rfl, by omega, by omega⟩, ⟨_, rfl, by omega, by omega⟩, ⟨_, rfl, by omega⟩, ⟨_, rfl, by omega⟩, ⟨_, rfl, by decide⟩, trivial⟩, hW⟩
      · intro B a' w' hB hW hF
        obtain ⟨_, h8, vs8, rfl, A8⟩ := hF.val ⟨0, .data⟩ (by simp) rfl _ rfl
        obtain ⟨u8_0, u8_1, u8_2, u8_3, u8_4, tu8_0, tu8_1, tu8_2, tu8_3, tu8_4, rfl⟩ := AllT.get5 A8
        obtain ⟨k8_0, rfl, a8_0, b8_0⟩ := tu8_0
        obtain ⟨k8_1, rfl, a8_1, b8_1⟩ := tu8_1
        obtain ⟨s8_2, rfl, z8_2⟩ := tu8_2
        obtain ⟨s8_3, rfl, z8_3⟩ := tu8_3
        obtain ⟨s8_4, rfl, z8_4⟩ := tu8_4
        obtain ⟨_, h10, vs10, rfl, A10⟩ := hF.val ⟨2, .data⟩ (by simp) rfl _ rfl
        obtain ⟨u10_0, u10_1, u10_2, u10_3, u10_4, tu10_0, tu10_1, tu10_2, tu10_3, tu10_4, rfl⟩ := AllT.get5 A10
        obtain ⟨k10_0, rfl, a10_0, b10_0⟩ := tu10_0
        obtain ⟨k10_1, rfl, a10_1, b10_1⟩ := tu10_1
        obtain ⟨s10_2, rfl, z10_2⟩ := tu10_2
        obtain ⟨s10_3, rfl, z10_3⟩ := tu10_3
        obtain ⟨s10_4, rfl, z10_4⟩ := tu10_4
        obtain ⟨_, h12, vs12, rfl, A12⟩ := hF.val ⟨4, .data⟩ (by simp) rfl _ rfl
        obtain ⟨u12_0, u12_1, u12_2, u12_3, u12_4, tu12_0, tu12_1, tu12_2, tu12_3, tu12_4, rfl⟩ := AllT.get5 A12
        obtain ⟨k12_0, rfl, a12_0, b12_0⟩ := tu12_0
        obtain ⟨k12_1, rfl, a12_1, b12_1⟩ := tu12_1
        obtain ⟨s12_2, rfl, z12_2⟩ := tu12_2
        obtain ⟨s12_3, rfl, z12_3⟩ := tu12_3
        obtain ⟨s12_4, rfl, z12_4⟩ := tu12_4
        obtain ⟨_, h14, vs14, rfl, A14⟩ := hF.val ⟨6, .data⟩ (by simp) rfl _ rfl
        obtain ⟨u14_0, u14_1, u14_2, u14_3, u14_4, tu14_0, tu14_1, tu14_2, tu14_3, tu14_4, rfl⟩ := AllT.get5 A14
        obtain ⟨k14_0, rfl, a14_0, b14_0⟩ := tu14_0
        obtain ⟨k14_1, rfl, a14_1, b14_1⟩ := tu14_1
        obtain ⟨s14_2, rfl, z14_2⟩ := tu14_2
        obtain ⟨s14_3, rfl, z14_3⟩ := tu14_3
        obtain ⟨s14_4, rfl, z14_4⟩ := tu14_4
        obtain ⟨_, h16, vs16, rfl, A16⟩ := hF.val ⟨8, .data⟩ (by simp) rfl _ rfl
        obtain ⟨u16_0, u16_1, u16_2, u16_3, u16_4, tu16_0, tu16_1, tu16_2, tu16_3, tu16_4, rfl⟩ := AllT.get5 A16
        obtain ⟨k16_0, rfl, a16_0, b16_0⟩ := tu16_0
        obtain ⟨k16_1, rfl, a16_1, b16_1⟩ := tu16_1
        obtain ⟨s16_2, rfl, z16_2⟩ := tu16_2
        obtain ⟨s16_3, rfl, z16_3⟩ := tu16_3
        obtain ⟨s16_4, rfl, z16_4⟩ := tu16_4
        refine wpOp_step rfl (fun K hK => ?_)
        go_simp
        exact hK _ _ ⟨_, rfl, (Ex.refl _ _).alloc _, sSl_new (cs := [[.int .i64 k8_0, .int .i64 k8_1, .string s8_2, .string s8_3, .string s8_4], [.int .i64 k10_0, .int .i64 k10_1, .string s10_2, .string s10_3, .string s10_4], [.int .i64 k12_0, .int .i64 k12_1, .string s12_2, .string s12_3, .string s12_4], [.int .i64 k14_0, .int .i64 k14_1, .string s14_2, .string s14_3, .string s14_4], [.int .i64 k16_0, .int .i64 k16_1, .string s16_2, .string s16_3, .string s16_4]]) (by intro h; have h2 := hW.2.size; (try dsimp only at h); omega) rfl ⟨⟨⟨_, rfl, by omega, by omega⟩, ⟨_, rfl, by omega, by omega⟩, ⟨_, rfl, by omega⟩, ⟨_, rfl, by omega⟩, ⟨_, rfl, by omega⟩, trivial⟩, ⟨⟨_, rfl, by omega, by omega⟩, ⟨_, rfl, by omega, by omega⟩, ⟨_, rfl, by omega⟩, ⟨_, rfl, by omega⟩, ⟨_, rfl, by omega⟩, trivial⟩, ⟨⟨_, rfl, by omega, by omega⟩, ⟨_, rfl, by omega, by omega⟩, ⟨_, rfl, by omega⟩, ⟨_, rfl, by omega⟩, ⟨_, rfl, by omega⟩, trivial⟩, ⟨⟨_, rfl, by omega, by omega⟩, ⟨_, rfl, by omega, by omega⟩, ⟨_, rfl, by omega⟩, ⟨_, rfl, by omega⟩, ⟨_, rfl, by omega⟩, trivial⟩, ⟨⟨_, rfl, by omega, by omega⟩, ⟨_, rfl, by omega, by omega⟩, ⟨_, rfl, by omega⟩, ⟨_, rfl, by omega⟩, ⟨_, rfl, by omega⟩, trivial⟩, trivial⟩ (heap_alloc_new w' _), ⟨hW.1.below (below1 _ _), hW.2.alloc _⟩⟩
      · intro B a' w' hB hW hF
        have h0 : a'.tmps[0]? = some (.pointer (some ⟨rb, 0, none⟩)) := (hF.at 0 (by kernel_rfl)).trans rfl
        refine wpOp_step rfl (fun K hK => ?_)
        go_simp
        exact hK _ _ ⟨_, rfl, Ex.refl _ _, rfl, hW⟩
      · intro B a' w' hB hW hF
        obtain ⟨_, h18, rfl⟩ := hF.val ⟨10, .data⟩ (by simp) rfl _ rfl
        refine wpOp_step rfl (fun K hK => ?_)
        go_simp
        refine (pick_any rb _ _ _ hW.1 (by omega) (by omega)).mono ?_
        rintro e w'' ⟨k, rfl, hk, hR', hE'⟩
        exact hK _ _ ⟨_, rfl, hE', ⟨_, rfl, by omega, by omega⟩, ⟨hR', hW.2.trans hE'⟩⟩
      · intro B a' w' hB hW hF
        obtain ⟨_, h17, b17, rfl, c17⟩ := hF.val ⟨9, .data⟩ (by simp) rfl _ rfl
        obtain ⟨_, h19, k19, rfl, a19, b19⟩ := hF.val ⟨11, .data⟩ (by simp) rfl _ rfl
        have i1 : k19 < 5 := by omega
        refine wpOp_step rfl (fun K hK => ?_)
        go_simp
        exact hK _ _ ⟨_, rfl, Ex.refl _ _, ⟨_, _, rfl, c17 k19.toNat (by omega)⟩, hW⟩
      · intro B a' w' hB hW hF
        obtain ⟨_, h20, b20, o20, rfl, x20, c20⟩ := hF.val ⟨12, .data⟩ (by simp) rfl _ rfl
        obtain ⟨u0, hu0, tu0⟩ := c20 0 _ rfl
        have hv0 : w'.cell? ⟨b20, o20, none⟩ = some u0 := by simpa using hu0
        obtain ⟨u1, hu1, tu1⟩ := c20 1 _ rfl
        obtain ⟨u2, hu2, tu2⟩ := c20 2 _ rfl
        obtain ⟨u3, hu3, tu3⟩ := c20 3 _ rfl
        obtain ⟨u4, hu4, tu4⟩ := c20 4 _ rfl
        refine wpOp_step rfl (fun K hK => ?_)
        go_simp
        exact hK _ _ ⟨_, rfl, Ex.refl _ _, ⟨_, rfl, tu0, tu1, tu2, tu3, tu4, trivial⟩, hW⟩
    · intro a' w' hL hW
      obtain ⟨_, h21, vs, rfl, A21⟩ := hL.val 13 _ rfl
      obtain ⟨_, _, _, _, _, ⟨k, rfl, y1, y2⟩, ⟨m, rfl, y3, y4⟩, ⟨s1, rfl, z1⟩, ⟨s2, rfl, z2⟩, ⟨s3, rfl, z3⟩, rfl⟩ := AllT.get5 A21
      have h4 : a'.tmps[4]? = some (.pointer (some ⟨w.heap.size, 0, none⟩)) := (hL.at 4 (by kernel_rfl)).trans rfl
      have hd := hL.defers
      clear hL
      have d0 := hW.2.cell hrc c0
      have d1 := hW.2.cell hrc c1
      have d2 := hW.2.cell hrc c2
      have d3 := hW.2.cell hrc c3
      have d4 := hW.2.cell hrc c4
      have e0 : w'.frozen? ⟨w.heap.size, 0, none⟩ = false := (World.frozen?_of_block (hW.2.block _ hlt hrc)).trans f0
      have e1 : w'.frozen? ⟨w.heap.size, 1, none⟩ = false := (World.frozen?_of_block (hW.2.block _ hlt hrc)).trans f1
      have e2 : w'.frozen? ⟨w.heap.size, 2, none⟩ = false := (World.frozen?_of_block (hW.2.block _ hlt hrc)).trans f2
      have e3 : w'.frozen? ⟨w.heap.size, 3, none⟩ = false := (World.frozen?_of_block (hW.2.block _ hlt hrc)).trans f3
      have e4 : w'.frozen? ⟨w.heap.size, 4, none⟩ = false := (World.frozen?_of_block (hW.2.block _ hlt hrc)).trans f4
      have hR6 : Rd w' rb (B0 + 10) := Rd.mono (B := B0 + 1 + 1) hW.1 (by omega)
      have P := set5 (.int .i64 k) (.int .i64 m) (.string s1) (.string s2) (.string s3) d0 d1 d2 d3 d4
      have Q := act_set (k := k) (m := m) (n := s1) (h := s2) (t := s3) hR6 (hE.trans hW.2) (Nat.le_refl _) hrc d0 d1 d2 d3 d4
      have HP := Lib.hid P
      have HQ := Lib.hid Q
      clear P Q
      show wpList _ _ _ (_ :: []) _ _
      go_wp2
      exact bodyPost_ret (resAct Tryd.results27 _ _ h4 HP.out.1 HP.out.2.1 HP.out.2.2.1 HP.out.2.2.2.1 HP.out.2.2.2.2) (hd.trans rfl) (DrawRet.mk ⟨_, rfl, ⟨_, rfl, by omega, by omega⟩, ⟨_, rfl, by omega, by omega⟩, ⟨_, rfl, by omega⟩, ⟨_, rfl, by omega⟩, ⟨_, rfl, by omega⟩, trivial⟩ HQ.out.1 HQ.out.2)
end Go.Proofs.YtackffegdmohiaaDoor
