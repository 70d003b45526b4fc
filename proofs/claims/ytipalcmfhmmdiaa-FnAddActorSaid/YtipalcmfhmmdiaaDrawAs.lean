/- The walks of the reference's drawing functions for the laws on actors. No condition. -/
import Derived.Test.YtipalcmfhmmdiaaDrawAr
namespace Go.Proofs.Ytipalcmfhmmdiaa
open Go.RowKit

def DrawnL (w : World) (v : Value) (o : List Actr) (w' : World) : Prop := o.length ≤ 6 ∧ (∀ y ∈ o, DrActr y) ∧ Sl actrS w' v o ∧ Below w.heap.size w w'
def DrawActrs (w : World) (e : Ending) (w' : World) : Prop := ∃ v o, e = .returned v ∧ DrawnL w v o w'
def DrawNamed (w : World) (e : Ending) (w' : World) : Prop := ∃ v o, ∃ s : ByteArray, e = .returned (.tuple #[v, .string s]) ∧ s.size ≤ 9 ∧ DrawnL w v o w'
def DrawAdd (w : World) (e : Ending) (w' : World) : Prop := ∃ v o, ∃ y : Actr, e = .returned (.tuple #[v, .agg #[.string y.name, .string y.feed, .int .i64 y.sign]]) ∧ DrActr y ∧ DrawnL w v o w'
set_option maxHeartbeats 1000000 in
theorem draw_ActorsValid (v : Value) (l : List UInt8) (w : World) (h : Sl byteS w v l) :
    Calls Try.prog 14 #[v] w (DrawActrs w) := by
  go_enter Try.func14, Try.ntmps14
  go_wp2_with fail
  refine (open_any v l _ h).mono ?_
  rintro e w1 ⟨rfl, hR, hB⟩
  go_wp2_with fail
  refine (actors_any _ _ _ _ hR (by omega) (by omega) (by omega)).mono ?_
  rintro e w2 ⟨u, o, rfl, h1, h2, hown, hR2, hE2⟩
  go_wp2_with fail
  go_ret
  exact ⟨u, o, rfl, h1, h2, Sl.of_owns hown, below_open hB hE2⟩
set_option maxHeartbeats 1000000 in
theorem draw_ActorNamed (v : Value) (l : List UInt8) (w : World) (h : Sl byteS w v l) :
    Calls Try.prog 18 #[v] w (DrawNamed w) := by
  go_enter Try.func18, Try.ntmps18
  go_wp2_with fail
  refine (open_any v l _ h).mono ?_
  rintro e w1 ⟨rfl, hR, hB⟩
  go_wp2_with fail
  refine (actors_any _ _ _ _ hR (by omega) (by omega) (by omega)).mono ?_
  rintro e w2 ⟨u, o, rfl, h1, h2, hown, hR2, hE2⟩
  go_wp2_with fail
  refine (word_any _ _ _ _ hR2 (by omega) (by omega) (by omega)).mono ?_
  rintro e w3 ⟨_, rfl, ⟨s, rfl, hs⟩, hR3, hE3⟩
  have hown3 := own_ex hown hR.lt hE3
  go_wp2_with fail
  exact bodyPost_ret (v := .tuple #[u, .string s]) (by simp [results, Try.results18, go_sem]) rfl ⟨u, o, s, rfl, hs, h1, h2, Sl.of_owns hown3, below_open hB (hE2.trans hE3)⟩
theorem resSA {fn : Func} {sl slot b : Nat} (hr : fn.results = #[.tmp sl, .cell slot 33]) (tmps : Array Value) (W : World) (ht : tmps[slot]? = some (.pointer (some ⟨b, 0, none⟩))) {a0 a1 a2 : Value}
    (h0 : W.cell? ⟨b, 0, none⟩ = some a0) (h1 : W.cell? ⟨b, 1, none⟩ = some a1) (h2 : W.cell? ⟨b, 2, none⟩ = some a2) :
    (results fn tmps).run Try.prog W = .ok (.tuple #[tmps.getD sl undef, .agg #[a0, a1, a2]]) W := by
  simp [results, hr, go_sem, ht, h0, h1, h2]
set_option maxHeartbeats 1000000 in
theorem draw_AddActor (v : Value) (l : List UInt8) (w : World) (h : Sl byteS w v l) :
    Calls Try.prog 19 #[v] w (DrawAdd w) := by
  have h0 : Sl byteS (w.alloc (.cells #[.string ⟨#[]⟩, .string ⟨#[]⟩, .int .i64 0] 33)) v l := h.mono (below1 _ _)
  have hcel : Cel (w.alloc (.cells #[.string ⟨#[]⟩, .string ⟨#[]⟩, .int .i64 0] 33)) w.heap.size 3 := by
    intro i hi
    match i, hi with
    | 0, _ => exact ⟨by simp, .string ⟨#[]⟩, by simp, fun c h => by cases h⟩
    | 1, _ => exact ⟨by simp, .string ⟨#[]⟩, by simp, fun c h => by cases h⟩
    | 2, _ => exact ⟨by simp, .int .i64 0, by simp, fun c h => by cases h⟩
  go_enter Try.func19, Try.ntmps19
  go_wp2_with fail
  refine (open_any v l _ h0).mono ?_
  rintro e w1 ⟨rfl, hR, hB⟩
  have hsz : (w.alloc (.cells #[.string ⟨#[]⟩, .string ⟨#[]⟩, .int .i64 0] 33)).heap.size = w.heap.size + 1 := by simp
  rw [hsz] at hR hB
  rw [hsz]
  have hB1 : Below (w.heap.size + 1) (w.alloc (.cells #[.string ⟨#[]⟩, .string ⟨#[]⟩, .int .i64 0] 33)) w1 := hB
  go_wp2_with fail
  refine (actors_any _ _ _ _ hR (by omega) (by omega) (by omega)).mono ?_
  rintro e w2 ⟨u, o, rfl, h1, h2, hown, hR2, hE2⟩
  go_wp2_with fail
  refine (actor_any _ _ _ _ hR2 (by omega) (by omega) (by omega)).mono ?_
  rintro e w3 ⟨y, rfl, hy, hR3, hE3⟩
  have hown3 := own_ex hown hR.lt hE3
  have hE := hE2.trans hE3
  have hc3 : Cel w3 w.heap.size 3 := fun i hi => by
    obtain ⟨g1, x, g2, g3⟩ := hcel i hi
    have b1 : w1.cell? ⟨w.heap.size, i, none⟩ = some x := (hB1.cell (p := ⟨w.heap.size, i, none⟩) (by simp)).trans g2
    have f1 : w1.frozen? ⟨w.heap.size, i, none⟩ = false := (World.frozen?_of_block (hB1.block _ (by simp))).trans g1
    have hlt := World.block_lt_of_cell? w1 _ b1
    exact ⟨(World.frozen?_of_block (hE.block _ hlt (by simp))).trans f1, x, hE.cell (by simp) b1, g3⟩
  have bw : Below w.heap.size w w3 := by
    have e1 : Below w.heap.size w w1 := (below1 w _).trans (hB1.mono (by omega))
    exact e1.trans (hE.below e1.size (fun k hk => by omega))
  obtain ⟨g0, _, y0, _⟩ := hc3 0 (by decide)
  obtain ⟨g1, _, y1, _⟩ := hc3 1 (by decide)
  obtain ⟨g2, _, y2, _⟩ := hc3 2 (by decide)
  have hat : At (setL w3 w.heap.size 0 [.string y.name, .string y.feed, .int .i64 y.sign]) w.heap.size [.string y.name, .string y.feed, .int .i64 y.sign] := fun i v hv => by
    have := setL_at w.heap.size [.string y.name, .string y.feed, .int .i64 y.sign] 0 w3 (fun j hj => by obtain ⟨_, x, hx, _⟩ := hc3 j hj; exact ⟨x, by rw [Nat.zero_add]; exact hx⟩) i v hv
    rwa [Nat.zero_add] at this
  have HA := Lib.hid hat
  have hneB : ∀ g, u.ownBlock = some g → w.heap.size < g := fun g hg => by have := (hown3.lt g hg).1; have := hR.lt; omega
  have hgr : w3.grownBy (setL w3 w.heap.size 0 [.string y.name, .string y.feed, .int .i64 y.sign]) (some w.heap.size) :=
    ⟨rfl, rfl, rfl, by simp [setL], fun k hk hne => by
      have := (setL_ex (X := (· = w.heap.size)) rfl [.string y.name, .string y.feed, .int .i64 y.sign] 0 w3 (Ex.refl _ _)).block k hk (fun e => hne (by rw [e]))
      exact this⟩
  have hsl : Sl actrS (setL w3 w.heap.size 0 [.string y.name, .string y.feed, .int .i64 y.sign]) u o := Sl.of_owns (hown3.kept hgr (by
    cases hv : u.ownBlock with
    | none => exact .inl rfl
    | some g => exact .inr (fun e => by have := hneB g hv; cases e; omega)))
  have HSl := Lib.hid hsl
  clear hat hcel hsl hgr hneB hc3 hown hown3
  go_wp2_with fail
  exact bodyPost_ret (resSA Try.results19 _ _ rfl (HA.out 0 _ rfl) (HA.out 1 _ rfl) (HA.out 2 _ rfl)) rfl ⟨u, o, y, rfl, hy, h1, h2, HSl.out, by repeat (first | (with_reducible exact bw) | (with_reducible refine Below.setCell ?_ (by simp only; omega) _))⟩
end Go.Proofs.Ytipalcmfhmmdiaa
