/- The walks of the reference's drawing functions for the laws on feeds. No condition. -/
import Derived.Test.YtlmpkajnbdhppaaDrawBo
namespace Go.Proofs.Ytlmpkajnbdhppaa
open Go.RowKit

def DrawTwo (w : World) (e : Ending) (w' : World) : Prop := ∃ va oa vb ob, e = .returned (.tuple #[va, vb]) ∧ oa.length ≤ 7 ∧ ob.length ≤ 9 ∧ (∀ y ∈ oa, DrItm y) ∧ (∀ y ∈ ob, DrItm y) ∧ Sl itmS w' va oa ∧ Sl itmS w' vb ob ∧ Below w.heap.size w w'
def DrawOne (w : World) (e : Ending) (w' : World) : Prop := ∃ v o, e = .returned v ∧ o.length ≤ 7 ∧ (∀ y ∈ o, DrItm y) ∧ Sl itmS w' v o ∧ Below w.heap.size w w'
set_option maxHeartbeats 1000000 in
theorem draw_GoneKeys (v : Value) (l : List UInt8) (w : World) (h : Sl byteS w v l) :
    Calls Try.prog 14 #[v] w (DrawTwo w) := by
  go_enter Try.func14, Try.ntmps14
  go_wp2_with fail
  refine (open_any v l _ h).mono ?_
  rintro e w1 ⟨rfl, hR, hB⟩
  go_wp2_with fail
  refine (both_any _ _ _ _ hR (by omega) (by omega) (by omega)).mono ?_
  rintro e w2 ⟨va, oa, vb, ob, rfl, h1, h2, h3, h4, h5, h6, hR2, hE2⟩
  go_wp2_with fail
  go_ret2
  exact ⟨va, oa, vb, ob, rfl, h1, h2, h3, h4, h5, h6, below_open hB hE2⟩

set_option maxHeartbeats 1000000 in
theorem draw_MergeFeeds (v : Value) (l : List UInt8) (w : World) (h : Sl byteS w v l) :
    Calls Try.prog 26 #[v] w (DrawTwo w) := by
  go_enter Try.func26, Try.ntmps26
  go_wp2_with fail
  refine (open_any v l _ h).mono ?_
  rintro e w1 ⟨rfl, hR, hB⟩
  go_wp2_with fail
  refine (both_any _ _ _ _ hR (by omega) (by omega) (by omega)).mono ?_
  rintro e w2 ⟨va, oa, vb, ob, rfl, h1, h2, h3, h4, h5, h6, hR2, hE2⟩
  go_wp2_with fail
  go_ret2
  exact ⟨va, oa, vb, ob, rfl, h1, h2, h3, h4, h5, h6, below_open hB hE2⟩

set_option maxHeartbeats 1000000 in
theorem draw_SortFeed (v : Value) (l : List UInt8) (w : World) (h : Sl byteS w v l) :
    Calls Try.prog 7 #[v] w (DrawOne w) := by
  go_enter Try.func7, Try.ntmps7
  go_wp2_with fail
  refine (open_any v l _ h).mono ?_
  rintro e w1 ⟨rfl, hR, hB⟩
  go_wp2_with fail
  refine (feed_any _ _ _ _ hR (by omega) (by omega) (by omega)).mono ?_
  rintro e w2 ⟨u, o, rfl, h1, h2, hown, hR2, hE2⟩
  go_wp2_with fail
  go_ret
  exact ⟨u, o, rfl, h1, h2, Sl.of_owns hown, below_open hB hE2⟩
end Go.Proofs.Ytlmpkajnbdhppaa
