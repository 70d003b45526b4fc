/- Types of values for regions that draw their order: what a value of each type is, and that it stays one. No condition. -/
import Derived.Test.YtackffegdmohiaaDoorReg
import Derived.Test.YtackffegdmohiaaDoorPick
import Derived.Laws.BytesString
namespace Go.Proofs.YtackffegdmohiaaDoor
open Go.RowKit

/-- A type of values that stays under new blocks and under writes to blocks of X. -/
structure STy (X : Nat → Prop) where
  T : World → Value → Prop
  st : ∀ w w' v, Ex X w w' → T w v → T w' v
variable {X : Nat → Prop}
def sAny (X : Nat → Prop) : STy X := ⟨fun _ _ => True, fun _ _ _ _ h => h⟩
def sInt (X : Nat → Prop) (lo hi : Int) : STy X := ⟨fun _ v => ∃ k, v = .int .i64 k ∧ lo ≤ k ∧ k ≤ hi, fun _ _ _ _ h => h⟩
def sIs (X : Nat → Prop) (u : Value) : STy X := ⟨fun _ v => v = u, fun _ _ _ _ h => h⟩
def sStr (X : Nat → Prop) (n : Nat) : STy X := ⟨fun _ v => ∃ s, v = .string s ∧ s.size ≤ n, fun _ _ _ _ h => h⟩
def sBool (X : Nat → Prop) : STy X := ⟨fun _ v => ∃ b, v = .bool b, fun _ _ _ _ h => h⟩
/-- Values, one of each type. -/
def AllT (w : World) : List (STy X) → List Value → Prop
  | [], [] => True
  | t :: ts, v :: vs => t.T w v ∧ AllT w ts vs
  | _, _ => False
theorem AllT.st {w w' : World} (h : Ex X w w') : ∀ (ts : List (STy X)) (vs : List Value), AllT w ts vs → AllT w' ts vs
  | [], [], _ => trivial
  | t :: ts, _ :: vs, ⟨h1, h2⟩ => ⟨t.st _ _ _ h h1, AllT.st h ts vs h2⟩
theorem AllT.get {w : World} : ∀ {ts : List (STy X)} {vs : List Value}, AllT w ts vs → vs.length = ts.length ∧ ∀ (f : Nat) (t : STy X), ts[f]? = some t → ∃ u, vs[f]? = some u ∧ t.T w u
  | [], [], _ => ⟨rfl, fun f t h => by simp at h⟩
  | t :: ts, v :: vs, ⟨h1, h2⟩ => by
    obtain ⟨h3, h4⟩ := AllT.get h2
    refine ⟨by simp [h3], fun f t' h => ?_⟩
    cases f with
    | zero => simp at h; subst h; exact ⟨v, rfl, h1⟩
    | succ f => exact h4 f t' (by simpa using h)
theorem AllT.get2 {w : World} {a b : STy X} {vs : List Value} (h : AllT w [a, b] vs) : ∃ u v, a.T w u ∧ b.T w v ∧ vs = [u, v] := by
  match vs, h with
  | [u, v], ⟨h1, h2, _⟩ => exact ⟨u, v, h1, h2, rfl⟩
def sAgg (ts : List (STy X)) : STy X := ⟨fun w v => ∃ vs : List Value, v = .agg vs.toArray ∧ AllT w ts vs, fun _ _ _ hx h => by obtain ⟨vs, h1, h2⟩ := h; exact ⟨vs, h1, AllT.st hx ts vs h2⟩⟩
/-- Cells from ⟨b, off⟩ on, one of each type. -/
def CellsT (w : World) (b off : Nat) (ts : List (STy X)) : Prop := ¬ X b ∧ ∀ (f : Nat) (t : STy X), ts[f]? = some t → ∃ u, w.cell? ⟨b, off + f, none⟩ = some u ∧ t.T w u
theorem CellsT.st {w w' : World} (h : Ex X w w') {b off : Nat} {ts : List (STy X)} (hc : CellsT w b off ts) : CellsT w' b off ts :=
  ⟨hc.1, fun f t ht => by obtain ⟨u, h1, h2⟩ := hc.2 f t ht; exact ⟨u, h.cell hc.1 h1, t.st _ _ _ h h2⟩⟩
def sRef (ts : List (STy X)) : STy X := ⟨fun w v => ∃ b off, v = .pointer (some ⟨b, off, none⟩) ∧ CellsT w b off ts, fun _ _ _ hx ⟨b, off, h1, h2⟩ => ⟨b, off, h1, h2.st hx⟩⟩
def sSl (n : Nat) (ts : List (STy X)) : STy X := ⟨fun w v => ∃ b, v = .slice (some ⟨b, 0, none⟩) n n ∧ ∀ i, i < n → CellsT w b (i * ts.length) ts, fun _ _ _ hx ⟨b, h1, h2⟩ => ⟨b, h1, fun i hi => (h2 i hi).st hx⟩⟩

def AllRows (w : World) (ts : List (STy X)) : List (List Value) → Prop
  | [] => True
  | c :: cs => AllT w ts c ∧ AllRows w ts cs
theorem AllRows.get {w : World} {ts : List (STy X)} : ∀ {cs : List (List Value)}, AllRows w ts cs → ∀ c ∈ cs, AllT w ts c
  | c :: cs, ⟨h1, h2⟩, c', h => by
    rcases List.mem_cons.1 h with rfl | h
    · exact h1
    · exact AllRows.get h2 c' h
/-- A slice made new: its cells known. -/
theorem sSl_new {w w' : World} {n : Nat} {ts : List (STy X)} (hX : ¬ X w.heap.size) {cs : List (List Value)} (hn : cs.length = n) (hall : AllRows w' ts cs) {t : TypeId}
    (hb : w'.heap[w.heap.size]? = some (.cells cs.flatten.toArray t (0, 0))) : (sSl n ts).T w' (.slice (some ⟨w.heap.size, 0, none⟩) n n) := by
  have ha := hall.get
  refine ⟨w.heap.size, rfl, fun i hi => ⟨hX, fun f t' hf => ?_⟩⟩
  have hlen : ∀ c ∈ cs, c.length = ts.length := fun c hc => (ha c hc).get.1
  have hfl : f < ts.length := (List.getElem?_eq_some_iff.1 hf).1
  have key : ∀ (l : List (List Value)) (i : Nat) (hi : i < l.length), (∀ c ∈ l, c.length = ts.length) → l.flatten[i * ts.length + f]? = l[i][f]? := by
    intro l
    induction l with
    | nil => intro i hi; exact absurd hi (by simp)
    | cons c l ih =>
      intro i hi hl
      have hc := hl c (by simp)
      cases i with
      | zero => simp only [List.flatten_cons, Nat.zero_mul, Nat.zero_add]; rw [List.getElem?_append_left (by omega)]; rfl
      | succ i =>
        simp only [List.flatten_cons]
        rw [List.getElem?_append_right (by rw [hc, Nat.add_mul]; omega), show (i + 1) * ts.length + f - c.length = i * ts.length + f by rw [hc, Nat.add_mul]; omega, ih i (by simpa using hi) (fun c hc => hl c (by simp [hc]))]
        rfl
  have hi' : i < cs.length := by omega
  obtain ⟨u, hu, hT⟩ := (ha cs[i] (List.getElem_mem hi')).get.2 f t' hf
  refine ⟨u, ?_, hT⟩
  simp only [World.cell?, hb]
  have := key cs i hi' hlen
  rw [hu] at this
  simpa using this
theorem zero_cells {X : Nat → Prop} {w : World} {base g n : Nat} {e : TypeId} {u : Value} (hx : ¬ X g) (hown : w.ownsRow base e 1 (.slice (some ⟨g, 0, none⟩) n n) n (madeCells #[u] (n * 1)).toList) :
    ∀ i, i < n → CellsT w g (i * [sIs X u].length) [sIs X u] := fun i hi => ⟨hx, fun f t ht => by
  cases f with
  | zero =>
    simp at ht
    subst ht
    refine ⟨u, ?_, rfl⟩
    have h := hown.cellAt i (by omega)
    rw [toList_madeCells_one, List.getElem?_replicate, if_pos (by omega)] at h
    simpa using h
  | succ f => simp at ht⟩
theorem size_foldl_push (ns : List Int) : ∀ s : ByteArray, (ns.foldl (fun r n => r.push (UInt8.ofNat n.toNat)) s).size = s.size + ns.length := by
  induction ns with
  | nil => intro s; rfl
  | cons n ns ih => intro s; rw [List.foldl_cons, ih, ByteArray.size_push, List.length_cons]; omega
/-- A slice of zero bytes turned into a text. -/
theorem run_zero_string {P : Program} (w : World) (src dst e : TypeId) (b n : Nat) (hs : P.underlying src = some (.slice e)) (he : P.underlying e = some (.int .u8)) (hd : P.underlying dst = some .string)
    (hc : ∀ i, i < n → w.cell? ⟨b, i, none⟩ = some (.int .u8 0)) : ∃ s, (convert src dst (.slice (some ⟨b, 0, none⟩) n n)).run P w = .ok (.string s) w ∧ s.size = n := by
  rw [run_convert_bytes_string w src dst e _ n n hs he hd]
  have hl := run_loadCells_list (P := P) (w := w) ⟨b, 0, none⟩ ((List.replicate n (0 : Int)).map (Value.int .u8)) (fun j v hv => by
    have hj : j < n := by have := (List.getElem?_eq_some_iff.1 hv).1; simpa using this
    simp [hj] at hv
    subst hv
    rw [Addr.add_lit, Nat.zero_add]
    exact hc j hj)
  rw [List.length_map, List.length_replicate] at hl
  exact ⟨_, run_bytesToString w _ n n _ hl, by rw [size_foldl_push]; simp⟩
/-- What a function that reads leaves: a value of its type, the reader asked at most B times, all other blocks as they were. -/
def DrawRet (T : World → Value → Prop) (rb B : Nat) (w : World) (e : Ending) (w' : World) : Prop := ∃ v, e = .returned v ∧ T w' v ∧ Rd w' rb B ∧ Ex (· = rb) w w'
theorem DrawRet.mk {T : World → Value → Prop} {rb B : Nat} {w w' : World} {v : Value} (h : T w' v) (hR : Rd w' rb B) (hE : Ex (· = rb) w w') : DrawRet T rb B w (.returned v) w' := ⟨v, rfl, h, hR, hE⟩

end Go.Proofs.YtackffegdmohiaaDoor
