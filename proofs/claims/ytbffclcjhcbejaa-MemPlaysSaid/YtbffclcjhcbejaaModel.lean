/- How memory in ranges lies in the world: 'MemAt', and what may turn it. No conditions. -/
import Derived.Test.YtbffclcjhcbejaaHeap
namespace Go.Proofs.Ytbffclcjhcbejaa
open Go.RowKit

/-- A range, ms data. -/
structure Rng where
  nm : ByteArray
  fr : Int
  sz : Int
  wr : Bool
  ex : Bool

def Rng.cells (r : Rng) : List Value := [.string r.nm, .int .i64 r.fr, .int .i64 r.sz, .bool r.wr, .bool r.ex]

/-- What Check grants of one range (but its name). -/
structure Rng.Ok (r : Rng) : Prop where
  f0 : 16 ≤ r.fr
  f1 : r.fr ≤ 4294967296
  s0 : 0 ≤ r.sz
  s1 : r.sz ≤ 16777216
  fs : r.fr + r.sz ≤ 4294967296

/-- A slice value reads ms bytes; if there are any, they lie at the head of a block of their own kind. -/
def BRow (w : World) (v : Value) (xs : List Int) : Prop :=
  ∃ A cap, v = .slice A xs.length cap ∧ xs.length ≤ cap ∧ cap ≤ maxLen ∧
    (xs ≠ [] → ∃ g cur, A = some ⟨g, 0, none⟩ ∧ Blk w g 5 cur ∧ cur.size = cap ∧ cur.toList.take xs.length = xs.map (Value.int .u8))

/-- The block of a row of bytes, if there are any. -/
def rowBlk (v : Value) (xs : List Int) : List Nat := if xs = [] then [] else v.ownBlock.toList

structure Area where
  r : Rng
  b : Nat
  now : Value
  was : Value
  xs : List Int
  ys : List Int

def Area.rows (a : Area) : List Nat := rowBlk a.now a.xs ++ rowBlk a.was a.ys
def rowsOf (ms : List Area) : List Nat := ms.flatMap Area.rows

def isBytes (l : List Int) : Prop := ∀ x ∈ l, 0 ≤ x ∧ x ≤ 255

structure AreaAt (w : World) (a : Area) : Prop where
  blk : Blk w a.b 67 #[.string a.r.nm, .int .i64 a.r.fr, .int .i64 a.r.sz, .bool a.r.wr, .bool a.r.ex, a.now, a.was]
  now : BRow w a.now a.xs
  was : BRow w a.was a.ys
  lx : (a.xs.length : Int) = a.r.sz
  ly : (a.ys.length : Int) = a.r.sz
  bx : isBytes a.xs
  bY : isBytes a.ys
  ok : a.r.Ok

def ptrV (b : Nat) : Value := .pointer (some ⟨b, 0, none⟩)

structure MemAt (w : World) (bm : Nat) (ms : List Area) : Prop where
  top : ∃ v, Blk w bm 62 #[v] ∧ w.ownsRow 0 63 1 v ms.length (ms.map fun a => ptrV a.b)
  each : ∀ a ∈ ms, AreaAt w a
  apart : (rowsOf ms).Nodup
  few : ms.length ≤ 16

theorem BRow.blk_of {w : World} {v : Value} {xs : List Int} (h : BRow w v xs) {g : Nat} (hg : g ∈ rowBlk v xs) : ∃ cur, Blk w g 5 cur := by
  obtain ⟨A, cap, rfl, _, _, hb⟩ := h
  unfold rowBlk at hg
  split at hg
  · cases hg
  · rename_i hne
    obtain ⟨g', cur, rfl, hb, _⟩ := hb hne
    have : g = g' := by simpa [Value.ownBlock] using hg
    subst this
    exact ⟨cur, hb⟩
theorem BRow.keeps {w w' : World} {F : Nat → Prop} {v : Value} {xs : List Int} (h : BRow w v xs) (k : Keeps F w w') (hF : ∀ g ∈ rowBlk v xs, ¬ F g) : BRow w' v xs := by
  obtain ⟨A, cap, rfl, h1, h2, hb⟩ := h
  refine ⟨A, cap, rfl, h1, h2, fun hne => ?_⟩
  obtain ⟨g, cur, rfl, hb, r⟩ := hb hne
  exact ⟨g, cur, rfl, hb.keeps k (hF g (by simp [rowBlk, hne, Value.ownBlock])), r⟩
theorem AreaAt.row_blk {w : World} {a : Area} (h : AreaAt w a) {g : Nat} (hg : g ∈ a.rows) : ∃ cur, Blk w g 5 cur := by
  rcases List.mem_append.1 hg with hg | hg
  · exact h.now.blk_of hg
  · exact h.was.blk_of hg
theorem MemAt.row_blk {w : World} {bm : Nat} {ms : List Area} (h : MemAt w bm ms) {g : Nat} (hg : g ∈ rowsOf ms) : ∃ cur, Blk w g 5 cur := by
  obtain ⟨a, ha, hg⟩ := List.mem_flatMap.1 hg
  exact (h.each a ha).row_blk hg
theorem AreaAt.keeps {w w' : World} {F : Nat → Prop} {a : Area} (h : AreaAt w a) (k : Keeps F w w') (hb : ¬ F a.b) (hF : ∀ g ∈ a.rows, ¬ F g) : AreaAt w' a :=
  { h with
    blk := h.blk.keeps k hb
    now := h.now.keeps k fun g hg => hF g (List.mem_append_left _ hg)
    was := h.was.keeps k fun g hg => hF g (List.mem_append_right _ hg) }
/-- Memory stays, if nothing but rows of bytes that are none of its own is turned. -/
theorem MemAt.keeps {w w' : World} {F : Nat → Prop} {bm : Nat} {ms : List Area} (h : MemAt w bm ms) (k : Keeps F w w')
    (hT : ∀ g t cs, F g → Blk w g t cs → t = 5) (hF : ∀ g ∈ rowsOf ms, ¬ F g) : MemAt w' bm ms := by
  obtain ⟨v, hv, ho⟩ := h.top
  refine ⟨⟨v, hv.keeps k (fun hf => absurd (hT _ _ _ hf hv) (by decide)), ownsRow_keeps ho k (fun g hg hf => ?_)⟩, fun a ha => ?_, h.apart, h.few⟩
  · rcases ho.2 with ⟨rfl, _⟩ | ⟨g', cap, cur, rfl, _, hh, _⟩
    · simp [Value.ownBlock] at hg
    · have : g' = g := by simpa [Value.ownBlock] using hg
      subst this
      exact absurd (hT _ _ _ hf hh) (by decide)
  · exact (h.each a ha).keeps k (fun hf => absurd (hT _ _ _ hf (h.each a ha).blk) (by decide)) (fun g hg => hF g (List.mem_flatMap.2 ⟨a, ha, hg⟩))
theorem MemAt.below {w w' : World} {bm : Nat} {ms : List Area} (h : MemAt w bm ms) (hb : Below w.heap.size w w') : MemAt w' bm ms :=
  h.keeps (F := fun _ => False) (keeps_of_below _ hb) (fun _ _ _ hf => hf.elim) (fun _ _ hf => hf)
/-- Turning rows of one memory's own is turning rows of bytes. -/
theorem MemAt.rows_kind {w : World} {bm : Nat} {ms : List Area} (h : MemAt w bm ms) (g : Nat) (t : TypeId) (cs : Array Value) (hg : g ∈ rowsOf ms) (hb : Blk w g t cs) : t = 5 := by
  obtain ⟨cur, hc⟩ := h.row_blk hg
  unfold Blk at hb hc
  rw [hc] at hb
  injection hb with hb
  injection hb with _ e
  exact e.symm
/-- One memory's rows are turned: another one, apart from it, stays. -/
theorem MemAt.other {w w' : World} {b1 b2 : Nat} {ms bs : List Area} (h : MemAt w b1 ms) (h2 : MemAt w b2 bs) (k : Keeps (· ∈ rowsOf bs) w w') (hd : ∀ g ∈ rowsOf ms, g ∉ rowsOf bs) : MemAt w' b1 ms :=
  h.keeps k (fun g t cs hg hb => h2.rows_kind g t cs hg hb) hd
theorem MemAt.lt {w : World} {bm : Nat} {ms : List Area} (h : MemAt w bm ms) : bm < w.heap.size := h.top.elim fun _ hv => hv.1.lt
theorem MemAt.row_lt {w : World} {bm : Nat} {ms : List Area} (h : MemAt w bm ms) {g : Nat} (hg : g ∈ rowsOf ms) : g < w.heap.size := (h.row_blk hg).elim fun _ hb => hb.lt
end Go.Proofs.Ytbffclcjhcbejaa
