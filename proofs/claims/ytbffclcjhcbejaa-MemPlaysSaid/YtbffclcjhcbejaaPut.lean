/- What becomes of memory where one row of bytes is written. No conditions. -/
import Derived.Test.YtbffclcjhcbejaaW3
namespace Go.Proofs.Ytbffclcjhcbejaa
open Go.RowKit

theorem rows_pair {pre post : List Area} {a : Area} (h : (rowsOf (pre ++ a :: post)).Nodup) :
    (∀ x, x ∈ pre ∨ x ∈ post → ∀ g ∈ a.rows, g ∉ x.rows) ∧ a.rows.Nodup := by
  unfold rowsOf at h
  rw [List.flatMap_append, List.flatMap_cons] at h
  obtain ⟨_, h2, h3⟩ := List.nodup_append.1 h
  obtain ⟨h4, _, h5⟩ := List.nodup_append.1 h2
  refine ⟨fun x hx g hg hgx => ?_, h4⟩
  rcases hx with hx | hx
  · exact h3 g (List.mem_flatMap.2 ⟨x, hx, hgx⟩) g (List.mem_append_left _ hg) rfl
  · exact h5 g hg g (List.mem_flatMap.2 ⟨x, hx, hgx⟩) rfl
theorem rowBlk_len {v : Value} {xs ys : List Int} (h : ys.length = xs.length) : rowBlk v ys = rowBlk v xs := by
  unfold rowBlk
  have : ys = [] ↔ xs = [] := by rw [← List.length_eq_zero_iff, ← List.length_eq_zero_iff, h]
  simp only [this]
theorem mem_rowBlk {v : Value} {xs : List Int} {g : Nat} (h : g ∈ rowBlk v xs) : xs ≠ [] ∧ v.ownBlock = some g := by
  unfold rowBlk at h
  split at h
  · cases h
  · exact ⟨‹_›, by simpa [Option.mem_toList] using h⟩

section
variable {w w' : World} {bm g : Nat} {pre post : List Area} {a : Area} {cur cur' : Array Value}
/-- A row of one area is written: memory is the old one, but for that row. -/
theorem MemAt.row_put (h : MemAt w bm (pre ++ a :: post)) (hga : g ∈ a.rows) (k : Keeps (· = g) w w') {a' : Area} (hr : a'.r = a.r) (hb : a'.b = a.b) (hn : a'.now = a.now) (hw : a'.was = a.was)
    (hlx : a'.xs.length = a.xs.length) (hly : a'.ys.length = a.ys.length) (hnow : BRow w' a.now a'.xs) (hwas : BRow w' a.was a'.ys) (hbx : isBytes a'.xs) (hby : isBytes a'.ys) : MemAt w' bm (pre ++ a' :: post) := by
  have hmem : ∀ x, x ∈ pre ∨ x ∈ post → x ∈ pre ++ a :: post := fun x hx => by
    rcases hx with hx | hx <;> simp [hx]
  have ha := h.each a (by simp)
  obtain ⟨c0, hc0⟩ := ha.row_blk hga
  obtain ⟨v, hv, ho⟩ := h.top
  have hT : ∀ {b : Nat} {t : TypeId} {cs : Array Value}, Blk w b t cs → t ≠ 5 → ¬ (b = g) := fun h1 h2 => h1.ne_ hc0 h2
  obtain ⟨hap, _⟩ := rows_pair h.apart
  have hrows : a'.rows = a.rows := by
    unfold Area.rows
    rw [hn, hw, rowBlk_len hlx, rowBlk_len hly]
  refine ⟨⟨v, hv.keeps k (hT hv (by decide)), ?_⟩, fun x hx => ?_, ?_, ?_⟩
  · have ho' := ownsRow_keeps ho k (fun g' hg' e => by
      subst e
      rcases ho.2 with ⟨rfl, _⟩ | ⟨g2, cap, cu, rfl, _, hh, _⟩
      · simp [Value.ownBlock] at hg'
      · have : g2 = g' := by simpa [Value.ownBlock] using hg'
        subst this
        exact hT (t := 63) hh (by decide) rfl)
    simpa [hb] using ho'
  · rcases List.mem_append.1 hx with hx | hx
    · have h1 := h.each x (hmem x (Or.inl hx))
      exact h1.keeps k (hT h1.blk (by decide)) (fun y hy e => hap x (Or.inl hx) g hga (e ▸ hy))
    · rcases List.mem_cons.1 hx with rfl | hx
      · have hblk := ha.blk.keeps k (hT ha.blk (by decide))
        exact ⟨by rw [hb, hr, hn, hw]; exact hblk, by rw [hn]; exact hnow, by rw [hw]; exact hwas, by rw [hlx, hr]; exact ha.lx, by rw [hly, hr]; exact ha.ly, hbx, hby, by rw [hr]; exact ha.ok⟩
      · have h1 := h.each x (hmem x (Or.inr hx))
        exact h1.keeps k (hT h1.blk (by decide)) (fun y hy e => hap x (Or.inr hx) g hga (e ▸ hy))
  · have := h.apart
    unfold rowsOf at this ⊢
    rw [List.flatMap_append, List.flatMap_cons] at this ⊢
    rw [hrows]
    exact this
  · have := h.few
    simpa using this
/-- The row that is written reads as it was spliced. -/
theorem BRow.spliced {v : Value} {xs : List Int} (h : BRow w v xs) (hg : g ∈ rowBlk v xs) (hb : Blk w g 5 cur) {k : Nat} {cs : List Int} (hfit : k + cs.length ≤ xs.length)
    (hb' : Blk w' g 5 (splice cur.toList k (cs.map (Value.int .u8))).toArray) : BRow w' v (splice xs k cs) := by
  obtain ⟨hne, hob⟩ := mem_rowBlk hg
  obtain ⟨A, cap, rfl, h1, h2, hbb⟩ := h
  obtain ⟨g', cur2, rfl, hb2, hs, ht⟩ := hbb hne
  have : g' = g := by simpa [Value.ownBlock] using hob
  subst this
  obtain rfl := hb2.inj hb
  have hl : (splice xs k cs).length = xs.length := length_splice _ _ _ hfit
  have hcl : cur2.toList.length = cap := by simpa using hs
  refine ⟨_, cap, by rw [hl], by rw [hl]; exact h1, h2, fun _ => ⟨g', _, rfl, hb', ?_, ?_⟩⟩
  · have := length_splice cur2.toList k (cs.map (Value.int .u8)) (by simp; omega)
    simpa [hcl] using this
  · rw [hl]
    apply List.ext_getElem?
    intro i
    by_cases hi : i < xs.length
    · rw [List.getElem?_take, if_pos hi]
      have e1 : cur2.toList[i]? = (xs.map (Value.int .u8))[i]? := by rw [← ht, List.getElem?_take, if_pos hi]
      simp only [splice, List.getElem?_append, List.length_take, List.getElem?_take, List.getElem?_drop, List.getElem?_map, List.length_map, List.map_append, List.map_take, List.map_drop]
      have hk1 : min k cur2.toList.length = k := by omega
      have hk2 : min k xs.length = k := by omega
      rw [hk1, hk2]
      by_cases c1 : i < k
      · simp only [c1, if_true]
        rw [e1, List.getElem?_map]
      · simp only [c1, if_false]
        by_cases c2 : i - k < cs.length
        · simp only [c2, if_true]
        · simp only [c2, if_false]
          have e3 : k + cs.length + (i - k - cs.length) = i := by omega
          rw [e3, e1, List.getElem?_map]
    · rw [List.getElem?_eq_none (by simp; omega), List.getElem?_eq_none (by rw [List.length_map, hl]; omega)]
end
/-- The first area that has the bytes is turned by f. -/
def updA (ms : List Area) (at_ n : Int) (f : Area → Area) : List Area :=
  match ms with
  | [] => []
  | a :: r => if a.has at_ n then f a :: r else a :: updA r at_ n f
theorem updA_of {at_ n : Int} {f : Area → Area} {a : Area} {post : List Area} (ha : a.has at_ n = true) : ∀ {pre : List Area}, (∀ x ∈ pre, x.has at_ n = false) → updA (pre ++ a :: post) at_ n f = pre ++ f a :: post
  | [], _ => by simp [updA, ha]
  | x :: pre, h => by
    have h1 := h x (by simp)
    have h2 := updA_of (f := f) (post := post) ha (pre := pre) (fun y hy => h y (by simp [hy]))
    simp [updA, h1, h2]
theorem findA_split {ms : List Area} {at_ n : Int} {a : Area} (h : findA ms at_ n = some a) : ∃ pre post, ms = pre ++ a :: post ∧ a.has at_ n = true ∧ ∀ x ∈ pre, x.has at_ n = false := by
  obtain ⟨h1, pre, post, h2, h3⟩ := List.find?_eq_some_iff_append.1 h
  exact ⟨pre, post, h2, h1, fun x hx => by simpa using h3 x hx⟩
theorem splice_bytes {xs cs : List Int} {k : Nat} (h : isBytes xs) (h2 : isBytes cs) : isBytes (splice xs k cs) := by
  intro x hx
  unfold splice at hx
  rcases List.mem_append.1 hx with hx | hx
  · exact h x (List.mem_of_mem_take hx)
  · rcases List.mem_append.1 hx with hx | hx
    · exact h2 x hx
    · exact h x (List.mem_of_mem_drop hx)
theorem bytesOf_bytes {v : Int} (h0 : 0 ≤ v) (h1 : v ≤ 4294967295) (n : Nat) : isBytes (bytesOf v n) := by
  intro x hx
  have := List.mem_of_mem_take hx
  simp at this
  omega
/-- Bytes put into the area that has them. -/
def putA (ms : List Area) (at_ n : Int) (cs : List Int) : List Area := updA ms at_ n fun a => { a with xs := splice a.xs (at_ - a.r.fr).toNat cs }
theorem MemAt.putA {w w' : World} {bm : Nat} {ms : List Area} {at_ n : Int} {a : Area} {g : Nat} {cur : Array Value} {cs : List Int} (h : MemAt w bm ms) (hf : findA ms at_ n = some a) (hcs : (cs.length : Int) = n) (hcb : isBytes cs)
    (k : Keeps (· = g) w w') (hb : Blk w g 5 cur) (hg : g ∈ rowBlk a.now a.xs) (hb' : Blk w' g 5 (splice cur.toList (at_ - a.r.fr).toNat (cs.map (Value.int .u8))).toArray) :
    MemAt w' bm (putA ms at_ n cs) := by
  obtain ⟨hmem, hn0, hfr, hend⟩ := findA_spec hf
  have ha := h.each a hmem
  obtain ⟨pre, post, rfl, hha, hpre⟩ := findA_split hf
  unfold Go.Proofs.Ytbffclcjhcbejaa.putA
  rw [updA_of hha hpre]
  have hfit : (at_ - a.r.fr).toNat + cs.length ≤ a.xs.length := by have := ha.lx; omega
  obtain ⟨hap, hnd⟩ := rows_pair h.apart
  have hgw : g ∉ rowBlk a.was a.ys := fun hx => by
    unfold Area.rows at hnd
    exact (List.nodup_append.1 hnd).2.2 g hg g hx rfl
  exact h.row_put (List.mem_append_left _ hg) k rfl rfl rfl rfl (length_splice _ _ _ hfit) rfl (ha.now.spliced hg hb hfit hb') (ha.was.keeps k (fun y hy e => hgw (e ▸ hy))) (splice_bytes ha.bx hcb) ha.bY
end Go.Proofs.Ytbffclcjhcbejaa
