/- Walks: strings.Builder's writing at this dump; asm.Lines and its reference. Conditions: what is written is below the Builder's limit. -/
import Derived.Test.YtknnimlbddgimaaDoorShelf
import Derived.WalkKit
import Derived.WalkSpells
import Derived.WalkLawsBesides
import Derived.Lib.Hide
import Derived.Laws.OwnMore
import Derived.Laws.Externs
namespace Go.Proofs.YtknnimlbddgimaaDoor
open Go.RowKit

theorem info44 : (Tryd.prog.info? 44).map (·.size) = some 2 := by kernel_rfl
theorem lies44 : liesAt Tryd.prog Tryd.prog.depth 44 (2 / Tryd.prog.cellsOf 44) 0 44 1 = true := by kernel_rfl
theorem info5 : (Tryd.prog.info? 5).map (fun i => (i.zero, i.size, i.bytes)) = some (some (.int .u8 0), 1, 1) := by kernel_rfl

set_option maxHeartbeats 1000000 in
theorem copyCheck_used (b : Nat) (w : World) (h0 : w.cell? ⟨b, 0, none⟩ = some (.pointer (some ⟨b, 0, none⟩))) :
    Calls Tryd.prog 31 #[.pointer (some ⟨b, 0, none⟩)] w fun e w' => e = .returned (.tuple #[]) ∧ w' = w := by
  obtain ⟨j, hj, _⟩ := Option.map_eq_some_iff.1 info44
  go_enter Tryd.func31, Tryd.ntmps31
  go_wp2
  rw [Lib.run_neq_ptr_same w _ Tryd.underlying41 hj]
  go_wp2
  go_end0
  exact ⟨rfl, rfl⟩
set_option maxHeartbeats 1000000 in
theorem copyCheck_fresh (b : Nat) (w : World) (h0 : w.cell? ⟨b, 0, none⟩ = some (.pointer none)) (hsh : w.shape? b = some (44, 2)) (hfz : w.frozen? ⟨b, 0, none⟩ = false) :
    Calls Tryd.prog 31 #[.pointer (some ⟨b, 0, none⟩)] w fun e w' => e = .returned (.tuple #[]) ∧ w' = w.setCell ⟨b, 0, none⟩ (.pointer (some ⟨b, 0, none⟩)) := by
  obtain ⟨j, hj, hjs⟩ := Option.map_eq_some_iff.1 info44
  go_enter Tryd.func31, Tryd.ntmps31
  go_wp2
  rw [Lib.run_to_unsafe w ⟨b, 0, none⟩ Tryd.underlying41 Tryd.underlying63 hj (by rw [hjs]; decide) hsh (Nat.zero_lt_succ 1)]
  simp only [Result.andThen]
  rw [Oper.upon_value]
  go_wp2
  rw [run_callFunc_extern Tryd.func36 (by kernel_rfl) (by kernel_rfl) (by kernel_rfl) (e := Extern.AbiNoEscape.same) (by kernel_rfl)]
  rw [Lib.run_noEscape]
  simp only [Result.andThen]
  rw [Oper.upon_value]
  go_wp2
  rw [Lib.run_from_unsafe w ⟨b, 0, none⟩ Tryd.underlying63 Tryd.underlying41 hj hsh lies44]
  simp only [Result.andThen]
  rw [Oper.upon_value]
  go_wp2
  go_end0
  exact ⟨rfl, rfl⟩
theorem copyCheck_any (B b : Nat) (bs : List Value) (w : World) (h : Lib.IsBuilder 44 5 B b bs w) :
    Calls Tryd.prog 31 #[.pointer (some ⟨b, 0, none⟩)] w fun e w' => e = .returned (.tuple #[]) ∧ (Lib.BuilderAt 44 5 B b (.pointer (some ⟨b, 0, none⟩)) bs w' ∧ Below B w w') := by
  rcases h with h | h
  · refine (copyCheck_fresh b w h.cell0 h.shape h.frozen0).mono ?_
    rintro e w' ⟨rfl, rfl⟩
    exact ⟨rfl, h.used _, (Below.refl B w).setCell (p := ⟨b, 0, none⟩) h.1 _⟩
  · refine (copyCheck_used b w h.cell0).mono ?_
    rintro e w' ⟨rfl, rfl⟩
    exact ⟨rfl, h, Below.refl B _⟩
set_option maxHeartbeats 2000000 in
set_option maxRecDepth 100000 in
theorem write_any (B b : Nat) (bs : List Value) (s : ByteArray) (w : World) (h : Lib.IsBuilder 44 5 B b bs w) (hlen : bs.length + s.size ≤ 140737488355328) (hBw : B ≤ w.heap.size) :
    Calls Tryd.prog 21 #[.pointer (some ⟨b, 0, none⟩), .string s] w fun e w' => e = .returned (.tuple #[.int .i64 s.size, .nilIface]) ∧ (Lib.BuilderAt 44 5 B b (.pointer (some ⟨b, 0, none⟩)) (bs ++ Lib.strCells s) w' ∧ Below B w w') := by
  obtain ⟨i0, hi, hz0, hz1, hz2⟩ := info_parts info5
  go_enter Tryd.func21, Tryd.ntmps21
  go_wp2_with (go_at_call 31; refine (copyCheck_any B b bs _ h).mono ?_)
  rintro e w1 ⟨rfl, h1, hb1⟩
  obtain ⟨hB, v, hbk, hown, hne⟩ := h1
  have c0 : w1.cell? ⟨b, 0, none⟩ = some (.pointer (some ⟨b, 0, none⟩)) := by rw [Lib.cell_of_heap hbk]; rfl
  have c1 : w1.cell? ⟨b, 1, none⟩ = some v := by rw [Lib.cell_of_heap hbk]; rfl
  go_wp2_with (at_builtin; refine Lib.wpList_append_own_string _ rfl _ _ 42 9 rfl B 5 i0 Tryd.underlying42 Tryd.underlying9 hi hz0 hz1 hz2 _ _ _ rfl hown s rfl ?c3 ?c4 ?c5 ?_)
  case c3 => unfold maxLen; omega
  case c4 => omega
  case c5 => have := hb1.size; omega
  intro v' w2 hown' hgrow _
  have hlt : b < w1.heap.size := by
    rcases Nat.lt_or_ge b w1.heap.size with h' | h'
    · exact h'
    · simp [Array.getElem?_eq_none h'] at hbk
  have hb2 : w2.heap[b]? = some (.cells #[.pointer (some ⟨b, 0, none⟩), v] 44 (0, 0)) := by
    rw [hgrow.block b hlt (fun e => hne e.symm)]
    exact hbk
  have d0 : w2.cell? ⟨b, 0, none⟩ = some (.pointer (some ⟨b, 0, none⟩)) := by rw [Lib.cell_of_heap hb2]; rfl
  have d1 : w2.cell? ⟨b, 1, none⟩ = some v := by rw [Lib.cell_of_heap hb2]; rfl
  have f1 : w2.frozen? ⟨b, 1, none⟩ = false := Lib.frozen_of_heap hb2 1
  obtain ⟨ao, n', cap, rfl⟩ : ∃ ao n' cap, v' = .slice ao n' cap := by
    rcases hown'.2 with ⟨hv, _⟩ | ⟨g, cap, cur, hv, _⟩
    · exact ⟨_, _, _, hv⟩
    · exact ⟨_, _, _, hv⟩
  go_wp2
  go_ret2
  refine ⟨rfl, ?_, ?_⟩
  · exact Lib.BuilderAt.put (T := 44) (e := 5) hB hb2 (bs' := bs ++ Lib.strCells s) (by simpa [Lib.strCells_length] using hown') (by decide)
  · exact (hb1.grown hgrow (by have := hb1.size; omega) (fun k hk => (hown.lt k hk).1)).setCell (p := ⟨b, 1, none⟩) hB _

/-- A slice of strings reads as ss. -/
def StrRow (w : World) (v : Value) (ss : List ByteArray) : Prop :=
  ∃ A cap, v = .slice A ss.length cap ∧ ss.length ≤ cap ∧ cap ≤ maxLen ∧ (ss ≠ [] → ∃ g off, A = some ⟨g, off, none⟩ ∧ g < w.heap.size ∧ ∀ i s, ss[i]? = some s → w.cell? ⟨g, off + i, none⟩ = some (.string s))
theorem StrRow.below {w w' : World} {v : Value} {ss : List ByteArray} (h : StrRow w v ss) (hb : Below w.heap.size w w') : StrRow w' v ss := by
  obtain ⟨A, cap, rfl, h1, h2, h3⟩ := h
  refine ⟨A, cap, rfl, h1, h2, fun hne => ?_⟩
  obtain ⟨g, off, rfl, hg, hc⟩ := h3 hne
  exact ⟨g, off, rfl, Nat.lt_of_lt_of_le hg hb.size, fun i s hs => (hb.cell (p := ⟨g, off + i, none⟩) hg).trans (hc i s hs)⟩
/-- The lines, one behind the other. -/
def linesL (ss : List ByteArray) : List UInt8 := ss.flatMap fun s => s.data.toList ++ [10]
theorem linesL_take {ss : List ByteArray} {k : Nat} {s : ByteArray} (h : ss[k]? = some s) : linesL (ss.take (k + 1)) = linesL (ss.take k) ++ (s.data.toList ++ [10]) := by
  obtain ⟨hk, rfl⟩ := List.getElem?_eq_some_iff.1 h
  unfold linesL
  rw [List.take_succ_eq_append_getElem hk, List.flatMap_append]
  simp
theorem linesL_le (ss : List ByteArray) (k : Nat) : (linesL (ss.take k)).length ≤ (linesL ss).length := by
  unfold linesL
  have h : ss.flatMap (fun s => s.data.toList ++ [10]) = (ss.take k ++ ss.drop k).flatMap (fun s => s.data.toList ++ [10]) := by rw [List.take_append_drop]
  rw [h, List.flatMap_append, List.length_append]
  omega
theorem size_list (l : List UInt8) : (⟨l.toArray⟩ : ByteArray).size = l.length := by simp [ByteArray.size]

theorem fresh_builder (w : World) : Lib.IsBuilder 44 5 w.heap.size w.heap.size [] (w.alloc (.cells #[.pointer none, .slice none 0 0] 44)) :=
  Or.inl ⟨Nat.le_refl _, .slice none 0 0, heap_alloc_new w _, World.ownsRow_nil _ _ _ _, by simp [Value.ownBlock]⟩
theorem strCells_line (s : ByteArray) : Lib.strCells (s ++ ⟨#[10]⟩) = Lib.byteCells (s.data.toList ++ [10]) := by
  rw [Lib.strCells_eq]
  congr 1
theorem size_line (s : ByteArray) : (s ++ (⟨#[10]⟩ : ByteArray)).size = s.size + 1 := by
  rw [ByteArray.size_append]
  rfl
theorem size_data (s : ByteArray) : s.data.toList.length = s.size := Array.length_toList
set_option maxHeartbeats 1000000 in
theorem lines_any (v : Value) (ss : List ByteArray) (w : World) (hv : StrRow w v ss) (hl : (linesL ss).length ≤ 4194304) :
    Calls Tryd.prog 9 #[v] w fun e w' => e = .returned (.string ⟨(linesL ss).toArray⟩) ∧ Below w.heap.size w w' := by
  obtain ⟨A, cap, rfl, hcap, hmax, hcells⟩ := hv
  have HC := Lib.hid hcells
  have HL := Lib.hid hl
  clear hcells hl
  unfold maxLen at hmax
  obtain ⟨N, hN⟩ : ∃ N, ss.length = N := ⟨_, rfl⟩
  rw [hN] at hcap ⊢
  have HN := Lib.hid hN
  clear hN
  go_enter Tryd.func9, Tryd.ntmps9
  go_wp2
  go_loopw [5, 8] (fun _ i wr => ∃ k : Nat, k ≤ N ∧ i = .int .i64 k ∧ Hid (Lib.IsBuilder 44 5 w.heap.size w.heap.size (Lib.byteCells (linesL (ss.take k))) wr) ∧ Hid (Below w.heap.size w wr)) (fun _ i _ => N - (intOf i).toNat)
  case atStart => exact ⟨0, Nat.zero_le _, rfl, fresh_builder w, (Below.refl _ _).alloc (Nat.le_refl _) _⟩
  case round =>
    obtain ⟨k, hk, rfl, HB, HBel⟩ := hrel
    by_cases hlt : k < N
    · have hkl : k < ss.length := by rw [HN.out]; exact hlt
      obtain ⟨s, hs⟩ : ∃ s, ss[k]? = some s := ⟨_, List.getElem?_eq_getElem hkl⟩
      obtain ⟨g, off, rfl, hg, hc⟩ := HC.out (by rintro rfl; simp at hkl)
      have hck : wr.cell? ⟨g, off + k, none⟩ = some (.string s) := (HBel.out.cell (p := ⟨g, off + k, none⟩) hg).trans (hc k s hs)
      have htk := linesL_take hs
      have hle := linesL_le ss (k + 1)
      rw [htk] at hle
      simp only [List.length_append, List.length_singleton, size_data] at hle
      have hl4 := HL.out
      have hw := write_any w.heap.size w.heap.size (Lib.byteCells (linesL (ss.take k))) (s ++ ⟨#[10]⟩) wr HB.out (by
        rw [Lib.byteCells_length, size_line]
        omega) HBel.out.size
      have hadd := run_string_add_sum (P := Tryd.prog) wr s ⟨#[10]⟩ (by
        have : (⟨#[10]⟩ : ByteArray).size = 1 := rfl
        omega)
      clear hl4
      have HW := Lib.hid hw
      have HTK := Lib.hid htk
      clear hw htk hle hc hs hg
      go_wp2_with fail
      refine HW.out.mono ?_
      rintro e w1 ⟨rfl, hb1, hbel1⟩
      have hb2 : Lib.IsBuilder 44 5 w.heap.size w.heap.size (Lib.byteCells (linesL (ss.take (k + 1)))) w1 := by
        rw [HTK.out, Lib.byteCells_append, ← strCells_line]
        exact Or.inr hb1
      have HB2 := Lib.hid hb2
      have HBel2 := Lib.hid (HBel.out.trans hbel1)
      clear hb1 hb2 hbel1 hck
      go_wp2_with fail
      go_roundw
      case rel => exact ⟨k + 1, by omega, by go_num, HB2.out, HBel2.out⟩
      case measure => simp [intOf]; omega
    · have htake : ss.take k = ss := List.take_of_length_le (by rw [HN.out]; omega)
      have hb := HB.out
      rw [htake] at hb
      have hstr := Tryd.Builder_String_any w.heap.size w.heap.size (linesL ss) wr hb HBel.out.size
      have HS := Lib.hid hstr
      clear hb htake hstr
      go_wp2_with fail
      refine HS.out.mono ?_
      rintro e w1 ⟨rfl, hb1⟩
      have HB1 := Lib.hid (HBel.out.trans hb1)
      clear hb1
      go_wp2_with fail
      go_ret
      exact ⟨rfl, HB1.out⟩
set_option maxHeartbeats 1000000 in
theorem rlines_any (v : Value) (ss : List ByteArray) (w : World) (hv : StrRow w v ss) (hl : (linesL ss).length ≤ 4194304) :
    Calls Tryd.prog 10 #[v] w fun e w' => e = .returned (.string ⟨(linesL ss).toArray⟩) ∧ w = w' := by
  obtain ⟨A, cap, rfl, hcap, hmax, hcells⟩ := hv
  have HC := Lib.hid hcells
  have HL := Lib.hid hl
  clear hcells hl
  unfold maxLen at hmax
  obtain ⟨N, hN⟩ : ∃ N, ss.length = N := ⟨_, rfl⟩
  rw [hN] at hcap ⊢
  have HN := Lib.hid hN
  clear hN
  go_enter Tryd.func10, Tryd.ntmps10
  go_wp2
  go_loop [3, 4] (fun o i => ∃ (k : Nat) (t : ByteArray), k ≤ N ∧ i = .int .i64 k ∧ o = .string t ∧ Hid (t.data.toList = linesL (ss.take k))) (fun _ i => N - (intOf i).toNat)
  case atStart => exact ⟨0, _, Nat.zero_le _, rfl, rfl, rfl⟩
  case round =>
    obtain ⟨k, t, hk, rfl, rfl, HT⟩ := hrel
    by_cases hlt : k < N
    · have hkl : k < ss.length := by rw [HN.out]; exact hlt
      obtain ⟨s, hs⟩ : ∃ s, ss[k]? = some s := ⟨_, List.getElem?_eq_getElem hkl⟩
      obtain ⟨g, off, rfl, hg, hc⟩ := HC.out (by rintro rfl; simp at hkl)
      have hck := hc k s hs
      have htk := linesL_take hs
      have hle := linesL_le ss (k + 1)
      rw [htk] at hle
      simp only [List.length_append, List.length_singleton, size_data] at hle
      have hl4 := HL.out
      have htl : t.size = (linesL (ss.take k)).length := by rw [← HT.out, size_data]
      have hadd := run_string_add_sum (P := Tryd.prog) w s ⟨#[10]⟩ (by
        have : (⟨#[10]⟩ : ByteArray).size = 1 := rfl
        omega)
      have hadd2 := run_string_add_sum (P := Tryd.prog) w t (s ++ ⟨#[10]⟩) (by
        rw [size_line]
        omega)
      have HTK := Lib.hid htk
      clear hc hs hg htk hle hl4 htl
      go_wp2
      go_round
      case rel => exact ⟨k + 1, _, by omega, by go_num, rfl, by have h1 := HTK.out; have h2 := HT.out; show _ = _; rw [h1, ← h2]; simp⟩
      case measure => simp [intOf]; omega
    · have htake : ss.take k = ss := List.take_of_length_le (by rw [HN.out]; omega)
      have HT2 : Hid (t = ⟨(linesL ss).toArray⟩) := by
        have h := HT.out
        rw [htake] at h
        show t = _
        rw [← h]
      clear htake
      go_wp2
      go_ret
      exact ⟨by have h := HT2.out; subst h; rfl, rfl⟩
end Go.Proofs.YtknnimlbddgimaaDoor
