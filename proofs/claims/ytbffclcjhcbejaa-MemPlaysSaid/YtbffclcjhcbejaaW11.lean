/- Walks: slices.Clone at pointers, Changed's closure, slices.SortFunc there. No conditions beyond what each theorem states. -/
import Derived.Test.YtbffclcjhcbejaaW10
import Derived.Test.YtbffclcjhcbejaaShelf
namespace Go.Proofs.Ytbffclcjhcbejaa
open Go.RowKit Go.Sort Go.Shelf

theorem oneCell_ptrs (l : List Area) : ∀ v ∈ l.map (fun a => ptrV a.b), v.oneCell' = true := by
  intro v hv
  obtain ⟨x, _, rfl⟩ := List.mem_map.1 hv
  rfl
set_option maxHeartbeats 1000000 in
theorem cloneP (v : Value) (ms : List Area) (w : World) (hown0 : w.ownsRow 0 63 1 v ms.length (ms.map fun a => ptrV a.b)) (hl : ms.length ≤ 16) :
    Calls Try.prog 28 #[v] w fun e w' => ∃ v', e = .returned v' ∧ w'.ownsRow w.heap.size 63 1 v' ms.length (ms.map fun a => ptrV a.b) ∧ Below w.heap.size w w' := by
  rcases hown0.2 with ⟨rfl, h0⟩ | ⟨gl, cap, cur, rfl, _, hrow, hcap, hcapm, hcs, htake⟩
  · obtain rfl : ms = [] := List.length_eq_zero_iff.1 h0
    have hnn := fun w => Lib.run_eql_slice_nil (P := Try.prog) w 60 63 none 0 0 0 0 Try.underlying60
    go_enter Try.func28, Try.ntmps28
    go_wp2
    go_ret
    exact ⟨_, rfl, World.ownsRow_nil _ _ _ _, Below.refl _ _⟩
  · obtain ⟨i0, hi, hz0, hz1, hz2⟩ := info_parts info63f
    have hown : (w.alloc (.cells #[] 63)).ownsRow w.heap.size 63 1 (.slice (some ⟨w.heap.size, 0, none⟩) 0 0) 0 [] :=
      ⟨rfl, Or.inr ⟨w.heap.size, 0, #[], rfl, Nat.le_refl _, heap_alloc_new w _, Nat.le_refl _, Nat.zero_le _, rfl, rfl⟩⟩
    obtain ⟨v', w2, hap, ho, hg, _⟩ := run_append_own (P := Try.prog) (w.alloc (.cells #[] 63)) w.heap.size 60 60 63 i0 (.pointer none) 1 8 Try.underlying60 hi hz0 hz1 hz2 rfl (by decide) _ 0 [] hown ⟨gl, 0, none⟩ ms.length cap (ms.map fun a => ptrV a.b) (by simp)
      (fun j u hj => by have := hown0.cells (g := gl) rfl j u hj; rw [World.cell?_alloc_lt _ _ _ (cell_lt this)]; exact this) (oneCell_ptrs _) (by unfold maxLen; omega) (by omega) (by simp)
    have hbs : ∀ w, (Instr.buildSlice 60 0 #[]).run Try.prog w = .ok (.slice (some ⟨w.heap.size, 0, none⟩) 0 0) (w.alloc (.cells #[] 63)) := fun _ => by kernel_rfl
    rw [Nat.zero_add, List.nil_append] at ho
    have hbel : Below w.heap.size w w2 := ((Below.refl _ _).alloc (Nat.le_refl _) _).grown hg (by simp) (fun k hk => by simp [Value.ownBlock] at hk; omega)
    have HO := Lib.hid ho
    have HB := Lib.hid hbel
    have hnn := fun w => Lib.run_eql_slice_nil (P := Try.prog) w 60 63 (some ⟨gl, 0, none⟩) ms.length cap 0 0 Try.underlying60
    have HAP := Lib.hid hap
    clear ho hg hbel hown hi hz0 hz1 hz2 hap hown0 hrow htake hcs
    go_enter Try.func28, Try.ntmps28
    go_wp2_with (at_builtin; refine wpList_append_eq rfl (.tmp 5) (.tmp 6) 60 rfl rfl rfl HAP.out ?_)
    go_ret
    exact ⟨v', rfl, HO.out, HB.out⟩
theorem closure30 (a b : Nat) (x y : Int) (W : World) (hx : W.cell? ⟨a, 1, none⟩ = some (.int .i64 x)) (hy : W.cell? ⟨b, 1, none⟩ = some (.int .i64 y)) (h0 : 0 ≤ x) (h1 : x ≤ 4294967296) (h2 : 0 ≤ y) (h3 : y ≤ 4294967296) :
    Calls Try.prog 30 #[ptrV a, ptrV b] W fun e w' => e = .returned (.int .i64 (x - y)) ∧ ∃ q, w' = W.drewN q := by
  unfold ptrV
  go_enter Try.func30, Try.ntmps30
  go_wp2
  go_quiet (fail)
  go_wp2
  go_ret
  exact ⟨rfl, _, rfl⟩

section
variable {α : Type} [Inhabited α] (enc : α → Value) {w : World} {g n : Nat} {os : Array Obj}
theorem heap_sortedE {cur : Array Value} {e : TypeId} {fr : Nat × Nat} (d : Array α) (hb : w.heap[g]? = some (.cells cur e fr)) :
    (sortWorld enc w g 0 n d os).heap[g]? = some (.cells (putCells enc 0 d cur) e fr) := by
  have hg : g < w.heap.size := (Array.getElem?_eq_some_iff.1 hb).1
  unfold sortWorld
  rw [heap_grow_old _ _ (by simpa using hg)]
  simp [putRow, mapBlock, Sort.ahead, Array.getElem?_modify, hb, onCells]
theorem keeps_sortedE (d : Array α) : Keeps (· = g) w (sortWorld enc w g 0 n d os) := by
  refine ⟨rfl, rfl, rfl, by simp [sortWorld], fun k hk hne => ?_⟩
  unfold sortWorld
  rw [heap_grow_old _ _ (by simpa using hk)]
  have : g ≠ k := fun e => hne e.symm
  simp [putRow, mapBlock, Sort.ahead, Array.getElem?_modify, this]
theorem take_putCellsE (cur : Array Value) (ts : Array α) (h : ts.size ≤ cur.size) : (putCells enc 0 ts cur).toList.take ts.size = ts.toList.map enc := by
  apply List.ext_getElem?
  intro j
  by_cases hj : j < ts.size
  · rw [List.getElem?_take_of_lt hj, Array.getElem?_toList]
    simp [putCells, hj, show j < cur.size by omega]
  · rw [List.getElem?_take_eq_none (by omega), List.getElem?_eq_none (by simp; omega)]
end
/-- Sorted by where the ranges begin. -/
def sortedA (ms : List Area) : Prop := ms.Pairwise fun a b => a.r.fr ≤ b.r.fr
theorem area_b {w : World} {a : Area} (h : AreaAt w a) : w.cell? ⟨a.b, 1, none⟩ = some (.int .i64 a.r.fr) := by rw [h.blk.cell]; rfl
theorem swoA {α : Type} (f : α → Int) : SWO (ltOf fun x y => f x - f y) where
  irrefl x := by unfold ltOf; simp
  trans x y z h1 h2 := by unfold ltOf at *; simp at *; omega
  ntrans x y z h1 h2 := by unfold ltOf at *; simp at *; omega
theorem sortP_none (A : Option Addr) (cap : Nat) (w : World) : Calls Try.prog 29 #[.slice A 0 cap, .func (.func 30) #[] #[]] w fun e w' => e = .returned (.tuple #[]) ∧ w' = w :=
  AnyF.slices_SortFunc_none { Try.sortL with } A cap _ w
theorem sortP {B : Nat} (v : Value) (ms : List Area) (w : World) (hA : ∀ a ∈ ms, AreaAt w a) (hown : w.ownsRow B 63 1 v ms.length (ms.map fun a => ptrV a.b)) (hl : ms.length ≤ 16) :
    Calls Try.prog 29 #[v, .func (.func 30) #[] #[]] w fun e w' => e = .returned (.tuple #[]) ∧ ∃ ms', ms'.Perm ms ∧ sortedA ms' ∧ w'.ownsRow B 63 1 v ms.length (ms'.map fun a => ptrV a.b) ∧ Keeps (fun g => v.ownBlock = some g) w w' := by
  by_cases hne : ms = []
  · subst hne
    obtain ⟨A, cap, rfl⟩ : ∃ A cap, v = .slice A 0 cap := by
      rcases hown.2 with ⟨rfl, _⟩ | ⟨g, cap, cur, rfl, _⟩
      · exact ⟨_, _, rfl⟩
      · exact ⟨_, _, rfl⟩
    refine (sortP_none A cap w).mono ?_
    rintro e w' ⟨rfl, rfl⟩
    exact ⟨rfl, [], List.Perm.refl _, List.Pairwise.nil, hown, Keeps.refl _ _⟩
  · have hpos : 0 < ms.length := List.length_pos_iff.2 hne
    rcases hown.2 with ⟨_, h0⟩ | ⟨g, cap, cur, rfl, hbase, hrow, hcap, hcapm, hcs, htake⟩
    · omega
    let α := { a : Area // a ∈ ms }
    have inst : Inhabited α := ⟨⟨ms[0], List.getElem_mem hpos⟩⟩
    let enc : α → Value := fun x => ptrV x.1.b
    let fr : α → Int := fun x => x.1.r.fr
    have hgl : g < w.heap.size := Blk.lt (t := 63) hrow
    have hgb : ∀ x : α, x.1.b ≠ g := fun x => (hA x.1 x.2).blk.ne_ (t' := 63) hrow (by decide)
    have hd : (ms.attach.toArray : Array α).size = ms.length := by simp
    have hH : Holds enc w g 0 (ms.attach.toArray : Array α) := by
      intro j hj
      rw [hd] at hj
      refine ⟨?_, ?_⟩
      · rw [Nat.zero_add, hown.cellAt j (by omega)]
        have h1 : (ms.attach.toArray : Array α)[j]! = ⟨ms[j], List.getElem_mem hj⟩ := by
          rw [getElem!_pos _ j (by rw [hd]; exact hj)]
          simp
        rw [h1, List.getElem?_map, List.getElem?_eq_getElem hj]
        rfl
      · rw [Nat.zero_add]
        exact hown.frozenAt j
    have hcmp : CmpReads Try.prog 30 #[] enc (fun x y => fr x - fr y) g 0 (ms.attach.toArray : Array α).size w := by
      intro m os dk hs x y
      have hk := keeps_sortedE enc (w := w) (g := g) (n := m) (os := os) dk
      have hx := (hA x.1 x.2)
      have hy := (hA y.1 y.2)
      have e : (#[enc x, enc y] ++ #[] : Array Value) = #[ptrV x.1.b, ptrV y.1.b] := rfl
      rw [e]
      exact closure30 x.1.b y.1.b _ _ _ ((hk.cell (p := ⟨x.1.b, 1, none⟩) hx.blk.lt (hgb x)).trans (area_b hx)) ((hk.cell (p := ⟨y.1.b, 1, none⟩) hy.blk.lt (hgb y)).trans (area_b hy))
        (by have := hx.ok.f0; show 0 ≤ x.1.r.fr; omega) hx.ok.f1 (by have := hy.ok.f0; show 0 ≤ y.1.r.fr; omega) hy.ok.f1
    have eg : ∀ args w, (callFunc 30 args).run Try.prog w = .ok (.enter 30 args) w := enters_of Try.func30 (by kernel_rfl) rfl
    have hcon := Any.slices_SortFunc Try.sortL enc (fun _ => rfl) (fun x y => fr x - fr y) (swoA fr) 30 #[] g 0 cap (ms.attach.toArray : Array α) w eg hcmp.lays hH hgl (by rw [hd]; omega)
    rw [hd] at hcon
    refine Calls.mono (f := 29) hcon ?_
    rintro e w' ⟨rfl, d', n, os, ⟨hsz, _, hperm⟩, hsorted, rfl⟩
    rw [hd] at hsz
    have hd' : d'.toList.length = ms.length := by simpa using hsz
    refine ⟨rfl, d'.toList.map (fun x : α => x.1), ?_, ?_, ?_, ?_⟩
    · have h1 : (d'.extract 0 ms.length).toList = d'.toList := by simp [← hsz]
      have h2 : ((ms.attach.toArray : Array α).extract 0 ms.length).toList = ms.attach := by
        simp
        exact List.take_of_length_le (by simp)
      rw [h1, h2] at hperm
      have h3 := hperm.map (fun x : α => x.1)
      rwa [List.attach_map_subtype_val] at h3
    · unfold sortedA
      rw [List.pairwise_map, List.pairwise_iff_getElem]
      intro i j hi hj hij
      have h1 := hsorted i j (Nat.zero_le _) hij (by simpa [hsz] using hj)
      have hi2 : i < d'.size := by simpa using hi
      have hj2 : j < d'.size := by simpa using hj
      rw [getElem!_pos d' i hi2, getElem!_pos d' j hj2] at h1
      unfold ltOf at h1
      simp [fr] at h1
      simpa using h1
    · refine ⟨by simp [hsz], Or.inr ⟨g, cap, _, rfl, hbase, heap_sortedE enc d' hrow, hcap, hcapm, by simp [putCells, hcs], ?_⟩⟩
      rw [Nat.mul_one, ← hsz, take_putCellsE enc cur d' (by omega)]
      simp [enc]
    · exact (keeps_sortedE enc d').mono (fun i _ e => by rw [e]; rfl)
end Go.Proofs.Ytbffclcjhcbejaa
