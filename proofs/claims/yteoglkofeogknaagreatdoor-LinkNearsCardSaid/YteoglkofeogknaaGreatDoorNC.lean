/- LinkNears: the name at or ahead of any address is the document's: link_nears. No conditions. -/
import Derived.Test.YteoglkofeogknaaGreatDoorYW
import Derived.Test.YteoglkofeogknaaGreatDoorCards
import Derived.Test.YteoglkofeogknaaGreatDoorTie
import Derived.Test.YteoglkofeogknaaGreatDoorC0
import Derived.ProofKit
import Derived.OpenShut
import Derived.Deep.DeepHandedRow
import Derived.Lib.LaidTab
set_option linter.unusedVariables false
set_option linter.unusedSimpArgs false
namespace Go.Proofs.YteoglkofeogknaaGreatDoor
open Go.RowKit
theorem SyOf.rowOf {W : World} {v : Value} {xs : List Sy} (h : SyOf W v xs) : RowOf W v xs.length (xs.flatMap Sy.cells) := by
  obtain ⟨A, cap, e, h1, h2, h3⟩ := h
  refine ⟨A, cap, e, h1, h2, fun hn => ?_⟩
  obtain ⟨g, off, e2, hg, hc⟩ := h3 hn
  refine ⟨g, off, e2, hg, fun j u hj => ?_⟩
  have hjl : j < xs.length * 2 := by
    rcases Nat.lt_or_ge j (xs.flatMap Sy.cells).length with h | h
    · rw [flatMap_len Sy.cells 2 (fun _ => rfl)] at h; exact h
    · rw [List.getElem?_eq_none h] at hj; cases hj
  have hk : j / 2 < xs.length := by omega
  have hat := flatMap_at Sy.cells 2 (fun _ => rfl) xs (j / 2) hk (j % 2) (by omega)
  have ej : j / 2 * 2 + j % 2 = j := by omega
  rw [ej] at hat
  rw [hat] at hj
  obtain ⟨c0, c1⟩ := hc (j / 2) hk
  have ed : xs.getD (j / 2) default = xs[j / 2] := by simp [List.getD, hk]
  rw [ed] at c0 c1
  rcases (show j % 2 = 0 ∨ j % 2 = 1 by omega) with hm | hm
  · rw [hm] at hj ej
    have e3 : off + j = off + j / 2 * 2 := by omega
    rw [e3, c0]
    exact hj
  · rw [hm] at hj ej
    have e3 : off + j = off + j / 2 * 2 + 1 := by omega
    rw [e3, c1]
    exact hj
theorem SyOf.below {W W' : World} {v : Value} {xs : List Sy} (h : SyOf W v xs) (hb : Below W.heap.size W W') : SyOf W' v xs := by
  obtain ⟨A, cap, e, h1, h2, h3⟩ := h
  refine ⟨A, cap, e, h1, h2, fun hn => ?_⟩
  obtain ⟨g, off, e2, hg, hc⟩ := h3 hn
  exact ⟨g, off, e2, Nat.lt_of_lt_of_le hg hb.size, fun k hk => ⟨(hb.cell (p := ⟨g, off + k * 2, none⟩) hg).trans (hc k hk).1, (hb.cell (p := ⟨g, off + k * 2 + 1, none⟩) hg).trans (hc k hk).2⟩⟩
theorem OwnY.syof {W : World} {B : Nat} {v : Value} {xs : List Sy} (h : OwnY W B v xs) : SyOf W v xs := by
  obtain ⟨A, cap, e, h1, h2, h3⟩ := RowOf.own h
  refine ⟨A, cap, e, h1, h2, fun hn => ?_⟩
  obtain ⟨g, off, e2, hg, hc⟩ := h3 hn
  refine ⟨g, off, e2, hg, fun k hk => ?_⟩
  have ed : xs.getD k default = xs[k] := by simp [List.getD, hk]
  rw [ed]
  have a0 := flatMap_at Sy.cells 2 (fun _ => rfl) xs k hk 0 (by omega)
  have a1 := flatMap_at Sy.cells 2 (fun _ => rfl) xs k hk 1 (by omega)
  exact ⟨hc (k * 2) _ (by rw [Nat.add_zero] at a0; rw [a0]; rfl), by rw [Nat.add_assoc]; exact hc (k * 2 + 1) _ (by rw [a1]; rfl)⟩
set_option maxRecDepth 100000 in
set_option maxHeartbeats 1000000 in
theorem nears_any (v : Value) (l : List Sy) (a : Int) (w : World) (h : SyOf w v l) (ho : OpsAt w) (h0 : 0 < w.heap.size) (hl : l.length ≤ 5864062014634) :
    Calls Tryz.prog 3 #[v, .int .i64 a] w fun e w' => e = .returned (.bool true) ∧ Below w.heap.size w w' := by
  have hbs : ∀ w, (Instr.buildSlice 22 0 #[]).run Tryz.prog w = .ok (.slice (some ⟨w.heap.size, 0, none⟩) 0 0) (w.alloc (.cells #[] 55)) := fun _ => by kernel_rfl
  obtain ⟨v', w2, hap, hown, hg, hb⟩ := app_any arowY 22 (empty_own (w := w) 55 2) (RowOf.alloc h.rowOf (.cells #[] 55)) (by rw [flatMap_len Sy.cells 2 (fun _ => rfl)]) (by
    intro y hy
    obtain ⟨x, _, hx⟩ := List.mem_flatMap.1 hy
    simp [Sy.cells] at hx
    rcases hx with rfl | rfl <;> rfl) (by unfold maxLen; omega) (by omega) (by simp)
  rw [Nat.zero_add, List.nil_append] at hown
  have hb2 : Below w.heap.size w w2 := ((Below.refl _ _).alloc (Nat.le_refl _) _).grown hg (by simp) (fun k hk => by simp [Value.ownBlock] at hk; omega)
  have HB2 := Lib.hid hb2
  have HAP := Lib.hid hap
  have HSY := Lib.hid h
  have HOY : Hid (OwnY w2 w.heap.size v' l) := Lib.hid hown
  have HO := Lib.hid ho
  obtain ⟨A, cap, rfl, _, _, _⟩ := h
  clear hown hg hb hap hb2 ho
  go_enter Tryz.func3, Tryz.ntmps3
  go_wp2_with (at_builtin; refine wpList_append_eq rfl (.tmp 12) (.tmp 13) 22 rfl rfl rfl HAP.out ?_)
  refine (near_any v' l a w2 HOY.out.syof).mono ?_
  rintro e w3 ⟨rfl, hb3⟩
  obtain ⟨⟨n1, n2, n3⟩, hn⟩ : ∃ r, nearR l a = r := ⟨_, rfl⟩
  have HN := Lib.hid hn
  have hb03 := HB2.out.trans (hb3.mono HB2.out.size)
  have HB3 := Lib.hid hb03
  rw [hn]
  unfold nearV
  dsimp only
  clear hb3 hb03 hn
  go_wp2_with fail
  refine (near2_any _ l a w3 (HSY.out.below HB3.out)).mono ?_
  rintro e w4 ⟨rfl, hb4⟩
  have hb04 := HB3.out.trans (hb4.mono HB3.out.size)
  have HB4 := Lib.hid hb04
  have HW := Lib.hid (works_any w4 (HO.out.below h0 hb04) (Nat.lt_of_lt_of_le h0 hb04.size))
  rw [HN.out]
  unfold nearV
  dsimp only
  clear hb4 hb04
  go_wp2_with fail
  refine HW.out.mono ?_
  rintro e w5 ⟨rfl, hb5⟩
  have HB5 := Lib.hid (HB4.out.trans (hb5.mono HB4.out.size))
  clear hb5
  go_wp2_with fail
  go_ret
  exact ⟨by rfl, HB5.out⟩
end Go.Proofs.YteoglkofeogknaaGreatDoor
namespace Go.Proofs.YteoglkofeogknaaGreatDoor
open Go.ChangeShapes Go.WideShapes Go.ChangeAt Go.RowKit
theorem own : ownKnob Tryz.prog.godebug = none := by kernel_rfl
theorem laidOut : laidOutB Tryz.prog = true := by kernel_rfl
theorem gOps : Tryz.prog.globalNamed "catapult/asm.operations" = some 0 := by kernel_rfl
theorem gOpsType : (Tryz.prog.globals[0]?).map (·.type) = some 150 := by kernel_rfl
theorem cellsOps : Tryz.prog.cellsOf 150 = 42 := by kernel_rfl
section
variable {H : Type} {enc : TypeId × Value → H} {P : Program}
theorem below_trodAll (hl : laidOutB P = true) {W W' : World} (hb : Below W.heap.size W W') :
    ∀ {ts : List TypeId} {vs : List Value} {ds : List (DataW H)} {ps : List MemPlace}, (∀ t ∈ ts, P.readableRec t = true ∧ t < P.types.size) →
      DataW.TrodAll enc P W 0 (fun _ => true) true ts vs ds ps → (∀ x ∈ ps, x.block < W.heap.size) →
      DataW.TrodAll enc P W' 0 (fun b => decide (b < W.heap.size)) true ts vs ds ps
  | [], [], [], _, _, h, _ => h
  | _ :: _, _ :: _, _ :: _, _, hT, ⟨p, q, h1, h2, e⟩, hs =>
    ⟨p, q, Below.trod hl (hT _ (List.mem_cons.2 (Or.inl rfl))).1 (hT _ (List.mem_cons.2 (Or.inl rfl))).2 h1 hb (fun x hx => hs x (by rw [e]; exact List.mem_append_left _ hx)),
      below_trodAll hl hb (fun t ht => hT t (List.mem_cons.2 (Or.inr ht))) h2 (fun x hx => hs x (by rw [e]; exact List.mem_append_right _ hx)), e⟩
theorem trodAll_length {W : World} {b : Nat} {sp : Nat → Bool} {hd : Bool} : ∀ {ts : List TypeId} {vs : List Value} {ds : List (DataW H)} {ps : List MemPlace},
    DataW.TrodAll enc P W b sp hd ts vs ds ps → ds.length = ts.length
  | [], [], [], _, _ => rfl
  | _ :: _, _ :: _, _ :: _, _, ⟨_, _, _, h2, _⟩ => by simp [trodAll_length h2]
theorem post_law {f : Func} {s : ChangeSpec} {W W' : World} {args : Array Value} {ds gs : List (DataW H)} {before : List MemPlace} {tb : TypeId}
    (hl : laidOutB P = true) (hr : ∀ t ∈ f.params.toList, P.readableRec t = true ∧ t < P.types.size)
    (hres : f.resultTypes = #[tb]) (hub : P.underlying tb = some .bool) (hvars : s.vars = [])
    (hspec : ∀ es : List (DataW H), es.length = f.params.toList.length → s.fn H (es ++ []) = { results := [.lit (.bool true)], args := es })
    (hW : DataW.Whole enc P f.params.toList s.vars false W args.toList ds gs before) (hb : Below W.heap.size W W') :
    s.post enc P f false true false false W args (.bool true) W' := by
  have hW' := hW
  obtain ⟨p, q, hA, hV, rfl, _, _⟩ := hW
  rw [hvars] at hV
  obtain ⟨rfl, rfl⟩ := trodVars_none hV
  have hsp := hspec ds (trodAll_length hA)
  refine ⟨ds, [], p ++ [], [], p, [], hW', ?_, ?_, ?_, hb.frame _, fun h => by cases h⟩
  · rw [hsp, hres]
    exact trodAll_cons_mk (shut_bool hub _) trodAll_mk0
  · rw [hsp]
    exact below_trodAll hl hb hr hA (fun x hx => hW'.lt x (List.mem_append_left _ hx))
  · rw [hsp, hvars]
    exact rfl
/-- An array of strings that reads as a table holds the table's strings. -/
theorem cells_of_strs {w : World} {base : Nat} {sp : Nat → Bool} {held : Bool} {fuel : Nat} {t e : TypeId} {n : Nat} {cs : List Value} {zs : List ByteArray} {p : List MemPlace}
    (ht : P.underlying t = some (.array n e)) (he : P.underlying e = some .string) (hce : P.cellsOf e = 1) (hct : P.cellsOf t = n)
    (h : DataW.trod enc P w base sp held fuel t cs = some (.agg (zs.map fun z => .lit (.string z.data.toList)), p)) : cs = zs.map Value.string := by
  cases fuel with
  | zero => simp [DataW.trod] at h
  | succ fuel =>
    simp only [DataW.trod, ht, hce, hct, Nat.mul_one] at h
    split at h
    · rename_i hl
      obtain ⟨xs, hm, hx⟩ := Option.map_eq_some_iff.1 h
      have hxs : xs.map (·.1) = zs.map fun z => (DataW.lit (.string z.data.toList) : DataW H) := by
        have := congrArg Prod.fst hx
        simpa using this
      have hxl : xs.length = n := by simpa using Lib.mapM_length hm
      have hzl : zs.length = n := by
        have := congrArg List.length hxs
        simp at this
        omega
      apply List.ext_getElem?
      intro i
      by_cases hi : i < n
      · obtain ⟨b, hb, hf⟩ := Lib.mapM_at hm i i (by simp [hi])
        obtain ⟨z, hc, rfl, _⟩ := DataW.trod_string he hf
        have h1 : cs[i]? = some (.string z) := by
          have := congrArg (·[0]?) hc
          simpa [List.getElem?_take, List.getElem?_drop] using this
        have h2 : (xs.map (·.1))[i]? = some (DataW.lit (.string z.data.toList) : DataW H) := by simp [hb]
        rw [hxs] at h2
        simp only [List.getElem?_map, Option.map_eq_some_iff, DataW.lit.injEq, Lit.string.injEq] at h2
        obtain ⟨z', hz', hzz⟩ := h2
        have : z' = z := by
          apply ByteArray.ext
          exact Array.toList_inj.1 hzz
        subst this
        simp [h1, hz']
      · rw [List.getElem?_eq_none (by omega), List.getElem?_eq_none (by simp; omega)]
    · cases h
end
/-- What the row's list gives: the table's cells hold its words. -/
theorem ops_at {W : World} (h : laidMetH Tryz.prog Rows.linkNearsRow.laid W) : OpsAt W := by
  have h' : laidMet Tryz.prog [("unicode/utf8.acceptRanges", Rows.laid_unicode_utf8_acceptRanges), ("catapult/asm.operations", Rows.laid_catapult_asm_operations), ("unicode/utf8.first", Rows.laid_unicode_utf8_first)] W := h
  obtain ⟨ps, ⟨_, _, _, _, _, q, _, _, _, _, ⟨g', t', cs, fuel, p, _, hg', ht', hvar, hd, _, _⟩, _⟩, _⟩ := h'
  obtain rfl := Option.some.inj (gOps.symm.trans hg')
  obtain rfl := Option.some.inj (gOpsType.symm.trans ht')
  have hcs := cells_of_strs (zs := opsL) Tryz.underlying150 Tryz.underlying9 cells_string cellsOps hd
  intro j hj
  have := World.var?_cell gOps hvar j
  rw [Nat.zero_add, this]
  have h2 : cs[j]? = cs.toList[j]? := by simp
  rw [h2, hcs, List.getElem?_map, List.getElem?_eq_getElem hj]
  simp [List.getD, hj]
theorem ops_lt {W : World} (h : OpsAt W) : 0 < W.heap.size := cell_lt (h 0 (by decide))
theorem readableP : ∀ t ∈ Tryz.f3.params.toList, Tryz.prog.readableRec t = true ∧ t < Tryz.prog.types.size := by
  rw [Tryz.params3]
  intro t ht
  rcases List.mem_cons.1 ht with rfl | ht
  · exact ⟨by kernel_rfl, of_decide_eq_true (by kernel_rfl)⟩
  rcases List.mem_cons.1 ht with rfl | ht
  · exact ⟨by kernel_rfl, of_decide_eq_true (by kernel_rfl)⟩
  cases ht
theorem two_list {α : Type} {l : List α} (h : l.length = 2) : ∃ a b, l = [a, b] := by
  match l, h with
  | [a, b], _ => exact ⟨a, b, rfl⟩
theorem cells_sy : Tryz.prog.cellsOf 55 = 2 := by kernel_rfl
set_option maxRecDepth 100000 in
theorem bytes_sy : Tryz.prog.bytesOf 55 = 24 := by kernel_rfl
section
variable {H : Type} {enc : TypeId × Value → H} {W : World}
theorem sy_of {n : Nat} {cs : List Value} {y : DataW H × List MemPlace} (h : DataW.trod enc Tryz.prog W 0 (fun _ => true) true n 55 cs = some y) : ∃ x : Sy, cs = x.cells ∧ 1 ≤ Rows.uptoBulk y.1 ∧ True := by
  obtain ⟨xs, m, _, _, hl, hx, hf⟩ := DataW.trod_struct Tryz.underlying55 h
  rw [cells_sy] at hl
  obtain ⟨a, b, rfl⟩ := two_list hl
  have hxl : xs.length = 2 := by rw [hx]; rfl
  have f0 : DataW.trod enc Tryz.prog W 0 (fun _ => true) true m 9 (([a, b].drop 0).take (Tryz.prog.cellsOf 9)) = xs[0]? := hf 0 _ rfl
  have f1 : DataW.trod enc Tryz.prog W 0 (fun _ => true) true m 3 (([a, b].drop 1).take (Tryz.prog.cellsOf 3)) = xs[1]? := hf 1 _ rfl
  rw [List.getElem?_eq_getElem (by omega)] at f0 f1
  rw [cells_string] at f0
  rw [cells_int] at f1
  obtain ⟨s, q0, _, hs⟩ := DataW.trod_string Tryz.underlying9 f0
  obtain ⟨x1, q1, _, _⟩ := DataW.trod_int Tryz.underlying3 f1
  simp at q0 q1
  subst q0 q1
  exact ⟨⟨s, x1⟩, rfl, bulk_pos _, trivial⟩
theorem syof_row {v : Value} {xs : List Sy} (h : RowOf W v xs.length (xs.flatMap Sy.cells)) : SyOf W v xs := by
  obtain ⟨A, cap, e, h1, h2, h3⟩ := h
  refine ⟨A, cap, e, h1, h2, fun hn => ?_⟩
  obtain ⟨g, off, e2, hg, hc⟩ := h3 hn
  refine ⟨g, off, e2, hg, fun k hk => ?_⟩
  have ed : xs.getD k default = xs[k] := by simp [List.getD, hk]
  rw [ed]
  have a0 := flatMap_at Sy.cells 2 (fun _ => rfl) xs k hk 0 (by omega)
  have a1 := flatMap_at Sy.cells 2 (fun _ => rfl) xs k hk 1 (by omega)
  exact ⟨hc (k * 2) _ (by rw [Nat.add_zero] at a0; rw [a0]; rfl), by rw [Nat.add_assoc]; exact hc (k * 2 + 1) _ (by rw [a1]; rfl)⟩
end
/-- How long a slice of symbols is that the first form lets in. -/
theorem sy_reach {H : Type} {enc : TypeId × Value → H} {W : World} {fuel : Nat} {A : Option Addr} {len cap : Nat} {x : DataW H × List MemPlace} {ds : List (DataW H)}
    (h : DataW.trod enc Tryz.prog W 0 (fun _ => true) true fuel 22 [.slice A len cap] = some x) (hd : ds[0]? = some x.1)
    (hz : (DataW.weightsEach Tryz.prog [22, 3] ds).all (· ≤ reachBytes) = true) : len * 24 ≤ reachBytes := by
  rcases DataW.trod_slice Tryz.underlying22 h with ⟨hcs, hx⟩ | ⟨a, len', cap', elems, rest, n, _, hcs, hx, _, hl, hm, hlen, hel, _, _⟩
  · simp at hcs
    rw [hcs.2.1]
    simp
  · simp at hcs
    obtain ⟨_, rfl, _⟩ := hcs
    rw [hx] at hd
    have h1 := sized_slice hz (j := 0) rfl hd Tryz.underlying22
    rw [bytes_sy] at h1
    simp at h1
    have h2 : len * 24 ≤ (elems.length + rest.length) * 24 := Nat.mul_le_mul_right _ (by omega)
    first | omega | exact Nat.le_trans h2 (by simpa using h1)
set_option maxRecDepth 100000 in
/-- What the walk gives, for every argument and every world that holds the table. -/
theorem contract (H : Type) (enc : TypeId × Value → H) (W : World) (base : Nat) (args : Array Value) (ds gs : List (DataW H)) (before : List MemPlace)
    (hval : ∀ (j : Nat) t v, Tryz.f3.params[j]? = some t → args[j]? = some v → Value.okWide Tryz.prog W .any base t v)
    (hW : DataW.Whole enc Tryz.prog Tryz.f3.params.toList Rows.linkNearsSpec.vars false W args.toList ds gs before) (hL : laidMetH Tryz.prog Rows.linkNearsRow.laid W)
    (hz : (DataW.weightsEach Tryz.prog (Tryz.f3.params.toList ++ (OpenSpec.ofChange Rows.linkNearsSpec).bare.plain.varTypes Tryz.prog) (ds ++ gs)).all (· ≤ reachBytes) = true) :
    Calls Tryz.prog 3 args W fun e W' => ∃ v, e = .returned v ∧ Rows.linkNearsSpec.post enc Tryz.prog Tryz.f3 false true false false W args v W' := by
  have hW' := hW
  obtain ⟨p, q, hA0, hV, rfl, hfz, hnd⟩ := hW
  have hA : DataW.TrodAll enc Tryz.prog W 0 (fun _ => true) true Tryz.f3.params.toList args.toList ds p := hA0
  rw [Tryz.params3] at hA hval hz
  obtain ⟨v0, v1, d0, d1, p0, p1, hargs, rfl, rfl, h0, h1⟩ := trodAll_two hA
  obtain rfl : args = #[v0, v1] := by cases args; simp_all
  obtain ⟨rfl, rfl⟩ := trodVars_none hV
  obtain ⟨a0, len, cap, rfl⟩ := okWide_slice Tryz.underlying22 (hval 0 22 v0 rfl rfl)
  obtain ⟨fuel, hf⟩ := h0
  obtain ⟨fuel1, hf1⟩ := h1
  obtain ⟨xs, hrow, _, _⟩ := row_in Sy.cells (fun _ => 1) (fun _ => True) Tryz.underlying22 cells_sy (by decide) (fun _ => rfl) sy_of hf
  obtain ⟨n, rfl⟩ := okWide_int Tryz.underlying3 (hval 1 3 v1 rfl rfl)
  have hlen : len = xs.length := by
    obtain ⟨_, _, e, _⟩ := hrow
    injection e
  have hre := sy_reach (ds := [d0, d1]) hf rfl hz
  have hO := ops_at hL
  refine (nears_any _ xs n W (syof_row hrow) hO (ops_lt hO) (by rw [← hlen]; unfold reachBytes at hre; omega)).mono fun e W' ⟨he, hbel⟩ => ?_
  subst he
  exact ⟨_, rfl, post_law laidOut readableP (tb := 4) (by kernel_rfl) Tryz.underlying4 rfl (fun es hes => by
    rw [Tryz.params3] at hes
    match es, hes with
    | [_, _], _ => rfl) hW' hbel⟩
/-- A block's cells laid anew. -/
def layCells (cs : Array Value) : Obj → Obj
  | .cells _ t frozen => .cells cs t frozen
  | o => o
/-- A world for the witness: the settled one, the three tables holding what is listed. -/
noncomputable def laidWorld (os : Os) : World :=
  { World.holding Tryz.prog os ⟨#[], #[], []⟩ with heap := (((World.holding Tryz.prog os ⟨#[], #[], []⟩).heap.modify 0 (layCells (opsL.map Value.string).toArray)).modify 2 (layCells (Pinned.utf8FirstZ.map fun (z : Nat) => Value.int .u8 (Int.ofNat z)).toArray)).modify 3 (layCells #[.int .u8 128, .int .u8 191, .int .u8 160, .int .u8 191, .int .u8 128, .int .u8 159, .int .u8 144, .int .u8 191, .int .u8 128, .int .u8 143, .int .u8 0, .int .u8 0, .int .u8 0, .int .u8 0, .int .u8 0, .int .u8 0, .int .u8 0, .int .u8 0, .int .u8 0, .int .u8 0, .int .u8 0, .int .u8 0, .int .u8 0, .int .u8 0, .int .u8 0, .int .u8 0, .int .u8 0, .int .u8 0, .int .u8 0, .int .u8 0, .int .u8 0, .int .u8 0]) }
set_option maxRecDepth 100000 in
theorem laid_met (os : Os) : laidMet Tryz.prog Rows.linkNearsRow.laid ((laidWorld os).forCall (fun _ _ => 0) ⟨#[], #[.slice none 0 0, .int .i64 0], []⟩).memory :=
  laidMet_of_run' 8 (by kernel_rfl) (by kernel_rfl)
theorem reads (os : Os) {H : Type} (enc : TypeId × Value → H) : ∃ places, DataW.whole enc Tryz.prog ((laidWorld os).forCall (fun _ _ => 0) ⟨#[], #[.slice none 0 0, .int .i64 0], []⟩).memory Tryz.f3.params.toList Rows.linkNearsSpec.vars false #[Value.slice none 0 0, Value.int .i64 0].toList 8 = some ([.nil, .lit (.int .i64 0)], [], places) :=
  ⟨[], by kernel_rfl⟩
set_option maxRecDepth 100000 in
theorem lifted (os : Os) (started : os.Started) (H : Type) (enc : TypeId × Value → H) (F : Stop.Interp) :
    ReturnsInHanded {} Tryz.checked os 3 .any ((OpenSpec.ofChange Rows.linkNearsSpec).preRow enc Tryz.prog Tryz.f3 Rows.linkNearsRow.domain false Rows.linkNearsRow.laid) (((OpenSpec.ofChange Rows.linkNearsSpec).at F).post enc Tryz.prog Tryz.f3 false true false false) := by
  obtain ⟨places, hx⟩ := reads os enc
  refine returnsInHanded_of_row (C := Tryz.checked) (s := OpenSpec.ofChange Rows.linkNearsSpec) own started (by kernel_rfl) Tryz.func3
    (witness_row_at (enc := enc) (C := Tryz.checked) false (laidWorld os) #[.slice none 0 0, .int .i64 0] rfl (by kernel_rfl) (by kernel_rfl) (by kernel_rfl)
      (OpenSpec.preRow_of_cond 8 hx (by kernel_rfl) (fun k hk => by cases hk) (by kernel_rfl) (laid_met os))) ?_
  intro W base args ds gs before hval hW _ _ hz hL _ _
  exact contract H enc W base args ds gs before hval hW hL hz
theorem said : Rows.LinkNearsSaid :=
  OpenClaim.holds_of_cond 3 Tryz.f3 rfl rfl rfl rfl rfl rfl rfl ⟨rfl, rfl, rfl, rfl, rfl⟩ rfl rfl rfl rfl rfl (by kernel_rfl) Tryz.func3 (by kernel_rfl)
    (of_decide_eq_true (by kernel_rfl)) (by unfold Func.isWrapper; first | (rw [if_pos (by decide +kernel)]; kernel_rfl) | (rw [if_neg (by decide +kernel)]; exact ⟨rfl, rfl⟩))
    (fun os started H enc _ F => by rw [OpenClaim.pre_eq_preRow]; exact lifted os started H enc F)
theorem plain (f : FuncId) (fn : Func) (hf : Tryz.pinned.checked.prog.funcNamed "catapult/catapultlaw06.LinkNears" = some f) (hfn : Tryz.pinned.checked.prog.funcs[f]? = some fn) :
    false = Tryz.pinned.checked.prog.looks [] ∧ ∀ (j : Nat) t, fn.params[j]? = some t → Tryz.pinned.checked.prog.wantsStandIn t = false := by
  obtain rfl : f = 3 := Option.some.inj ((show Tryz.prog.funcNamed "catapult/catapultlaw06.LinkNears" = some 3 by kernel_rfl).symm.trans hf) |>.symm
  obtain rfl : fn = Tryz.f3 := (Option.some.inj (Tryz.func3.symm.trans hfn)).symm
  refine ⟨by kernel_rfl, fun j t ht => ?_⟩
  rw [Tryz.params3] at ht
  have hm := Array.mem_of_getElem? ht
  simp at hm
  rcases hm with rfl | rfl
  · exact (show Tryz.prog.wantsStandIn 22 = false by kernel_rfl)
  · exact (show Tryz.prog.wantsStandIn 3 = false by kernel_rfl)
theorem link_nears : Rows.LinkNearsCardSaid :=
  Claim7.holds_tied_plain_at .later [] _ _ _ _ said (fun _ h => by cases h) (by kernel_rfl) (fun _ h => by cases h) linkNears_row_tie rfl ⟨rfl, rfl⟩ (by kernel_rfl) rfl plain (by kernel_rfl)
#print axioms link_nears
end Go.Proofs.YteoglkofeogknaaGreatDoor
