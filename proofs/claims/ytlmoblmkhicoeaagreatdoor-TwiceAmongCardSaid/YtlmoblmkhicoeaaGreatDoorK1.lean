/- Walks: flow's set: list. Conditions: math/bits' table. Cards, what both have: the tables as the row lays them, the row's own parts. Conditions: what the reading gives. -/
import Derived.Test.YtlmoblmkhicoeaaGreatDoorF3
import Derived.Test.YtlmoblmkhicoeaaGreatDoorP2
import Derived.Test.YtlmoblmkhicoeaaGreatDoorShelf2
import Derived.Test.YtlmoblmkhicoeaaGreatDoorKC
set_option linter.unusedVariables false
set_option linter.unusedSimpArgs false
namespace Go.Proofs.YtlmoblmkhicoeaaGreatDoor
open Go.RowKit
def TzAt (w : World) : Prop := TabAt 0 Lib.deBruijn64tab w
theorem TzAt.keeps {w w' : World} {F : Nat → Prop} (h : TzAt w) (hk : Keeps F w w') (hF : ¬ F 0) : TzAt w' := fun j hj => (hk.cell (p := ⟨0, j, none⟩) (cell_lt (h j hj)) hF).trans (h j hj)
theorem TzAt.below {w w' : World} (h : TzAt w) (hb : Below w.heap.size w w') : TzAt w' := h.keeps (keeps_of_below (fun _ => False) hb) id
theorem and_nat (a b : Nat) (ha : a < 2 ^ 64) (hb : b < 2 ^ 64) : bits .and .u64 (a : Int) (b : Int) = ((a &&& b : Nat) : Int) := u64_and_nat a b (by simpa using ha) (by simpa using hb)
set_option maxRecDepth 100000 in
set_option maxHeartbeats 2000000 in
theorem list_any (g : Nat) (ws : List Nat) (most : Nat) (w : World) (hs : SetAt w g ws most) (hm : most ≤ 4096) (ht : TzAt w) :
    Calls Tryz.prog 30 #[.pointer (some ⟨g, 0, none⟩)] w fun e w' => (∃ v, e = .returned v ∧ OwnI w' w.heap.size v (listW ws ((most + 63) / 64))) ∧ Below w.heap.size w w' := by
  have c64 := hs.top
  have HS := Lib.hid hs
  have HT := Lib.hid ht
  clear hs ht
  have hq : ((most : Int) + 63) / 64 = ((most + 63) / 64 : Nat) := by omega
  have hN : (most + 63) / 64 ≤ 64 := by omega
  obtain ⟨N, hNe⟩ : ∃ N, (most + 63) / 64 = N := ⟨_, rfl⟩
  rw [hNe] at hq hN ⊢
  clear hNe
  go_enter Tryz.func30, Tryz.ntmps30
  go_wp2
  rw [hq]
  clear hq
  go_loopw [12, 3] (fun i ov wr => ∃ k : Nat, k ≤ N ∧ i = .int .i64 k ∧ Hid (OwnI wr w.heap.size ov (listW ws k) ∧ Below w.heap.size w wr)) (fun i _ _ => N - (intOf i).toNat)
  case atStart => exact ⟨0, Nat.zero_le _, rfl, OwnI.nil _ _, Below.refl _ _⟩
  case round =>
    obtain ⟨k, hk, rfl, HW⟩ := hrel
    by_cases hlt : k < N
    · have hk64 : k < 64 := by omega
      obtain ⟨x, hx, hx2, c0⟩ := (HS.out.below HW.out.2).val k hk64
      have HSU := Lib.hid (show listW ws (k + 1) = listW ws k ++ memW k x by rw [listW_succ, hx])
      have HLL := Lib.hid (show (listW ws (k + 1)).length ≤ 4096 from Nat.le_trans (listW_len HS.out.hi (k + 1)) (by omega))
      have HX := Lib.hid hx2
      clear hx hx2
      go_wp2
      go_loopw [5, 3] (fun xv ov wr => ∃ y : Nat, xv = .int .u64 (y : Int) ∧ Hid (y < 2 ^ 64) ∧ ∃ l, Hid (OwnI wr w.heap.size ov l ∧ Below w.heap.size w wr) ∧ Hid (l ++ memW k y = listW ws (k + 1))) (fun xv _ _ => (intOf xv).toNat)
      case atStart => exact ⟨x, rfl, HX.out, _, HW.out, HSU.out.symm⟩
      case round =>
        clear HW
        obtain ⟨y, rfl, HY, l, HW, HL⟩ := hrel
        by_cases h0 : y = 0
        · have HE := Lib.hid (show l = listW ws (k + 1) by rw [← HL.out, h0, memW_zero, List.append_nil])
          subst h0
          go_wp2
          go_roundw
          case rel => exact ⟨k + 1, by omega, by go_num, by rw [← HE.out]; exact HW.out⟩
          case measure => simp [intOf]; omega
        · have HM := memW_pos (i := k) h0
          have hl2 : (l ++ [((k : Int) * 64 + (Lib.ctz 64 y : Int))]).length ≤ 4096 := by
            have h1 := HLL.out
            rw [← HL.out, HM] at h1
            simp at h1 ⊢
            omega
          have hc := (ctz_bit h0 HY.out).2
          have HTZ := Lib.hid (fun W (h : Below w.heap.size w W) => Tryz.bits_TrailingZeros64 y (by simpa using HY.out) W (fun _ => HT.out.below h))
          obtain ⟨z, hz⟩ : ∃ z, Lib.ctz 64 y = z := ⟨_, rfl⟩
          rw [hz] at HTZ HM hl2 hc
          obtain ⟨v', w3, hap, how, hkp⟩ := HW.out.1.push HW.out.2.size (by rw [List.length_append] at hl2; simp at hl2; omega) ((k : Int) * 64 + (z : Int)) 34
          have HAP3 := Lib.hid hap
          have HW3 := Lib.hid (show OwnI w3 w.heap.size v' (l ++ [((k : Int) * 64 + (z : Int))]) ∧ Below w.heap.size w w3 from ⟨how, HW.out.2.trans (HW.out.1.keepsB hkp HW.out.2.size)⟩)
          have HL3 := Lib.hid (show (l ++ [((k : Int) * 64 + (z : Int))]) ++ memW k (y &&& (y - 1)) = listW ws (k + 1) by rw [← HL.out, HM]; simp)
          have HY3 := Lib.hid (Nat.lt_trans (and_pred_lt h0) HY.out)
          have HAN := Lib.hid (and_nat y (y - 1) HY.out (by have := HY.out; omega))
          have HBE := Lib.hid HW.out.2
          have hy1 : ((y : Int) == 0) = false := by simp; omega
          have hy2 : ((y : Int) != 0) = true := by simp; omega
          have hy3 : (y : Int) - 1 = ((y - 1 : Nat) : Int) := by omega
          have hy4 : IntKind.u64.wrap ((y : Int) - 1) = ((y - 1 : Nat) : Int) := by
            have := HY.out
            rw [IntKind.wrap_u64]; omega
          clear hap how hkp hz HM hl2 HL HSU HLL HY hy3
          go_wp2_with fail
          refine (HTZ.out _ HBE.out).mono ?_
          rintro e w4 ⟨rfl, rfl⟩
          go_wp2_with (at_builtin; refine wpList_append_eq rfl (.tmp 27) (.tmp 33) 34 rfl rfl rfl HAP3.out ?_)
          go_roundw
          case rel => exact ⟨y &&& (y - 1), by rw [HAN.out], HY3.out, _, HW3.out, HL3.out⟩
          case measure =>
            have := and_pred_lt h0
            simp [HAN.out, intOf]
            omega
    · have hke : k = N := by omega
      subst hke
      go_wp2
      go_ret
      exact ⟨⟨_, rfl, HW.out.1⟩, HW.out.2⟩
end Go.Proofs.YtlmoblmkhicoeaaGreatDoor
namespace Go.Proofs.YtlmoblmkhicoeaaGreatDoor
open Go.ChangeShapes Go.WideShapes Go.ChangeAt Go.RowKit
theorem own : ownKnob Tryz.prog.godebug = none := by kernel_rfl
theorem laidOut : laidOutB Tryz.prog = true := by kernel_rfl
theorem gKeys : Tryz.prog.globalNamed "catapult/lex.keys" = some 1 := by kernel_rfl
theorem gKeysType : (Tryz.prog.globals[1]?).map (·.type) = some 174 := by kernel_rfl
theorem cellsKeys : Tryz.prog.cellsOf 174 = 20 := by kernel_rfl
theorem gTz : Tryz.prog.globalNamed "math/bits.deBruijn64tab" = some 0 := by kernel_rfl
theorem gTzType : (Tryz.prog.globals[0]?).map (·.type) = some 138 := by kernel_rfl
theorem cellsTz : Tryz.prog.cellsOf 138 = 64 := by kernel_rfl
theorem cells_u8 : Tryz.prog.cellsOf 5 = 1 := by kernel_rfl
section
variable {H : Type} {enc : TypeId × Value → H} {P : Program}
theorem below_trodAll (hl : laidOutB P = true) {W W' : World} (hb : Below W.heap.size W W') :
    ∀ {ts : List TypeId} {vs : List Value} {ds : List (DataW H)} {ps : List MemPlace}, (∀ t ∈ ts, P.readableRec t = true ∧ t < P.types.size) →
      DataW.TrodAll enc P W 0 (fun _ => true) true ts vs ds ps → (∀ x ∈ ps, x.block < W.heap.size) →
      DataW.TrodAll enc P W' 0 (fun b => decide (b < W.heap.size)) true ts vs ds ps
  | [], [], [], _, _, h, _ => h
  | _ :: _, _ :: _, _ :: _, _, hT, ⟨p, q, h1, h2, e⟩, hs =>
    ⟨p, q, Below.trod hl (hT _ (List.mem_cons.2 (Or.inl rfl))).1 (hT _ (List.mem_cons.2 (Or.inl rfl))).2 h1 hb (fun x hx => hs x (by rw [e]; exact List.mem_append_left _ hx)),
      below_trodAll hl hb (fun t ht => hT t (List.mem_cons.2 (Or.inr ht))) h2 (fun x hx => hs x (by rw [e]; exact List.mem_append_right _ hx)), e⟩
theorem trodAll_length {W : World} {b : Nat} {sp : Nat → Bool} {hd : Bool} : ∀ {ts : List TypeId} {vs : List Value} {ds : List (DataW H)} {ps : List MemPlace},
    DataW.TrodAll enc P W b sp hd ts vs ds ps → ds.length = ts.length
  | [], [], [], _, _ => rfl
  | _ :: _, _ :: _, _ :: _, _, ⟨_, _, _, h2, _⟩ => by simp [trodAll_length h2]
theorem post_law {f : Func} {s : ChangeSpec} {W W' : World} {args : Array Value} {ds gs : List (DataW H)} {before : List MemPlace} {tb : TypeId}
    (hl : laidOutB P = true) (hr : ∀ t ∈ f.params.toList, P.readableRec t = true ∧ t < P.types.size)
    (hres : f.resultTypes = #[tb]) (hub : P.underlying tb = some .bool) (hvars : s.vars = [])
    (hspec : ∀ es : List (DataW H), es.length = f.params.toList.length → s.fn H (es ++ []) = { results := [.lit (.bool true)], args := es })
    (hW : DataW.Whole enc P f.params.toList s.vars false W args.toList ds gs before) (hb : Below W.heap.size W W') :
    s.post enc P f false true false false W args (.bool true) W' := by
  have hW' := hW
  obtain ⟨p, q, hA, hV, rfl, _, _⟩ := hW
  rw [hvars] at hV
  obtain ⟨rfl, rfl⟩ := trodVars_none hV
  have hsp := hspec ds (trodAll_length hA)
  refine ⟨ds, [], p ++ [], [], p, [], hW', ?_, ?_, ?_, hb.frame _, fun h => by cases h⟩
  · rw [hsp, hres]
    exact trodAll_cons_mk (shut_bool hub _) trodAll_mk0
  · rw [hsp]
    exact below_trodAll hl hb hr hA (fun x hx => hW'.lt x (List.mem_append_left _ hx))
  · rw [hsp, hvars]
    exact rfl
/-- An array of strings that reads as a table holds the table's strings. -/
theorem cells_of_strs {w : World} {base : Nat} {sp : Nat → Bool} {held : Bool} {fuel : Nat} {t e : TypeId} {n : Nat} {cs : List Value} {zs : List ByteArray} {p : List MemPlace}
    (ht : P.underlying t = some (.array n e)) (he : P.underlying e = some .string) (hce : P.cellsOf e = 1) (hct : P.cellsOf t = n)
    (h : DataW.trod enc P w base sp held fuel t cs = some (.agg (zs.map fun z => .lit (.string z.data.toList)), p)) : cs = zs.map Value.string := by
  cases fuel with
  | zero => simp [DataW.trod] at h
  | succ fuel =>
    simp only [DataW.trod, ht, hce, hct, Nat.mul_one] at h
    split at h
    · rename_i hl
      obtain ⟨xs, hm, hx⟩ := Option.map_eq_some_iff.1 h
      have hxs : xs.map (·.1) = zs.map fun z => (DataW.lit (.string z.data.toList) : DataW H) := by
        have := congrArg Prod.fst hx
        simpa using this
      have hxl : xs.length = n := by simpa using Lib.mapM_length hm
      have hzl : zs.length = n := by
        have := congrArg List.length hxs
        simp at this
        omega
      apply List.ext_getElem?
      intro i
      by_cases hi : i < n
      · obtain ⟨b, hb, hf⟩ := Lib.mapM_at hm i i (by simp [hi])
        obtain ⟨z, hc, rfl, _⟩ := DataW.trod_string he hf
        have h1 : cs[i]? = some (.string z) := by
          have := congrArg (·[0]?) hc
          simpa [List.getElem?_take, List.getElem?_drop] using this
        have h2 : (xs.map (·.1))[i]? = some (DataW.lit (.string z.data.toList) : DataW H) := by simp [hb]
        rw [hxs] at h2
        simp only [List.getElem?_map, Option.map_eq_some_iff, DataW.lit.injEq, Lit.string.injEq] at h2
        obtain ⟨z', hz', hzz⟩ := h2
        have : z' = z := by
          apply ByteArray.ext
          exact Array.toList_inj.1 hzz
        subst this
        simp [h1, hz']
      · rw [List.getElem?_eq_none (by omega), List.getElem?_eq_none (by simp; omega)]
    · cases h
end
/-- What the row's list gives: the tables' cells hold what is listed. -/
theorem tabs_at {W : World} (h : laidMet Tryz.prog [("math/bits.deBruijn64tab", Rows.laid_math_bits_deBruijn64tab), ("catapult/lex.keys", Rows.laid_catapult_lex_keys)] W) : KeysAt W ∧ TzAt W := by
  obtain ⟨ps, ⟨g0, t0, cs0, fuel0, p0, _, hg0, ht0, hvar0, hd0, ⟨g', t', cs, fuel, p, _, hg', ht', hvar, hd, _, _⟩, _⟩, _⟩ := h
  obtain rfl := Option.some.inj (gKeys.symm.trans hg')
  obtain rfl := Option.some.inj (gKeysType.symm.trans ht')
  obtain rfl := Option.some.inj (gTz.symm.trans hg0)
  obtain rfl := Option.some.inj (gTzType.symm.trans ht0)
  have hcs := cells_of_strs (zs := keysL) Tryz.underlying174 Tryz.underlying9 cells_string cellsKeys hd
  have hcs0 := Lib.cells_of_tab (k := .u8) (zs := Lib.deBruijn64tab.map (fun n : Nat => (n : Int))) Tryz.underlying138 Tryz.underlying5 cells_u8 cellsTz hd0
  refine ⟨fun j hj => ?_, fun j hj => ?_⟩
  · have := World.var?_cell gKeys hvar j
    rw [Nat.zero_add, this]
    have h2 : cs[j]? = cs.toList[j]? := by simp
    rw [h2, hcs, List.getElem?_map, List.getElem?_eq_getElem hj]
    simp [List.getD, hj]
  · have := World.var?_cell gTz hvar0 j
    rw [this]
    have h2 : cs0[j]? = cs0.toList[j]? := by simp
    rw [h2, hcs0, List.getElem?_map, List.getElem?_map, List.getElem?_eq_getElem hj]
    simp [List.getD, hj]
/-- A block's cells laid anew. -/
def layCells (cs : Array Value) : Obj → Obj
  | .cells _ t frozen => .cells cs t frozen
  | o => o
/-- A world for the witness: the settled one, the tables holding what is listed. -/
noncomputable def laidWorld (os : Os) : World :=
  { World.holding Tryz.prog os ⟨#[], #[], []⟩ with heap := (((World.holding Tryz.prog os ⟨#[], #[], []⟩).heap.modify 1 (layCells (keysL.map Value.string).toArray)).modify 0 (layCells (Lib.deBruijn64tab.map fun (z : Nat) => Value.int .u8 (Int.ofNat z)).toArray)) }
def arg0 : Value := .agg #[.string ByteArray.empty, .int .i64 0, .int .i64 0, .slice none 0 0, .slice none 0 0]
set_option maxRecDepth 100000 in
theorem laid_met (os : Os) : laidMet Tryz.prog [("math/bits.deBruijn64tab", Rows.laid_math_bits_deBruijn64tab), ("catapult/lex.keys", Rows.laid_catapult_lex_keys)] ((laidWorld os).forCall (fun _ _ => 0) ⟨#[], #[arg0], []⟩).memory :=
  laidMet_of_run' 8 (by kernel_rfl) (by kernel_rfl)
set_option maxRecDepth 100000 in
/-- The one argument: a function that lies, within the form's reach. -/
theorem arg_in {H : Type} {enc : TypeId × Value → H} {W : World} {base : Nat} {args : Array Value} {ds : List (DataW H)} {p : List MemPlace}
    (hval : ∀ v, args[0]? = some v → Value.okWide Tryz.prog W .any base 25 v)
    (hA : DataW.TrodAll enc Tryz.prog W 0 (fun _ => true) true [25] args.toList ds p)
    (hz : ∀ d, ds[0]? = some d → In d 25) : ∃ F sv bv, args = #[fnv F sv bv] ∧ SlsAt W sv F.sl ∧ BlsAt W bv F.bl ∧ Small F := by
  obtain ⟨v0, d0, rfl, rfl, h0⟩ := trodAll_one hA
  obtain ⟨cs, rfl, hsz⟩ := okWide_struct Tryz.underlying25 (hval v0 rfl)
  obtain ⟨fuel0, hf0⟩ := h0
  have hf1 : DataW.trod enc Tryz.prog W 0 (fun _ => true) true fuel0 25 cs.toList = some (d0, p) := hf0
  obtain ⟨F, sv, bv, hcs, h1, h2, h3⟩ := fn_in hf1 (hz d0 rfl)
  obtain rfl : cs = fnA F sv bv := Array.toList_inj.1 hcs
  exact ⟨F, sv, bv, rfl, h1, h2, h3⟩
end Go.Proofs.YtlmoblmkhicoeaaGreatDoor
