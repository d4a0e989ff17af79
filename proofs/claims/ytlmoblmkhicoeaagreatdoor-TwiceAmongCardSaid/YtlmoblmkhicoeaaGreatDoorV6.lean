/- Walks: Warn's closure. Conditions: how what it has captured lies. Plain: what Warn tells. No conditions. -/
import Derived.Test.YtlmoblmkhicoeaaGreatDoorV4
set_option linter.unusedVariables false
set_option linter.unusedSimpArgs false
namespace Go.Proofs.YtlmoblmkhicoeaaGreatDoor
open Go.RowKit
def seeF (F : Fn) (b op : Nat) (s : List Bool) (l : List Int) : List Sp := ((Lib.compact (sortL l)).filter (fun r => (behF ((blk F b).os.take op) s).getD r.toNat false)).map (fun r => ⟨b, op, r⟩)
/-- What the closure has captured, and what it has told. -/
structure SeW (wB : World) (gp gP gN gb gO b : Nat) (inb out : Value) (l : List Sp) (W : World) : Prop where
  pP : Blk W gP 61 #[.pointer (some ⟨gp, 0, none⟩)]
  pN : Blk W gN 66 #[inb]
  pb : Blk W gb 3 #[.int .i64 (b : Int)]
  pO : Blk W gO 31 #[out]
  ow : OwnS W wB.heap.size out l
  be : Below wB.heap.size wB W
  bO : wB.heap.size ≤ gO
theorem SeW.below {wB W W' : World} {gp gP gN gb gO b : Nat} {inb out : Value} {l : List Sp} (h : SeW wB gp gP gN gb gO b inb out l W) (hb : Below W.heap.size W W') : SeW wB gp gP gN gb gO b inb out l W' :=
  ⟨h.pP.below hb h.pP.lt, h.pN.below hb h.pN.lt, h.pb.below hb h.pb.lt, h.pO.below hb h.pO.lt, ownsRow_keeps h.ow (keeps_of_below (fun _ => False) hb) (fun _ _ => id), h.be.trans (below_of_le hb h.be.size), h.bO⟩
theorem OwnS.ge {W : World} {B : Nat} {v : Value} {l : List Sp} (h : OwnS W B v l) : ∀ g, v.ownBlock = some g → B ≤ g := by
  intro g hg
  rcases h.2 with ⟨rfl, _⟩ | ⟨g', cap, cur, rfl, hb, _⟩
  · cases hg
  · cases hg; exact hb
theorem OwnS.form {W : World} {B : Nat} {v : Value} {l : List Sp} (h : OwnS W B v l) : ∃ A c, v = .slice A l.length c ∧ l.length ≤ c ∧ c ≤ maxLen := slice_form h
/-- One spot more. -/
theorem SeW.push {wB W : World} {gp gP gN gb gO b : Nat} {inb out : Value} {l : List Sp} (h : SeW wB gp gP gN gb gO b inb out l W) (x : Sp) (hs : l.length < 5000000000000) (ty : TypeId) :
    ∃ A n c W1, (Builtin.append_ #[31, 31] ty #[out, .slice (some ⟨W.heap.size, 0, none⟩) 1 1]).run Tryz.prog (W.alloc (.cells #[.int .i64 (x.b : Int), .int .i64 (x.o : Int), .int .i64 x.r] 40)) = .ok (.slice A n c) W1 ∧
      (W1.cell? ⟨gO, 0, none⟩ = some out ∧ W1.frozen? ⟨gO, 0, none⟩ = false) ∧ SeW wB gp gP gN gb gO b inb (.slice A n c) (l ++ [x]) (W1.setCell ⟨gO, 0, none⟩ (.slice A n c)) ∧
      ∀ (t : TypeId) (q : Nat) (cs : Array Value), t ≠ 40 → t ≠ 31 → Blk W q t cs → Blk (W1.setCell ⟨gO, 0, none⟩ (.slice A n c)) q t cs := by
  obtain ⟨v', W1, e1, e2, e3⟩ := h.ow.push x h.be.size hs ty
  obtain ⟨A, c, rfl, -, -⟩ := e2.form
  have hk : ∀ {t : TypeId} {q : Nat} {cs : Array Value}, t ≠ 40 → Blk W q t cs → Blk W1 q t cs := by
    intro t q cs ht hq
    refine hq.keeps e3 (fun e => ?_)
    obtain ⟨cur, hc⟩ := owns_kind h.ow e
    exact ht (Blk.kind hq hc)
  have hO := hk (by decide) h.pO
  have hkc : Keeps (fun q => q = gO) W1 (W1.setCell ⟨gO, 0, none⟩ (.slice A (l ++ [x]).length c)) := (Keeps.refl (fun q => q = gO) W1).setCell (p := ⟨gO, 0, none⟩) (Or.inr rfl) _
  have hk2 : ∀ (t : TypeId) (q : Nat) (cs : Array Value), t ≠ 40 → t ≠ 31 → Blk W q t cs → Blk (W1.setCell ⟨gO, 0, none⟩ (.slice A (l ++ [x]).length c)) q t cs := by
    intro t q cs h1 h2 hq
    have := hk h1 hq
    exact this.keeps hkc (fun e => h2 (Blk.kind this (e ▸ hO)))
  have hb1 : Below wB.heap.size wB W1 := h.be.trans (e3.toBelow h.be.size (fun q hq e => by have := h.ow.ge q e; omega))
  refine ⟨A, _, c, W1, e1, ⟨(hO.cell 0).trans rfl, hO.frozen 0⟩, ⟨hk2 _ _ _ (by decide) (by decide) h.pP, hk2 _ _ _ (by decide) (by decide) h.pN, hk2 _ _ _ (by decide) (by decide) h.pb, hO.set_ 0 _, ?_, hb1.trans (hkc.toBelow hb1.size (fun q hq e => by have := h.bO; omega)), h.bO⟩, hk2⟩
  refine ownsRow_keeps e2 hkc (fun q hq e => ?_)
  obtain ⟨cur, hc⟩ := owns_kind e2 hq
  exact absurd (Blk.kind hO (e ▸ hc)) (by decide)
set_option maxRecDepth 100000 in
set_option maxHeartbeats 8000000 in
theorem see_any (wB : World) (gp : Nat) (F : Fn) (sv bv rv tov inv ouv : Value) (gP gN gb gO b op : Nat) (inb out lv : Value) (s : List Bool) (l : List Int) (ts : List Sp) (w : World) (hp : PassAt wB gp F sv bv rv tov inv ouv) (h : SeW wB gp gP gN gb gO b inb out ts w) (hb : b < F.bl.length) (hop : op ≤ (blk F b).os.length)
    (hs : Bools w inb s) (hsl : s.length = F.rs.toNat) (hl : Ints w lv l) (hlr : ∀ r ∈ l, 0 ≤ r ∧ r < F.rs) (hts : ts.length ≤ 4000000000000) (hll2 : l.length ≤ 2097152) :
    Calls Tryz.prog 19 #[.int .i64 (op : Int), lv, .pointer (some ⟨gP, 0, none⟩), .pointer (some ⟨gN, 0, none⟩), .pointer (some ⟨gb, 0, none⟩), .pointer (some ⟨gO, 0, none⟩)] w fun e w' => e = .returned (.tuple #[]) ∧ (∃ A n c, SeW wB gp gP gN gb gO b inb (.slice A n c) (ts ++ seeF F b op s l) w') ∧ ∀ (t : TypeId) (q : Nat) (cs : Array Value), t ≠ 40 → t ≠ 31 → Blk w q t cs → Blk w' q t cs := by
  have hr1 := hp.ok.r1
  have hr0 := hp.ok.rs0
  obtain ⟨R, hR⟩ : ∃ R, F.rs.toNat = R := ⟨_, rfl⟩
  rw [hR] at hsl
  have hRI : F.rs = (R : Int) := by omega
  have hRl : R ≤ 4096 := by omega
  have HBE := Lib.hid (behind_any gp F sv bv rv tov inv ouv inb s b op hb hop w (hp.below h.be) hs (by rw [hRI, hsl]))
  obtain ⟨Ai, ci, rfl, -, -⟩ := RowOf.form hs
  obtain ⟨Al, cl, rfl, -, -⟩ := hl.form
  have HLR := Lib.hid (show ∀ r ∈ Lib.compact (sortL l), 0 ≤ r ∧ r < (R : Int) from fun r hr => by
    have h1 := hlr r (sortL_mem.1 (mem_compact hr))
    rw [hRI] at h1
    exact h1)
  have hlen : (Lib.compact (sortL l)).length ≤ 2097152 := Nat.le_trans (Lib.compact_length_le _) (by rw [sortL_len]; exact hll2)
  have HBL := Lib.hid (show (behF ((blk F b).os.take op) s).length = R from by rw [behF_len, hsl])
  have HSF := Lib.hid (show seeF F b op s l = ((Lib.compact (sortL l)).filter (fun r => (behF ((blk F b).os.take op) s).getD r.toNat false)).map (fun r => ⟨b, op, r⟩) from rfl)
  obtain ⟨bs, hbs⟩ : ∃ bs, behF ((blk F b).os.take op) s = bs := ⟨_, rfl⟩
  rw [hbs] at HBE HBL HSF
  obtain ⟨ks, hks⟩ : ∃ ks, Lib.compact (sortL l) = ks := ⟨_, rfl⟩
  rw [hks] at HLR HSF hlen
  have HKS := Lib.hid hks
  have c2 : w.cell? ⟨gP, 0, none⟩ = some (.pointer (some ⟨gp, 0, none⟩)) := (h.pP.cell 0).trans rfl
  have c3 : w.cell? ⟨gN, 0, none⟩ = some (.slice Ai s.length ci) := (h.pN.cell 0).trans rfl
  have c4 : w.cell? ⟨gb, 0, none⟩ = some (.int .i64 (b : Int)) := (h.pb.cell 0).trans rfl
  have H0 := Lib.hid (And.intro h hl)
  clear h hl hs hp hbs hks hR hRI hr0 hr1 hlr hsl
  go_enter Tryz.func19, Tryz.ntmps19
  go_wp2_with fail
  refine HBE.out.mono ?_
  rintro e w1 ⟨⟨v1, rfl, ho1⟩, hb1⟩
  obtain ⟨A1, c1, rfl, -, -⟩ := ho1.form
  have H1 := Lib.hid (show OwnB w1 w.heap.size (.slice A1 bs.length c1) bs ∧ Below w.heap.size w w1 from ⟨ho1, hb1⟩)
  have HCI := Lib.hid (clone2_any l (.slice Al l.length cl) w1 (H0.out.2.below hb1) hll2)
  clear ho1 hb1 HBE c2 c3 c4
  go_wp2_with fail
  refine HCI.out.mono ?_
  rintro e w2 ⟨⟨v2, rfl, ho2⟩, hb2⟩
  have HSO := Lib.hid (sort2_any w1.heap.size v2 l w2 ho2 hll2)
  have H2 := Lib.hid (show Below w1.heap.size w1 w2 ∧ OwnI w2 w1.heap.size v2 l from ⟨hb2, ho2⟩)
  obtain ⟨A2, c2, rfl, -, -⟩ := ho2.form
  clear ho2 hb2 HCI
  go_wp2_with fail
  refine HSO.out.mono ?_
  rintro e w3 ⟨rfl, ho3, hk3⟩
  have hb3 : Below w1.heap.size w1 w3 := H2.out.1.trans (hk3.toBelow H2.out.1.size (fun q hq e => by have := H2.out.2.ge q e; omega))
  have HCO := Lib.hid (compact_any w1.heap.size (.slice A2 l.length c2) (sortL l) w3 ho3 (by rw [sortL_len]; exact hll2))
  rw [HKS.out] at HCO
  have H3 := Lib.hid (show Below w1.heap.size w1 w3 ∧ OwnI w3 w1.heap.size (.slice A2 l.length c2) (sortL l) from ⟨hb3, ho3⟩)
  clear ho3 hk3 hb3 HSO
  go_wp2_with fail
  refine HCO.out.mono ?_
  rintro e w4 ⟨⟨v4, rfl, ho4, -⟩, hk4⟩
  have hb4 : Below w1.heap.size w1 w4 := H3.out.1.trans (hk4.toBelow H3.out.1.size (fun q hq e => by have := H3.out.2.ge q e; omega))
  have hb40 : Below w.heap.size w w4 := H1.out.2.trans (below_of_le hb4 H1.out.2.size)
  obtain ⟨A4, c4, rfl, z1, z2⟩ := ho4.form
  unfold maxLen at z2
  have H4 := Lib.hid (show ∃ A n c, SeW wB gp gP gN gb gO b (.slice Ai s.length ci) (.slice A n c) (ts ++ ((ks.take 0).filter (fun r => bs.getD r.toNat false)).map (fun r => ⟨b, op, r⟩)) w4 ∧ OwnB w4 w.heap.size (.slice A1 bs.length c1) bs ∧ OwnI w4 w1.heap.size (.slice A4 ks.length c4) ks ∧ ∀ (t : TypeId) (q : Nat) (cs : Array Value), t ≠ 40 → t ≠ 31 → Blk w q t cs → Blk w4 q t cs from by
    have h5 := H0.out.1.below hb40
    obtain ⟨Ao, co, e, -, -⟩ := h5.ow.form
    subst e
    exact ⟨Ao, _, co, by simpa using h5, H1.out.1.below hb4, ho4, fun t q cs _ _ hq => hq.below hb40 hq.lt⟩)
  clear ho4 hk4 hb4 hb40 HCO H3 H2 H1 H0 HKS
  go_wp2_with fail
  go_loopw [23] (fun i wr => ∃ j : Nat, j ≤ ks.length ∧ i = .int .i64 j ∧ Hid (∃ A n c, SeW wB gp gP gN gb gO b (.slice Ai s.length ci) (.slice A n c) (ts ++ ((ks.take j).filter (fun r => bs.getD r.toNat false)).map (fun r => ⟨b, op, r⟩)) wr ∧ OwnB wr w.heap.size (.slice A1 bs.length c1) bs ∧ OwnI wr w1.heap.size (.slice A4 ks.length c4) ks ∧ ∀ (t : TypeId) (q : Nat) (cs : Array Value), t ≠ 40 → t ≠ 31 → Blk w q t cs → Blk wr q t cs)) (fun i _ => ks.length - (intOf i).toNat)
  case atStart => exact ⟨0, Nat.zero_le _, rfl, H4.out⟩
  case round =>
    clear H4
    obtain ⟨j, hj, rfl, HQ⟩ := hrel
    obtain ⟨A, n, c, q1, q2, q3, q4⟩ := HQ.out
    by_cases hjt : j < ks.length
    · obtain ⟨gk, ok, ck, ea, m1, m2, mg, mc⟩ := q3.ints.open_ (Nat.lt_of_le_of_lt (Nat.zero_le _) hjt)
      cases ea
      have x0 := mc j hjt
      have hkr := HLR.out ks[j] (List.getElem_mem hjt)
      have hfs := filt_step (q := fun r => bs.getD r.toNat false) hjt
      obtain ⟨r, hr⟩ : ∃ r : Nat, ks[j] = (r : Int) := ⟨ks[j].toNat, by omega⟩
      rw [hr] at x0 hkr hfs
      have hrR : r < bs.length := by rw [HBL.out]; omega
      obtain ⟨gs, cs, es, -, -, -, -, y1, y2⟩ := q2.open_ (by omega)
      cases es
      have x1 := y1 r hrR
      obtain ⟨bb, hbb⟩ : ∃ bb, bs[r] = bb := ⟨_, rfl⟩
      rw [hbb] at x1
      have e2 : bs.getD ((r : Int)).toNat false = bb := by
        rw [show ((r : Int)).toNat = r by omega]
        simp [hrR, hbb]
      have hlt5 : (((ks.take j).filter (fun r => bs.getD r.toNat false)).map (fun r => (⟨b, op, r⟩ : Sp))).length ≤ 2097152 := by
        rw [List.length_map]
        exact Nat.le_trans (List.length_filter_le _ _) (by rw [List.length_take]; omega)
      cases bb with
      | false =>
        have HN := Lib.hid (show ∃ A n c, SeW wB gp gP gN gb gO b (.slice Ai s.length ci) (.slice A n c) (ts ++ ((ks.take (j + 1)).filter (fun r => bs.getD r.toNat false)).map (fun r => ⟨b, op, r⟩)) wr ∧ OwnB wr w.heap.size (.slice (some ⟨gs, 0, none⟩) bs.length c1) bs ∧ OwnI wr w1.heap.size (.slice (some ⟨gk, ok, none⟩) ks.length c4) ks ∧ ∀ (t : TypeId) (q : Nat) (cs : Array Value), t ≠ 40 → t ≠ 31 → Blk w q t cs → Blk wr q t cs from
          ⟨A, n, c, by rw [hfs, e2, if_neg (by decide), List.append_nil]; exact q1, q2, q3, q4⟩)
        clear mc hr hfs hbb e2 y1 y2 q1 q2 q3 q4 HQ hlt5
        go_wp2_with fail
        go_roundw
        case rel => exact ⟨j + 1, by omega, by go_num, HN.out⟩
        case measure => simp [intOf]; omega
      | true =>
        obtain ⟨A7, n7, c7, W1, hap, ⟨d1, d2⟩, hse, hot⟩ := q1.push ⟨b, op, (r : Int)⟩ (by rw [List.length_append]; omega) 31
        have x5 : wr.cell? ⟨gO, 0, none⟩ = some (.slice A n c) := (q1.pO.cell 0).trans rfl
        have x4 : wr.cell? ⟨gb, 0, none⟩ = some (.int .i64 (b : Int)) := (q1.pb.cell 0).trans rfl
        have hkeepB : OwnB (W1.setCell ⟨gO, 0, none⟩ (.slice A7 n7 c7)) w.heap.size (.slice (some ⟨gs, 0, none⟩) bs.length c1) bs := by
          rcases q2.2 with ⟨e, _⟩ | ⟨g', cap', cur, e, t1, t2, t3⟩
          · cases e
          · exact ⟨q2.1, Or.inr ⟨g', cap', cur, e, t1, hot _ _ _ (by decide) (by decide) t2, t3⟩⟩
        have hkeepI : OwnI (W1.setCell ⟨gO, 0, none⟩ (.slice A7 n7 c7)) w1.heap.size (.slice (some ⟨gk, ok, none⟩) ks.length c4) ks := by
          rcases q3.2 with ⟨e, _⟩ | ⟨g', cap', cur, e, t1, t2, t3⟩
          · cases e
          · exact ⟨q3.1, Or.inr ⟨g', cap', cur, e, t1, hot _ _ _ (by decide) (by decide) t2, t3⟩⟩
        have HN := Lib.hid (show ∃ A n c, SeW wB gp gP gN gb gO b (.slice Ai s.length ci) (.slice A n c) (ts ++ ((ks.take (j + 1)).filter (fun r => bs.getD r.toNat false)).map (fun r => ⟨b, op, r⟩)) (W1.setCell ⟨gO, 0, none⟩ (.slice A7 n7 c7)) ∧ OwnB (W1.setCell ⟨gO, 0, none⟩ (.slice A7 n7 c7)) w.heap.size (.slice (some ⟨gs, 0, none⟩) bs.length c1) bs ∧ OwnI (W1.setCell ⟨gO, 0, none⟩ (.slice A7 n7 c7)) w1.heap.size (.slice (some ⟨gk, ok, none⟩) ks.length c4) ks ∧ ∀ (t : TypeId) (q : Nat) (cs : Array Value), t ≠ 40 → t ≠ 31 → Blk w q t cs → Blk (W1.setCell ⟨gO, 0, none⟩ (.slice A7 n7 c7)) q t cs from
          ⟨A7, n7, c7, by rw [hfs, e2, if_pos rfl, List.map_append, ← List.append_assoc]; exact hse, hkeepB, hkeepI, fun t q cs h1 h2 hq => hot t q cs h1 h2 (q4 t q cs h1 h2 hq)⟩)
        have HAP := Lib.hid hap
        clear mc hr hfs hbb e2 y1 y2 q1 q2 q3 q4 HQ hlt5 hap hse hot hkeepB hkeepI
        go_wp2_with (at_builtin; refine wpList_append_eq rfl (.tmp 31) (.tmp 36) 31 rfl rfl rfl HAP.out ?_)
        go_roundw
        case rel => exact ⟨j + 1, by omega, by go_num, HN.out⟩
        case measure => simp [intOf]; omega
    · have hje : j = ks.length := by omega
      subst hje
      have HN := Lib.hid (show (∃ A n c, SeW wB gp gP gN gb gO b (.slice Ai s.length ci) (.slice A n c) (ts ++ seeF F b op s l) wr) ∧ ∀ (t : TypeId) (q : Nat) (cs : Array Value), t ≠ 40 → t ≠ 31 → Blk w q t cs → Blk wr q t cs from by
        rw [List.take_length, ← HSF.out] at q1
        exact ⟨⟨A, n, c, q1⟩, q4⟩)
      clear q1 q2 q3 q4 HQ
      go_wp2_with fail
      go_end0
      exact ⟨rfl, HN.out⟩
end Go.Proofs.YtlmoblmkhicoeaaGreatDoor
namespace Go.Proofs.YtlmoblmkhicoeaaGreatDoor
open Go.RowKit
theorem compact_rising {l : List Int} (h : l.Pairwise (fun a b => a ≤ b)) : (Lib.compact l).Pairwise (fun a b => a < b) := by
  unfold Lib.compact Lib.compactUpTo
  rw [List.pairwise_map]
  have hr : (List.range l.length).Pairwise (· < ·) := List.pairwise_lt_range
  refine ((hr.filter _).imp_of_mem ?_)
  intro a b ha hb hab
  obtain ⟨ha1, -⟩ := List.mem_filter.1 ha
  obtain ⟨hb1, hb2⟩ := List.mem_filter.1 hb
  have hal := List.mem_range.1 ha1
  have hbl := List.mem_range.1 hb1
  have ea : l.toArray[a]! = l[a] := by simp [hal]
  have eb : l.toArray[b]! = l[b] := by simp [hbl]
  rw [ea, eb]
  have hk : l[b] ≠ l[b - 1]'(by omega) := by
    have e1 : l.toArray[b - 1]! = l[b - 1]'(by omega) := by simp [show b - 1 < l.length by omega]
    unfold Lib.keeps at hb2
    simp [show b ≠ 0 by omega, e1, eb] at hb2
    exact hb2
  have h1 : l[a] ≤ l[b - 1]'(by omega) := by
    rcases Nat.lt_or_ge a (b - 1) with h2 | h2
    · exact (List.pairwise_iff_getElem.1 h) a (b - 1) hal (by omega) h2
    · have : a = b - 1 := by omega
      subst this; exact Int.le_refl _
  have h2 : l[b - 1]'(by omega) ≤ l[b] := (List.pairwise_iff_getElem.1 h) (b - 1) b (by omega) hbl (by omega)
  omega
theorem rising_len (R : Nat) : ∀ (l : List Int) (a : Int), l.Pairwise (fun a b => a < b) → (∀ x ∈ l, a ≤ x ∧ x < (R : Int)) → 0 ≤ a → (l.length : Int) ≤ (R : Int) - a ∨ l = []
  | [], _, _, _, _ => Or.inr rfl
  | x :: l, a, h, hx, ha => by
    obtain ⟨h1, h2⟩ := List.pairwise_cons.1 h
    have hxa := hx x (List.mem_cons_self ..)
    rcases rising_len R l (x + 1) h2 (fun y hy => ⟨by have := h1 y hy; omega, (hx y (List.mem_cons_of_mem _ hy)).2⟩) (by omega) with h3 | h3
    · left; simp only [List.length_cons]; omega
    · subst h3; left; simp only [List.length_cons, List.length_nil]; omega
def opsN (F : Fn) (b : Nat) (s : List Bool) : Nat → List Sp
  | 0 => []
  | j + 1 => opsN F b s j ++ seeF F b j s (askL ((blk F b).os.getD j ⟨0, 0, 0, 0, 0, ⟨#[]⟩, []⟩))
def exiF (F : Fn) (b : Nat) (s : List Bool) : List Sp := if (blk F b).x.k = 3 then [] else seeF F b (blk F b).os.length s (exR (blk F b).x)
def warnN (F : Fn) : Nat → List Sp
  | 0 => []
  | k + 1 => if (rchL F).getD k false then warnN F k ++ opsN F k ((unL F).getD k []) (blk F k).os.length ++ exiF F k ((unL F).getD k []) else warnN F k
def warnL (F : Fn) : List Sp := warnN F F.bl.length
theorem seeF_len {F : Fn} (hF : FnOk F) (b op : Nat) (s : List Bool) {l : List Int} (hl : ∀ r ∈ l, 0 ≤ r ∧ r < F.rs) : (seeF F b op s l).length ≤ 4096 := by
  unfold seeF
  rw [List.length_map]
  refine Nat.le_trans (List.length_filter_le _ _) ?_
  have h1 := hF.r1
  have h0 := hF.rs0
  rcases rising_len F.rs.toNat (Lib.compact (sortL l)) 0 (compact_rising (sortL_sorted l)) (fun x hx => by have := hl x (sortL_mem.1 (mem_compact hx)); omega) (Int.le_refl _) with h2 | h2
  · omega
  · rw [h2]; simp
theorem askL_reg {regs sl st : Int} {o : Op} (h : opB regs sl st o = true) : ∀ r ∈ askL o, 0 ≤ r ∧ r < regs := by
  intro r hr
  unfold askL at hr
  split at hr
  · simp at hr
  · split at hr
    · rename_i h2
      rw [List.mem_singleton] at hr
      subst hr
      exact opB_a h (h2.elim (fun e => Or.inr (Or.inl e)) (fun e => Or.inr (Or.inr e)))
    · have h3 := reads_mem hr
      exact ⟨h3.2, (opB_parts h).1 r h3.1 h3.2⟩
theorem op_ok {F : Fn} (hF : FnOk F) {b j : Nat} (hj : j < (blk F b).os.length) : opB F.rs F.sl.length 4611686018427387904 (blk F b).os[j] = true := by
  rcases Nat.lt_or_ge b F.bl.length with hb | hb
  · have e := blk_at_ hb
    exact hF.op _ (List.getElem_mem hb) _ (by rw [← e]; exact List.getElem_mem hj)
  · have e : blk F b = bl0 := by simp [blk, hb]
    rw [e] at hj; simp [bl0] at hj
theorem os_getD {F : Fn} {b j : Nat} (hj : j < (blk F b).os.length) : (blk F b).os.getD j ⟨0, 0, 0, 0, 0, ⟨#[]⟩, []⟩ = (blk F b).os[j] := by simp [hj]
theorem opsN_len {F : Fn} (hF : FnOk F) (b : Nat) (s : List Bool) : ∀ j, j ≤ (blk F b).os.length → (opsN F b s j).length ≤ 4096 * j
  | 0, _ => Nat.le_refl _
  | j + 1, hj => by
    have ih := opsN_len hF b s j (by omega)
    rw [opsN, List.length_append, os_getD (by omega)]
    have := seeF_len hF b j s (askL_reg (op_ok hF (show j < (blk F b).os.length by omega)))
    omega
theorem exR_ok {F : Fn} (hF : FnOk F) (b : Nat) : ∀ r ∈ exR (blk F b).x, 0 ≤ r ∧ r < F.rs := (blk_ok hF b).1
theorem os_le {F : Fn} (hF : FnOk F) (b : Nat) : (blk F b).os.length ≤ 4096 := by
  rcases Nat.lt_or_ge b F.bl.length with hb | hb
  · rw [blk_at_ hb]; exact hF.ol _ (List.getElem_mem hb)
  · have e : blk F b = bl0 := by simp [blk, hb]
    rw [e]; simp [bl0]
theorem warnN_len {F : Fn} (hF : FnOk F) : ∀ k, (warnN F k).length ≤ 16781312 * k
  | 0 => Nat.le_refl _
  | k + 1 => by
    have ih := warnN_len hF k
    rw [warnN]
    split
    · rw [List.length_append, List.length_append]
      have h1 := opsN_len hF k ((unL F).getD k []) _ (Nat.le_refl _)
      have h2 := os_le hF k
      have h3 : (exiF F k ((unL F).getD k [])).length ≤ 4096 := by
        unfold exiF
        split
        · simp
        · exact seeF_len hF _ _ _ (exR_ok hF k)
      omega
    · omega
end Go.Proofs.YtlmoblmkhicoeaaGreatDoor
