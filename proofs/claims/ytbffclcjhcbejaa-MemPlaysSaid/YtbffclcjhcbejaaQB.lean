/- Walks over the document's memory: Read, Store, Fill. Conditions: RefAt, and what the types grant. -/
import Derived.Test.YtbffclcjhcbejaaQA
import Derived.Laws.BytesArg
import Derived.StillTailTactics
namespace Go.Proofs.Ytbffclcjhcbejaa
open Go.RowKit
/-- A slice of bytes reads as these, wherever it lies. -/
def BSl (w : World) (v : Value) (xs : List Int) : Prop :=
  ∃ A cap, v = .slice A xs.length cap ∧ xs.length ≤ cap ∧ cap ≤ maxLen ∧ isBytes xs ∧ (xs ≠ [] → ∃ b off, A = some ⟨b, off, none⟩ ∧ b < w.heap.size ∧ ∀ i, i < xs.length → w.cell? ⟨b, off + i, none⟩ = some (.int .u8 (xs.getD i 0)))
theorem BSl.below {w w' : World} {v : Value} {xs : List Int} (h : BSl w v xs) (hb : Below w.heap.size w w') : BSl w' v xs := by
  obtain ⟨A, cap, rfl, h1, h2, h3, h4⟩ := h
  refine ⟨A, cap, rfl, h1, h2, h3, fun hne => ?_⟩
  obtain ⟨b, off, rfl, hlt, hc⟩ := h4 hne
  exact ⟨b, off, rfl, Nat.lt_of_lt_of_le hlt hb.size, fun i hi => (hb.cell (p := ⟨b, off + i, none⟩) hlt).trans (hc i hi)⟩
theorem BRow.sl {w : World} {v : Value} {xs : List Int} (h : BRow w v xs) (hx : isBytes xs) : BSl w v xs := by
  have hh := h
  obtain ⟨A, cap, rfl, h1, h2, h3⟩ := h
  refine ⟨A, cap, rfl, h1, h2, hx, fun hne => ?_⟩
  obtain ⟨g, cur, rfl, hb, hs, ht⟩ := h3 hne
  refine ⟨g, 0, rfl, hb.lt, fun i hi => ?_⟩
  rw [Nat.zero_add, hb.cell, row_get ht i hi]
  simp [List.getD, hi]
theorem owns_sl {w : World} {B : Nat} {v : Value} {xs : List Int} (h : w.ownsRow B 5 1 v xs.length (xs.map (Value.int .u8))) (hx : isBytes xs) : BSl w v xs := (brow_of_owns h).1.sl hx
theorem ownsRow_lower {w : World} {B B' : Nat} {e : TypeId} {size : Nat} {v : Value} {n : Nat} {xs : List Value} (h : w.ownsRow B e size v n xs) (hb : B' ≤ B) : w.ownsRow B' e size v n xs := by
  refine ⟨h.1, h.2.imp id ?_⟩
  rintro ⟨g, cap, cur, h1, h2, h3⟩
  exact ⟨g, cap, cur, h1, Nat.le_trans hb h2, h3⟩
theorem append_none (w : World) (g c : Nat) (ty : TypeId) : (Builtin.append_ #[33, 33] ty #[.slice (some ⟨g, 0, none⟩) 0 0, .slice none 0 c]).run Try.prog w = .ok (.slice (some ⟨g, 0, none⟩) 0 0) w := by
  obtain ⟨i0, hi, hz0, hz1, hz2⟩ := info_parts info5f
  simp [Builtin.append_, run_underlying Try.underlying33, sizeOf, typeInfo, hi, Builtin.lenOf, Builtin.firstCells, storeCells]
def BytesPost (xs : List Int) (w : World) (e : Ending) (w' : World) : Prop := ∃ v, e = .returned v ∧ w'.ownsRow w.heap.size 5 1 v xs.length (xs.map (Value.int .u8)) ∧ Below w.heap.size w w'
set_option maxRecDepth 100000 in
set_option maxHeartbeats 400000 in
theorem bytes43 (v : Value) (xs : List Int) (w : World) (h : BSl w v xs) (hl : xs.length ≤ 140737488351232) : Calls Try.prog 43 #[v] w (BytesPost xs w) := by
  obtain ⟨A, cap, rfl, h1, h2, h3, h4⟩ := h
  have hbs : ∀ w, (Instr.buildSlice 33 0 #[]).run Try.prog w = .ok (.slice (some ⟨w.heap.size, 0, none⟩) 0 0) (w.alloc (.cells #[] 5)) := fun _ => by kernel_rfl
  have hown : (w.alloc (.cells #[] 5)).ownsRow w.heap.size 5 1 (.slice (some ⟨w.heap.size, 0, none⟩) 0 0) 0 [] :=
    ⟨rfl, Or.inr ⟨w.heap.size, 0, #[], rfl, Nat.le_refl _, heap_alloc_new w _, Nat.le_refl _, Nat.zero_le _, rfl, rfl⟩⟩
  cases A with
  | none =>
    obtain rfl : xs = [] := by
      by_cases hx : xs = []
      · exact hx
      · obtain ⟨b, off, e, _⟩ := h4 hx
        cases e
    have hap := append_none (w.alloc (.cells #[] 5)) w.heap.size cap 33
    have HO := Lib.hid hown
    have HB : Hid (Below w.heap.size w (w.alloc (.cells #[] 5))) := (Below.refl _ _).alloc (Nat.le_refl _) _
    have HAP := Lib.hid hap
    clear h3 h4 hown hap h1 h2 hl
    go_enter Try.func43, Try.ntmps43
    go_wp2_with (at_builtin; refine wpList_append_eq rfl (.tmp 3) (.tmp 4) 33 rfl rfl rfl HAP.out ?_)
    go_ret
    exact ⟨_, rfl, HO.out, HB.out⟩
  | some ad =>
    obtain ⟨i0, hi, hz0, hz1, hz2⟩ := info_parts info5f
    have hc : ∀ j u, (xs.map (Value.int .u8))[j]? = some u → w.cell? (ad.add j) = some u := fun j u hj => by
      have hne : xs ≠ [] := by rintro rfl; simp at hj
      obtain ⟨b, off, e, _, hcc⟩ := h4 hne
      cases e
      have hjn : j < xs.length := by
        rcases Nat.lt_or_ge j xs.length with h | h
        · exact h
        · rw [List.getElem?_eq_none (by simpa using h)] at hj; cases hj
      rw [addr_add, hcc j hjn]
      simpa [List.getD, hjn] using hj
    obtain ⟨v', w2, hap, ho, hg, _⟩ := run_append_own (P := Try.prog) (w.alloc (.cells #[] 5)) w.heap.size 33 33 5 i0 (.int .u8 0) 1 1 Try.underlying33 hi hz0 hz1 hz2 rfl (by decide) _ 0 [] hown ad xs.length cap (xs.map (Value.int .u8)) (by simp)
      (fun j u hj => by have := hc j u hj; rw [World.cell?_alloc_lt _ _ _ (cell_lt this)]; exact this) (oneCell_bytes _) (by unfold maxLen; omega) (by omega) (by simp)
    rw [Nat.zero_add, List.nil_append] at ho
    have hbel : Below w.heap.size w w2 := ((Below.refl _ _).alloc (Nat.le_refl _) _).grown hg (by simp) (fun k hk => by simp [Value.ownBlock] at hk; omega)
    have HO := Lib.hid ho
    have HB := Lib.hid hbel
    have HAP := Lib.hid hap
    clear ho hg hbel hc hown hi hz0 hz1 hz2 hap h3 h4
    go_enter Try.func43, Try.ntmps43
    go_wp2_with (at_builtin; refine wpList_append_eq rfl (.tmp 3) (.tmp 4) 33 rfl rfl rfl HAP.out ?_)
    go_ret
    exact ⟨v', rfl, HO.out, HB.out⟩
theorem conv_sl {w : World} {v : Value} {xs : List Int} (h : BSl w v xs) : (convert 33 9 v).run Try.prog w = .ok (.string (strOfNums xs)) w := by
  obtain ⟨A, cap, rfl, h1, h2, h3, h4⟩ := h
  by_cases hx : xs = []
  · subst hx
    rw [run_convert_bytes_string w 33 9 5 _ _ cap Try.underlying33 Try.underlying5 Try.underlying9]
    cases A <;> simp [Conv.bytesToString, loadCells]
    all_goals rfl
  · obtain ⟨b, off, rfl, _, hc⟩ := h4 hx
    exact run_convert_bytes_arg w 33 5 Try.underlying33 Try.underlying5 b off xs.length cap xs rfl hc 9 Try.underlying9
theorem eq_of_toList {a b : ByteArray} (h : a.toList = b.toList) : a = b := by
  rw [Lib.toList_data, Lib.toList_data] at h
  cases a
  cases b
  simpa using h
theorem str_inj {xs ys : List Int} (hx : isBytes xs) (hy : isBytes ys) : strOfNums xs = strOfNums ys ↔ xs = ys := by
  constructor
  · intro h
    have h1 : xs.map (fun n => UInt8.ofNat n.toNat) = ys.map (fun n => UInt8.ofNat n.toNat) := by
      have := congrArg (fun s : ByteArray => s.data.toList) h
      simpa [strOfNums] using this
    clear h
    induction xs generalizing ys with
    | nil => cases ys with
      | nil => rfl
      | cons => simp at h1
    | cons a xs ih =>
      cases ys with
      | nil => simp at h1
      | cons b ys =>
        simp only [List.map_cons, List.cons.injEq] at h1
        have ha := hx a (by simp)
        have hb := hy b (by simp)
        have e := congrArg UInt8.toNat h1.1
        simp only [UInt8.toNat_ofNat'] at e
        have : a = b := by omega
        rw [this, ih (fun z hz => hx z (by simp [hz])) (fun z hz => hy z (by simp [hz])) h1.2]
  · rintro rfl
    rfl
set_option maxHeartbeats 400000 in
theorem same_any (v v' : Value) (xs ys : List Int) (w : World) (h : BSl w v xs) (h' : BSl w v' ys) : Calls Try.prog 42 #[v, v'] w fun e w' => e = .returned (.bool (decide (xs = ys))) ∧ w' = w := by
  have c1 := conv_sl h
  have c2 := conv_sl h'
  obtain ⟨A, cap, rfl, _, _, hx, _⟩ := h
  obtain ⟨A', cap', rfl, _, _, hy, _⟩ := h'
  have hs := str_inj hx hy
  obtain ⟨s, hss⟩ : ∃ s, strOfNums xs = s := ⟨_, rfl⟩
  obtain ⟨t, htt⟩ : ∃ t, strOfNums ys = t := ⟨_, rfl⟩
  rw [hss] at c1 hs
  rw [htt] at c2 hs
  obtain ⟨R, hR⟩ : ∃ R, decide (xs = ys) = R := ⟨_, rfl⟩
  rw [hR]
  have HS := Lib.hid hs
  have HR := Lib.hid hR
  clear hs hss htt hx hy hR
  go_enter Try.func42, Try.ntmps42
  go_wp2_with fail
  go_ret
  refine ⟨?_, rfl⟩
  rw [← HR.out]
  refine ret_bool ?_
  rw [Bool.eq_iff_iff, beq_iff_eq, decide_eq_true_iff, ← HS.out]
  exact ⟨eq_of_toList, fun h => by rw [h]⟩
set_option maxRecDepth 100000 in
set_option maxHeartbeats 1000000 in
theorem rread_any (bm : Nat) (ns : List Area) (at_ n : Int) (w : World) (hm : RefAt w bm ns) (h4 : 0 ≤ at_) (h5 : at_ ≤ 4294967295) :
    Calls Try.prog 41 #[.pointer (some ⟨bm, 0, none⟩), .int .u32 at_, .int .i64 n] w (ReadPost (readR ns at_ n) w) := by
  have HM := Lib.hid hm
  clear hm
  by_cases c1 : n < 0
  · have hr : readR ns at_ n = ([], 1) := by simp [readR, c1]
    rw [hr]
    clear hr
    go_enter Try.func41, Try.ntmps41
    go_wp2_with fail
    go_ret2
    exact readPost_none rfl rfl (Below.refl _ _)
  by_cases c2 : 16777216 < n
  · have hr : readR ns at_ n = ([], 3) := by simp [readR, c1, c2]
    rw [hr]
    clear hr
    go_enter Try.func41, Try.ntmps41
    go_wp2_with fail
    go_ret2
    exact readPost_none rfl rfl (Below.refl _ _)
  by_cases c3 : n = 0
  · have hr : readR ns at_ n = ([], 0) := by simp [readR, c3]
    rw [hr]
    clear hr
    subst c3
    go_enter Try.func41, Try.ntmps41
    go_wp2_with fail
    go_ret2
    exact readPost_none rfl rfl (Below.refl _ _)
  have c3' : (n == 0) = false := by simpa using c3
  have c1' : 0 < n := by omega
  have c2' : n ≤ 16777216 := by omega
  have hr : readR ns at_ n = (match findA ns at_ n with | none => ([], 30) | some a => (cut a.xs (at_ - a.r.fr).toNat n.toNat, 0)) := by
    unfold readR; rw [if_neg c1, if_neg c2, if_neg c3]; rfl
  have HR := Lib.hid hr
  clear hr c1 c2 c3
  go_enter Try.func41, Try.ntmps41
  go_wp2_with fail
  refine (in_any bm ns _ _ _ HM.out (by omega) (by omega) (by omega) (by omega)).mono ?_
  rintro e w1 ⟨⟨i, k, rfl, hin⟩, hb⟩
  have HM1 := Lib.hid (HM.out.below hb)
  have HB1 := Lib.hid hb
  clear hb
  rcases hin with ⟨rfl, rfl, hf⟩ | ⟨p, a, rfl, hp, rfl, hf, ha, hpre⟩
  · have hr2 : readR ns at_ n = ([], 30) := by rw [HR.out, hf]
    have HR2 := Lib.hid hr2
    clear hr2 hf HR
    go_wp2_with fail
    go_ret2
    exact readPost_none (by rw [HR2.out]) (by rw [HR2.out]; rfl) HB1.out
  · obtain ⟨hmem, hn0, hfr, hend⟩ := findA_spec hf
    obtain ⟨k, hk⟩ : ∃ k : Nat, at_ - a.r.fr = k := ⟨(at_ - a.r.fr).toNat, by omega⟩
    obtain ⟨j, rfl⟩ : ∃ j : Nat, n = j := ⟨n.toNat, by omega⟩
    have hr2 : readR ns at_ j = (cut a.xs k j, 0) := by rw [HR.out, hf]; simp [hk]
    have HR2 := Lib.hid hr2
    rw [hk]
    obtain ⟨hpl, hpa⟩ := List.getElem?_eq_some_iff.1 hp
    have hA := HM1.out.each a hmem
    obtain ⟨gl, gn, gw, capl, capn, capw, ht⟩ := HM1.out.open_ (by omega)
    have hlx := hA.lx
    have hkj : k + j ≤ a.xs.length := by omega
    obtain ⟨g, capb, hnow, hb1, hb2, _, hbytes⟩ := brow_at hA.now (by omega)
    have c1 := ht.c1
    have cn := ht.now p hpl
    rw [hpa, hnow] at cn
    have n1 := ht.n1
    have n2 := ht.n2
    have hcl := cut_length hkj
    have hsl : BSl w1 (.slice (some ⟨g, k, none⟩) j (capb - k)) (cut a.xs k j) := by
      refine ⟨some ⟨g, k, none⟩, capb - k, by rw [hcl], by rw [hcl]; omega, by omega, cut_bytes hA.bx, fun _ => ⟨g, k, rfl, ?_, fun i hi => ?_⟩⟩
      · have := hbytes 0 (by omega)
        exact cell_lt (a := ⟨g, 0, none⟩) this
      · rw [hcl] at hi
        rw [hbytes (k + i) (by omega), cut_getD hi]
    have HSL := Lib.hid hsl
    have HCL := Lib.hid hcl
    obtain ⟨M, hM⟩ : ∃ M, ns.length = M := ⟨_, rfl⟩
    obtain ⟨L, hL⟩ : ∃ L, a.xs.length = L := ⟨_, rfl⟩
    rw [hM] at c1 n1 hpl
    rw [hL] at cn hb1 hkj
    have hM16 : M ≤ 16 := by have := HM1.out.few; omega
    have hL24 : L ≤ 16777216 := by have := hA.ok.s1; omega
    have e3 : (0 : Int) ≤ (p : Int) := by omega
    have e4 : (p : Int) < ((M : Nat) : Int) := by omega
    unfold maxLen at n2 hb2
    clear hbytes hp hpa hA ht hf ha hpre hlx hnow hk hM hL hr2 HR hsl hcl hmem hn0 hfr hend
    go_wp2_with fail
    refine (bytes43 _ _ _ HSL.out (by rw [HCL.out]; omega)).mono ?_
    rintro e w2 ⟨v, rfl, ho, hb2⟩
    have HO := Lib.hid ho
    have HB2 := Lib.hid (HB1.out.trans (hb2.mono HB1.out.size))
    have HSZ := Lib.hid HB1.out.size
    clear ho hb2
    go_wp2_with fail
    go_ret2
    refine ⟨v, by rw [HR2.out]; rfl, ?_, HB2.out⟩
    rw [HR2.out]
    exact ownsRow_lower HO.out HSZ.out
end Go.Proofs.Ytbffclcjhcbejaa
namespace Go.Proofs.Ytbffclcjhcbejaa
open Go.RowKit
section
variable {w w' : World} {bm g : Nat} {pre post : List Area} {a : Area} {cur cur' : Array Value}
theorem RefAt.row_put (h : RefAt w bm (pre ++ a :: post)) (hga : g ∈ a.rows) (k : Keeps (· = g) w w') {a' : Area} (hr : a'.r = a.r) (hn : a'.now = a.now) (hw : a'.was = a.was)
    (hlx : a'.xs.length = a.xs.length) (hly : a'.ys.length = a.ys.length) (hnow : BRow w' a.now a'.xs) (hwas : BRow w' a.was a'.ys) (hbx : isBytes a'.xs) (hby : isBytes a'.ys) : RefAt w' bm (pre ++ a' :: post) := by
  have hmem : ∀ x, x ∈ pre ∨ x ∈ post → x ∈ pre ++ a :: post := fun x hx => by
    rcases hx with hx | hx <;> simp [hx]
  have ha := h.each a (by simp)
  obtain ⟨c0, hc0⟩ := ha.row_blk hga
  obtain ⟨lv, nv, wv, hb, hl, hnv, hwv, hd⟩ := h.top
  have hT : ∀ {b : Nat} {t : TypeId} {cs : Array Value}, Blk w b t cs → t ≠ 5 → ¬ (b = g) := fun h1 h2 => h1.ne_ hc0 h2
  obtain ⟨hap, _⟩ := rows_pair h.apart
  have hrows : a'.rows = a.rows := by
    unfold Area.rows
    rw [hn, hw, rowBlk_len hlx, rowBlk_len hly]
  refine ⟨⟨lv, nv, wv, hb.keeps k (hT hb (by decide)), ?_, ?_, ?_, hd⟩, fun x hx => ?_, ?_, ?_⟩
  · have := ownsRow_keeps hl k (fun g' hg' => by obtain ⟨c, hc⟩ := owns_kind hl hg'; exact hT hc (by decide))
    simpa [hr] using this
  · have := ownsRow_keeps hnv k (fun g' hg' => by obtain ⟨c, hc⟩ := owns_kind hnv hg'; exact hT hc (by decide))
    simpa [hn] using this
  · have := ownsRow_keeps hwv k (fun g' hg' => by obtain ⟨c, hc⟩ := owns_kind hwv hg'; exact hT hc (by decide))
    simpa [hw] using this
  · rcases List.mem_append.1 hx with hx | hx
    · have h1 := h.each x (hmem x (Or.inl hx))
      exact h1.keeps k (fun y hy e => hap x (Or.inl hx) g hga (e ▸ hy))
    · rcases List.mem_cons.1 hx with rfl | hx
      · exact ⟨by rw [hn]; exact hnow, by rw [hw]; exact hwas, by rw [hlx, hr]; exact ha.lx, by rw [hly, hr]; exact ha.ly, hbx, hby, by rw [hr]; exact ha.ok⟩
      · have h1 := h.each x (hmem x (Or.inr hx))
        exact h1.keeps k (fun y hy e => hap x (Or.inr hx) g hga (e ▸ hy))
  · have := h.apart
    unfold rowsOf at this ⊢
    rw [List.flatMap_append, List.flatMap_cons] at this ⊢
    rw [hrows]
    exact this
  · have := h.few
    simpa using this
end
/-- Bytes are put into a row one by one: so far j of them. -/
structure FillS (w1 : World) (g : Nat) (v : Value) (xs : List Int) (K : Nat) (cs : List Int) (j : Nat) (wr : World) : Prop where
  row : BRow wr v (splice xs K (cs.take j))
  keeps : Keeps (· = g) w1 wr
theorem splice_nil (xs : List Int) (K : Nat) : splice xs K [] = xs := by simp [splice]
theorem splice_take {xs cs : List Int} {K j : Nat} (hfit : K + cs.length ≤ xs.length) (hj : j < cs.length) : splice (splice xs K (cs.take j)) (K + j) [cs.getD j 0] = splice xs K (cs.take (j + 1)) := by
  have hg : cs.getD j 0 = cs[j] := by simp [List.getD, hj]
  rw [hg, List.take_succ_eq_append_getElem hj]
  unfold splice
  have hl1 : (xs.take K).length = K := by rw [List.length_take]; omega
  have hl2 : (cs.take j).length = j := by rw [List.length_take]; omega
  have e1 : (xs.take K ++ cs.take j ++ xs.drop (K + (cs.take j).length)).take (K + j) = xs.take K ++ cs.take j := by
    rw [List.take_append_of_le_length (by rw [List.length_append]; omega), List.take_of_length_le (by rw [List.length_append]; omega)]
  have e2 : (xs.take K ++ cs.take j ++ xs.drop (K + (cs.take j).length)).drop (K + j + [cs[j]].length) = xs.drop (K + (cs.take j ++ [cs[j]]).length) := by
    rw [List.drop_append, List.drop_of_length_le (by rw [List.length_append]; simp; omega), List.nil_append, List.drop_drop]
    congr 1
    rw [List.length_append, List.length_append, hl1, hl2]
    simp
    omega
  rw [List.append_assoc] at e1 e2
  rw [e1, e2]
  simp only [List.append_assoc]
theorem fillS_zero {w1 : World} {g : Nat} {v : Value} {xs : List Int} (K : Nat) (cs : List Int) (h : BRow w1 v xs) : FillS w1 g v xs K cs 0 w1 :=
  ⟨by rw [List.take_zero, splice_nil]; exact h, Keeps.refl _ _⟩
theorem FillS.drewN {w1 wr : World} {g : Nat} {v : Value} {xs cs : List Int} {K j : Nat} (h : FillS w1 g v xs K cs j wr) (q : Nat) : FillS w1 g v xs K cs j (wr.drewN q) := ⟨h.row, h.keeps.drewN q⟩
theorem FillS.drew {w1 wr : World} {g : Nat} {v : Value} {xs cs : List Int} {K j : Nat} (h : FillS w1 g v xs K cs j wr) : FillS w1 g v xs K cs j wr.drew := ⟨h.row, h.keeps.drew⟩
theorem FillS.step {w1 wr : World} {g : Nat} {v : Value} {xs cs : List Int} {K j : Nat} (h : FillS w1 g v xs K cs j wr) (hfit : K + cs.length ≤ xs.length) (hj : j < cs.length) (hg : g ∈ rowBlk v xs) :
    FillS w1 g v xs K cs (j + 1) (wr.setCell ⟨g, K + j, none⟩ (.int .u8 (cs.getD j 0))) := by
  have hlen : (splice xs K (cs.take j)).length = xs.length := length_splice _ _ _ (by rw [List.length_take]; omega)
  have hg2 : g ∈ rowBlk v (splice xs K (cs.take j)) := by rw [rowBlk_len hlen]; exact hg
  obtain ⟨cur, hb⟩ := h.row.blk_of hg2
  have hsz : K + j < cur.size := by
    obtain ⟨A, cap, rfl, h1, h2, h3⟩ := h.row
    obtain ⟨g', cur2, rfl, hb2, hs, _⟩ := h3 (mem_rowBlk hg2).1
    have : g' = g := by simpa [Value.ownBlock] using (mem_rowBlk hg2).2
    subst this
    obtain rfl := hb2.inj hb
    omega
  have hset := hb.set_ (K + j) (.int .u8 (cs.getD j 0))
  have earr : cur.setIfInBounds (K + j) (.int .u8 (cs.getD j 0)) = (splice cur.toList (K + j) ([cs.getD j 0].map (Value.int .u8))).toArray := by
    apply Array.ext'
    rw [Array.toList_setIfInBounds]
    unfold splice
    rw [List.set_eq_take_append_cons_drop, if_pos (by simpa using hsz)]
    simp
  rw [earr] at hset
  refine ⟨?_, h.keeps.setCell (p := ⟨g, K + j, none⟩) (Or.inr rfl) _⟩
  rw [← splice_take hfit hj]
  exact h.row.spliced hg2 hb (by rw [hlen]; simp; omega) hset
theorem FillS.at_ {w1 wr : World} {g : Nat} {v : Value} {xs cs : List Int} {K j i : Nat} (h : FillS w1 g v xs K cs j wr) (hfit : K + cs.length ≤ xs.length) (hi : i < xs.length) (hj : j ≤ cs.length) (hg : g ∈ rowBlk v xs) :
    wr.frozen? ⟨g, i, none⟩ = false ∧ ∃ u, wr.cell? ⟨g, i, none⟩ = some u := by
  have hlen : (splice xs K (cs.take j)).length = xs.length := length_splice _ _ _ (by rw [List.length_take]; omega)
  have hg2 : g ∈ rowBlk v (splice xs K (cs.take j)) := by rw [rowBlk_len hlen]; exact hg
  obtain ⟨cur, hb⟩ := h.row.blk_of hg2
  obtain ⟨g', cap, e, _, _, hg', hc⟩ := brow_at h.row (by omega)
  have : g' = g := by
    have h1 := (mem_rowBlk hg2).2
    rw [e] at h1
    simpa [Value.ownBlock] using h1
  subst this
  exact ⟨hb.frozen i, _, hc i (by omega)⟩
theorem RefAt.filled {w w1 : World} {bm g : Nat} {ns : List Area} {at_ n : Int} {a : Area} {cs : List Int} {K p : Nat} (h : RefAt w bm ns) (hp : ns[p]? = some a) (hha : a.has at_ n = true) (hpre : ∀ x ∈ ns.take p, x.has at_ n = false)
    (hK : at_ - a.r.fr = (K : Int)) (hcs : (cs.length : Int) = n) (hcb : isBytes cs) (hg : g ∈ rowBlk a.now a.xs) (hs : FillS w g a.now a.xs K cs cs.length w1) :
    RefAt w1 bm (putA ns at_ n cs) ∧ Keeps (· ∈ rowsOf ns) w w1 ∧ rowsOf (putA ns at_ n cs) = rowsOf ns := by
  obtain ⟨hl, rfl⟩ := List.getElem?_eq_some_iff.1 hp
  have hA := h.each ns[p] (List.getElem_mem hl)
  have e : ns = ns.take p ++ (ns[p] :: ns.drop (p + 1)) := by rw [← List.drop_eq_getElem_cons hl, List.take_append_drop]
  have hin : (at_ - ns[p].r.fr).toNat = K := by omega
  have hhas : 0 < n ∧ ns[p].r.fr ≤ at_ ∧ at_ + n ≤ ns[p].r.fr + ns[p].r.sz := by
    simp [Area.has, hasB] at hha
    omega
  have hfit : K + cs.length ≤ ns[p].xs.length := by have := hA.lx; omega
  have hput : putA ns at_ n cs = ns.take p ++ ({ ns[p] with xs := splice ns[p].xs K cs } :: ns.drop (p + 1)) := by
    unfold putA
    conv => lhs; rw [e]
    rw [updA_of hha hpre, hin]
  have hrow : BRow w1 ns[p].now (splice ns[p].xs K cs) := by have := hs.row; rwa [List.take_of_length_le (Nat.le_refl _)] at this
  have hrn : ns[p].rows.Nodup := by have := h.apart; rw [e] at this; exact (rows_pair this).2
  have hgw : g ∉ rowBlk ns[p].was ns[p].ys := fun hx => by
    unfold Area.rows at hrn
    exact (List.nodup_append.1 hrn).2.2 g hg g hx rfl
  have hrowsa : ({ ns[p] with xs := splice ns[p].xs K cs } : Area).rows = ns[p].rows := by
    unfold Area.rows
    rw [rowBlk_len (length_splice _ _ _ hfit)]
  refine ⟨?_, hs.keeps.mono (fun i _ e => by subst e; exact List.mem_flatMap.2 ⟨ns[p], List.getElem_mem hl, List.mem_append_left _ hg⟩), ?_⟩
  · rw [hput]
    rw [e] at h
    exact h.row_put (List.mem_append_left _ hg) hs.keeps rfl rfl rfl (length_splice _ _ _ hfit) rfl hrow (hA.was.keeps hs.keeps (fun y hy e => hgw (e ▸ hy))) (splice_bytes hA.bx hcb) hA.bY
  · rw [hput]
    conv => rhs; rw [e]
    unfold rowsOf
    rw [List.flatMap_append, List.flatMap_cons, List.flatMap_append, List.flatMap_cons, hrowsa]
end Go.Proofs.Ytbffclcjhcbejaa
namespace Go.Proofs.Ytbffclcjhcbejaa
open Go.RowKit
set_option maxHeartbeats 400000 in
theorem rbytes_any (a : Int) (w : World) (h0 : 0 ≤ a) (h1 : a ≤ 4294967295) :
    Calls Try.prog 54 #[.int .u32 a] w
      fun e w' => e = .returned (.slice (some ⟨w.heap.size, 0, none⟩) 4 4) ∧ w' = w.alloc (.cells #[.int .u8 (a % 256), .int .u8 (a / 256 % 256), .int .u8 (a / 65536 % 256), .int .u8 (a / 16777216)] 5) := by
  go_enter Try.func54, Try.ntmps54
  go_wp2
  go_ret
  exact ⟨rfl, rfl⟩
def StorePost (bm : Nat) (ns : List Area) (at_ n v : Int) (w : World) (e : Ending) (w' : World) : Prop :=
  e = .returned (.int .i64 (storeR ns at_ n v).1) ∧ RefAt w' bm (storeR ns at_ n v).2 ∧ Keeps (· ∈ rowsOf ns) w w' ∧ rowsOf (storeR ns at_ n v).2 = rowsOf ns
theorem storePost_same {bm : Nat} {ns : List Area} {at_ n v er : Int} {w w' : World} {e : Ending} (hm : RefAt w bm ns) (hr : storeR ns at_ n v = (er, ns)) (he : e = .returned (.int .i64 er)) (hb : Below w.heap.size w w') : StorePost bm ns at_ n v w e w' := by
  unfold StorePost
  rw [hr]
  exact ⟨he, hm.below hb, keeps_of_below _ hb, rfl⟩
theorem bytesOf_len' (v : Int) {N : Nat} (hn : N ≤ 4) : (bytesOf v N).length = N := by unfold bytesOf; simp; omega
theorem bytes_cells (w : World) (v : Int) {j N : Nat} (hj : j < N) (hN : N ≤ 4) : (w.alloc (.cells #[.int .u8 (v % 256), .int .u8 (v / 256 % 256), .int .u8 (v / 65536 % 256), .int .u8 (v / 16777216)] 5)).cell? ⟨w.heap.size, j, none⟩ = some (.int .u8 ((bytesOf v N).getD j 0)) := by
  rw [(Blk.new w 5 _).cell]
  unfold bytesOf
  obtain rfl | rfl | rfl | rfl : j = 0 ∨ j = 1 ∨ j = 2 ∨ j = 3 := by omega
  all_goals simp [List.getD, List.getElem?_take, hj]
set_option maxRecDepth 100000 in
set_option maxHeartbeats 4000000 in
theorem rstore_any (bm : Nat) (ns : List Area) (at_ n v : Int) (w : World) (hm : RefAt w bm ns) (h0 : 0 ≤ at_) (h1 : at_ ≤ 4294967295) (hv0 : 0 ≤ v) (hv1 : v ≤ 4294967295) :
    Calls Try.prog 39 #[.pointer (some ⟨bm, 0, none⟩), .int .u32 at_, .int .i64 n, .int .u32 v] w (StorePost bm ns at_ n v w) := by
  have HM := Lib.hid hm
  clear hm
  go_enter Try.func39, Try.ntmps39
  go_wp2_with fail
  refine (raccess_any bm ns _ _ _ HM.out h0 h1).mono ?_
  rintro e w1 ⟨⟨i, k, er, rfl, hacc⟩, hb⟩
  have HM1 := Lib.hid (HM.out.below hb)
  have HB := Lib.hid hb
  clear hb
  rcases hacc with ⟨he, rfl, rfl, hac⟩ | ⟨rfl, p, a, rfl, hp, rfl, hac, ha, hpre⟩
  · have heb : (er != 0) = true := by simp [he]
    have HR : Hid (storeR ns at_ n v = (er, ns)) := by show storeR ns at_ n v = _; unfold storeR; rw [hac]
    clear he hac
    go_wp2_with fail
    go_ret
    exact storePost_same HM.out HR.out rfl HB.out
  · obtain ⟨_, hn, _, hfa⟩ := accR_some hac
    obtain ⟨hpl, hpa⟩ := List.getElem?_eq_some_iff.1 hp
    obtain ⟨gl, gn, gw, capl, capn, capw, ht⟩ := HM1.out.open_ (by omega)
    have c0 := ht.c0
    have r3 : w1.cell? ⟨gl, p * 5 + 3, none⟩ = some (.bool ns[p].r.wr) := ht.rng p hpl 3 _ rfl
    rw [hpa] at r3
    have l1 := ht.l1
    have l2 := ht.l2
    unfold maxLen at l2
    have hplen := hpl
    obtain ⟨M, hM⟩ : ∃ M, ns.length = M := ⟨_, rfl⟩
    rw [hM] at c0 l1 hpl
    have hM16 : M ≤ 16 := by have := HM1.out.few; omega
    have e3 : (0 : Int) ≤ (p : Int) := by omega
    have e4 : (p : Int) < ((M : Nat) : Int) := by omega
    cases hwr : a.r.wr with
    | false =>
      have HR : Hid (storeR ns at_ n v = (32, ns)) := by show storeR ns at_ n v = _; unfold storeR; rw [hac]; dsimp only; rw [hwr]; rfl
      rw [hwr] at r3
      clear hac ha hpre hp hpa hM ht hwr hfa hn
      go_wp2_with fail
      go_ret
      exact storePost_same HM.out HR.out rfl HB.out
    | true =>
      obtain ⟨N, rfl⟩ : ∃ N : Nat, n = (N : Int) := ⟨n.toNat, by omega⟩
      have HR : Hid (storeR ns at_ (N : Int) v = (0, putA ns at_ (N : Int) (bytesOf v N))) := by show storeR ns at_ (N : Int) v = _; unfold storeR; rw [hac]; dsimp only; rw [hwr]; rfl
      rw [hwr] at r3
      have hhas : 0 < (N : Int) ∧ a.r.fr ≤ at_ ∧ at_ + (N : Int) ≤ a.r.fr + a.r.sz := (findA_spec hfa).2
      have hA := HM1.out.each a (findA_spec hfa).1
      obtain ⟨K, hK⟩ : ∃ K : Nat, at_ - a.r.fr = (K : Int) := ⟨(at_ - a.r.fr).toNat, by omega⟩
      have hlx := hA.lx
      have hN4 : N ≤ 4 := by omega
      have hN1 : 1 ≤ N := by omega
      have hKN : K + N ≤ a.xs.length := by omega
      obtain ⟨g, capb, hnow, hb1, hb2, hgr, hbytes⟩ := brow_at hA.now (by omega)
      have c1 := ht.c1
      have cn := ht.now p hplen
      rw [hpa, hnow] at cn
      have n1 := ht.n1
      have n2 := ht.n2
      rw [hM] at c1 n1
      have hgnb : gn < w1.heap.size := cell_lt (a := ⟨gn, p, none⟩) cn
      have hbmb : bm < w1.heap.size := cell_lt (a := ⟨bm, 1, none⟩) c1
      obtain ⟨bc, hbc⟩ : ∃ bc, Blk w1 g 5 bc := hA.now.blk_of hgr
      have hgb := hbc.lt
      obtain ⟨lv, nv, wv, hbt, hl, hnv, hwv, hd⟩ := HM1.out.top
      have hgbm : g ≠ bm := hbc.ne_ hbt (by decide)
      have hggn : g ≠ gn := by
        have : nv.ownBlock = some gn := by
          have h1 : w1.cell? ⟨bm, 1, none⟩ = some nv := by rw [hbt.cell]; rfl
          rw [c1] at h1
          have := Option.some.inj h1
          rw [← this]; rfl
        obtain ⟨cc, hcc⟩ := owns_kind hnv this
        exact hbc.ne_ hcc (by decide)
      have HP := Lib.hid (And.intro hp (And.intro ha hpre))
      have HK := Lib.hid hK
      have HGR := Lib.hid hgr
      have HNOW := Lib.hid hA.now
      obtain ⟨L, hL⟩ : ∃ L, a.xs.length = L := ⟨_, rfl⟩
      have HLL := Lib.hid hL
      rw [hL] at cn hb1 hKN
      have hL24 : L ≤ 16777216 := by have := hA.ok.s1; omega
      rw [hK]
      unfold maxLen at n2 hb2
      clear hac ha hpre hp hpa hM ht hwr hfa hn hbytes hA hnow hbc hbt hl hnv hwv hd hgr hK hL hhas hlx
      go_wp2_with fail
      refine (rbytes_any _ _ hv0 hv1).mono ?_
      rintro e w2 ⟨rfl, hw2⟩
      have HB2 : Hid (Below w1.heap.size w1 w2) := by rw [hw2]; exact (Below.refl _ _).alloc (Nat.le_refl _) _
      have HCB : Hid (∀ j, j < N → w2.cell? ⟨w1.heap.size, j, none⟩ = some (.int .u8 ((bytesOf v N).getD j 0))) := by rw [hw2]; exact fun j hj => bytes_cells w1 v hj hN4
      have HF0 : Hid (FillS w2 g a.now a.xs K (bytesOf v N) 0 w2) := fillS_zero K _ (HNOW.out.below HB2.out)
      obtain ⟨gb, hgbd⟩ : ∃ gb, w1.heap.size = gb := ⟨_, rfl⟩
      have hgb2 : gb < w2.heap.size := by rw [hw2, ← hgbd]; exact (Blk.new _ _ _).lt
      have hggb : g ≠ gb := by omega
      rw [hgbd] at hgnb hbmb hgb
      have HCB' : Hid (∀ j, j < N → w2.cell? ⟨gb, j, none⟩ = some (.int .u8 ((bytesOf v N).getD j 0))) := by rw [← hgbd]; exact HCB
      have c1' := (HB2.out.cell (p := ⟨bm, 1, none⟩) (by rw [hgbd]; exact hbmb)).trans c1
      have cn' := (HB2.out.cell (p := ⟨gn, p, none⟩) (by rw [hgbd]; exact hgnb)).trans cn
      have hbm2 : bm < w2.heap.size := by have := HB2.out.size; omega
      have hgn2 : gn < w2.heap.size := by have := HB2.out.size; omega
      rw [hgbd]
      have HGD := Lib.hid hgbd
      clear HCB hw2 c0 c1 cn hgbd r3
      go_wp2_with fail
      go_loopw [13] (fun i wr => ∃ j : Nat, j ≤ N ∧ i = .int .i64 j ∧ Hid (FillS w2 g a.now a.xs K (bytesOf v N) j wr)) (fun i _ => N - (intOf i).toNat)
      case atStart => exact ⟨0, Nat.zero_le _, rfl, HF0.out⟩
      case round =>
        obtain ⟨j, hj, rfl, HF⟩ := hrel
        by_cases hlt : j < N
        · have d1 := (HF.out.keeps.cell (p := ⟨bm, 1, none⟩) hbm2 (fun e => hgbm e.symm)).trans c1'
          have d2 := (HF.out.keeps.cell (p := ⟨gn, p, none⟩) hgn2 (fun e => hggn e.symm)).trans cn'
          have d3 := (HF.out.keeps.cell (p := ⟨gb, j, none⟩) hgb2 (fun e => hggb e.symm)).trans (HCB'.out j hlt)
          have HN : Hid (FillS w2 g a.now a.xs K (bytesOf v N) (j + 1) (wr.drew.setCell ⟨g, K + j, none⟩ (.int .u8 ((bytesOf v N).getD j 0)))) :=
            HF.out.drew.step (by rw [bytesOf_len' v hN4, HLL.out]; exact hKN) (by rw [bytesOf_len' v hN4]; exact hlt) HGR.out
          obtain ⟨hfz, old, hold⟩ := HF.out.at_ (i := K + j) (by rw [bytesOf_len' v hN4, HLL.out]; exact hKN) (by rw [HLL.out]; omega) (by rw [bytesOf_len' v hN4]; omega) HGR.out
          obtain ⟨x, hx⟩ : ∃ x, (bytesOf v N).getD j 0 = x := ⟨_, rfl⟩
          rw [hx] at d3 HN
          clear hx
          have e5 : IntKind.i64.wrap ((K : Int) + (j : Int)) = ((K + j : Nat) : Int) := by rw [IntWalk.i64_in _ (by omega)]; omega
          obtain ⟨J, hJ⟩ : ∃ J : Nat, K + j = J := ⟨_, rfl⟩
          rw [hJ] at e5 HN hfz hold
          have e6 : (0 : Int) ≤ (J : Int) := by omega
          have e7 : (J : Int) < ((L : Nat) : Int) := by omega
          have e8 : (0 : Int) ≤ (j : Int) := by omega
          have e9 : (j : Int) < 4 := by omega
          go_wp2_with fail
          go_still_tail 15, (by kernel_rfl)
          change wpList _ _ _ _ _ wr.drew
          go_wp2_with fail
          go_roundw
          case rel => exact ⟨j + 1, by omega, by go_num, HN.out⟩
          case measure => simp [intOf]; omega
        · have hjN : j = N := by omega
          obtain rfl := hjN
          have hcl := bytesOf_len' v hN4
          obtain ⟨q1, q2, q3⟩ := (HM1.out.below HB2.out).filled HP.out.1 HP.out.2.1 HP.out.2.2 HK.out (by rw [hcl]) (bytesOf_bytes hv0 hv1 _) HGR.out (by rw [hcl]; exact HF.out)
          have HFIN : Hid (StorePost bm ns at_ (j : Int) v w (.returned (.int .i64 0)) wr) := by
            refine ⟨by rw [HR.out], by rw [HR.out]; exact q1, ?_, by rw [HR.out]; exact q3⟩
            exact (keeps_of_below (· ∈ rowsOf ns) (HB.out.trans (HB2.out.mono HB.out.size))).trans q2 (fun i hi e => e)
          clear q1 q2 q3 hcl
          go_wp2_with fail
          go_ret
          exact HFIN.out
end Go.Proofs.Ytbffclcjhcbejaa
namespace Go.Proofs.Ytbffclcjhcbejaa
open Go.RowKit
/-- What a fill comes to. -/
def fillR (ms : List Area) (at_ : Int) (cs : List Int) : Int × List Area :=
  if 16777216 < cs.length then (3, ms) else if cs = [] then (0, ms) else
    match findA ms at_ (cs.length : Int) with
    | none => (30, ms)
    | some _ => (0, putA ms at_ (cs.length : Int) cs)
def RFillPost (bm : Nat) (ns : List Area) (at_ : Int) (cs : List Int) (w : World) (e : Ending) (w' : World) : Prop :=
  e = .returned (.int .i64 (fillR ns at_ cs).1) ∧ RefAt w' bm (fillR ns at_ cs).2 ∧ Keeps (· ∈ rowsOf ns) w w' ∧ rowsOf (fillR ns at_ cs).2 = rowsOf ns
theorem rfillPost_same {bm : Nat} {ns : List Area} {at_ er : Int} {cs : List Int} {w w' : World} {e : Ending} (hm : RefAt w bm ns) (hr : fillR ns at_ cs = (er, ns)) (he : e = .returned (.int .i64 er)) (hb : Below w.heap.size w w') : RFillPost bm ns at_ cs w e w' := by
  unfold RFillPost
  rw [hr]
  exact ⟨he, hm.below hb, keeps_of_below _ hb, rfl⟩
set_option maxRecDepth 100000 in
set_option maxHeartbeats 4000000 in
theorem rfill_any (bm : Nat) (ns : List Area) (at_ : Int) (v : Value) (cs : List Int) (w : World) (hm : RefAt w bm ns) (h0 : 0 ≤ at_) (h1 : at_ ≤ 4294967295) (hs : BSl w v cs) (hap : cs ≠ [] → ∀ b n c, v = .slice (some b) n c → b.block ∉ rowsOf ns) :
    Calls Try.prog 44 #[.pointer (some ⟨bm, 0, none⟩), .int .u32 at_, v] w (RFillPost bm ns at_ cs w) := by
  have HM := Lib.hid hm
  clear hm
  obtain ⟨A, cap, rfl, hc1, hc2, hcb, hcells⟩ := hs
  have HCB := Lib.hid hcb
  have HCELLS := Lib.hid hcells
  have HAP := Lib.hid hap
  obtain ⟨N, hN⟩ : ∃ N, cs.length = N := ⟨_, rfl⟩
  have HN := Lib.hid hN
  have HRR : Hid (fillR ns at_ cs = if 16777216 < N then ((3 : Int), ns) else if cs = [] then ((0 : Int), ns) else match findA ns at_ (N : Int) with | none => ((30 : Int), ns) | some _ => ((0 : Int), putA ns at_ (N : Int) cs)) := by
    show fillR ns at_ cs = _
    unfold fillR
    rw [hN]
  rw [hN] at hc1 ⊢
  unfold maxLen at hc2
  clear hcb hcells hap hN
  by_cases hbig : 16777216 < N
  · have HR : Hid (fillR ns at_ cs = (3, ns)) := by show fillR ns at_ cs = _; rw [HRR.out, if_pos hbig]
    go_enter Try.func44, Try.ntmps44
    go_wp2_with fail
    go_ret
    exact rfillPost_same HM.out HR.out rfl (Below.refl _ _)
  by_cases hzero : N = 0
  · have HR : Hid (fillR ns at_ cs = (0, ns)) := by show fillR ns at_ cs = _; rw [HRR.out, if_neg hbig, if_pos (by rw [← List.length_eq_zero_iff, HN.out]; exact hzero)]
    subst hzero
    go_enter Try.func44, Try.ntmps44
    go_wp2_with fail
    go_ret
    exact rfillPost_same HM.out HR.out rfl (Below.refl _ _)
  have hne : cs ≠ [] := fun h => hzero (by rw [← HN.out, h]; rfl)
  have HRR2 : Hid (fillR ns at_ cs = match findA ns at_ (N : Int) with | none => ((30 : Int), ns) | some _ => ((0 : Int), putA ns at_ (N : Int) cs)) := by
    show fillR ns at_ cs = _
    rw [HRR.out, if_neg hbig, if_neg hne]
  obtain ⟨b, off, rfl, hb0, hcc⟩ := HCELLS.out hne
  have hbn : b ∉ rowsOf ns := HAP.out hne _ _ _ (by rw [HN.out])
  have HBN := Lib.hid hbn
  have HCC := Lib.hid hcc
  clear HCELLS HAP HRR hbn hcc hne
  have hN1 : 1 ≤ N := by omega
  have hz' : ((N : Int) == 0) = false := by simp; omega
  clear hzero
  go_enter Try.func44, Try.ntmps44
  go_wp2_with fail
  refine (in_any bm ns _ _ _ HM.out (by omega) (by omega) (by omega) (by omega)).mono ?_
  rintro e w1 ⟨⟨i, k, rfl, hin⟩, hb⟩
  have HM1 := Lib.hid (HM.out.below hb)
  have HB := Lib.hid hb
  clear hb
  rcases hin with ⟨rfl, rfl, hf⟩ | ⟨p, a, rfl, hp, rfl, hf, ha, hpre⟩
  · have HR : Hid (fillR ns at_ cs = (30, ns)) := by show fillR ns at_ cs = _; rw [HRR2.out, hf]
    clear hf
    go_wp2_with fail
    go_ret
    exact rfillPost_same HM.out HR.out rfl HB.out
  · have HR : Hid (fillR ns at_ cs = (0, putA ns at_ (N : Int) cs)) := by show fillR ns at_ cs = _; rw [HRR2.out, hf]
    obtain ⟨hmem, hn0, hfr, hend⟩ := findA_spec hf
    obtain ⟨hpl, hpa⟩ := List.getElem?_eq_some_iff.1 hp
    obtain ⟨gl, gn, gw, capl, capn, capw, ht⟩ := HM1.out.open_ (by omega)
    have hplen := hpl
    have hA := HM1.out.each a hmem
    obtain ⟨K, hK⟩ : ∃ K : Nat, at_ - a.r.fr = (K : Int) := ⟨(at_ - a.r.fr).toNat, by omega⟩
    have hlx := hA.lx
    have hKN : K + N ≤ a.xs.length := by omega
    obtain ⟨g, capb, hnow, hb1, hb2, hgr, hbytes⟩ := brow_at hA.now (by omega)
    obtain ⟨M, hM⟩ : ∃ M, ns.length = M := ⟨_, rfl⟩
    rw [hM] at hpl
    have hM16 : M ≤ 16 := by have := HM1.out.few; omega
    have e3 : (0 : Int) ≤ (p : Int) := by omega
    have e4 : (p : Int) < ((M : Nat) : Int) := by omega
    have c1 := ht.c1
    have cn := ht.now p hplen
    rw [hpa, hnow] at cn
    have n1 := ht.n1
    have n2 := ht.n2
    rw [hM] at c1 n1
    have hgnb : gn < w1.heap.size := cell_lt (a := ⟨gn, p, none⟩) cn
    have hbmb : bm < w1.heap.size := cell_lt (a := ⟨bm, 1, none⟩) c1
    obtain ⟨bc, hbc⟩ : ∃ bc, Blk w1 g 5 bc := hA.now.blk_of hgr
    obtain ⟨lv, nv, wv, hbt, hl, hnv, hwv, hd⟩ := HM1.out.top
    have hgbm : g ≠ bm := hbc.ne_ hbt (by decide)
    have hggn : g ≠ gn := by
      have : nv.ownBlock = some gn := by
        have h1 : w1.cell? ⟨bm, 1, none⟩ = some nv := by rw [hbt.cell]; rfl
        rw [c1] at h1
        have := Option.some.inj h1
        rw [← this]; rfl
      obtain ⟨cc, hcc⟩ := owns_kind hnv this
      exact hbc.ne_ hcc (by decide)
    have hgb : g ≠ b := fun e => HBN.out (by rw [← e]; exact List.mem_flatMap.2 ⟨a, hmem, List.mem_append_left _ hgr⟩)
    have hb1w : b < w1.heap.size := Nat.lt_of_lt_of_le hb0 HB.out.size
    have HCC1 : Hid (∀ i, i < N → w1.cell? ⟨b, off + i, none⟩ = some (.int .u8 (cs.getD i 0))) := fun i hi => (HB.out.cell (p := ⟨b, off + i, none⟩) hb0).trans (HCC.out i (by rw [HN.out]; exact hi))
    have HP := Lib.hid (And.intro hp (And.intro ha hpre))
    have HK := Lib.hid hK
    have HGR := Lib.hid hgr
    have HF0 : Hid (FillS w1 g a.now a.xs K cs 0 w1) := fillS_zero K _ hA.now
    obtain ⟨L, hL⟩ : ∃ L, a.xs.length = L := ⟨_, rfl⟩
    have HLL := Lib.hid hL
    rw [hL] at cn hb1 hKN
    have hL24 : L ≤ 16777216 := by have := hA.ok.s1; omega
    rw [hK]
    unfold maxLen at n2 hb2
    clear ha hpre hp hpa hM ht hf hbytes hA hnow hbc hbt hl hnv hwv hd hgr hK hL hlx hmem hn0 hfr hend HRR2 HCC
    go_wp2_with fail
    go_loopw [9] (fun i wr => ∃ j : Nat, j ≤ N ∧ i = .int .i64 j ∧ Hid (FillS w1 g a.now a.xs K cs j wr)) (fun i _ => N - (intOf i).toNat)
    case atStart => exact ⟨0, Nat.zero_le _, rfl, HF0.out⟩
    case round =>
      obtain ⟨j, hj, rfl, HF⟩ := hrel
      by_cases hlt : j < N
      · have d1 := (HF.out.keeps.cell (p := ⟨bm, 1, none⟩) hbmb (fun e => hgbm e.symm)).trans c1
        have d2 := (HF.out.keeps.cell (p := ⟨gn, p, none⟩) hgnb (fun e => hggn e.symm)).trans cn
        have d3 := (HF.out.keeps.cell (p := ⟨b, off + j, none⟩) hb1w (fun e => hgb e.symm)).trans (HCC1.out j hlt)
        have HNX : Hid (FillS w1 g a.now a.xs K cs (j + 1) (wr.drew.setCell ⟨g, K + j, none⟩ (.int .u8 (cs.getD j 0)))) :=
          HF.out.drew.step (by rw [HN.out, HLL.out]; exact hKN) (by rw [HN.out]; exact hlt) HGR.out
        obtain ⟨hfz, old, hold⟩ := HF.out.at_ (i := K + j) (by rw [HN.out, HLL.out]; exact hKN) (by rw [HLL.out]; omega) (by rw [HN.out]; omega) HGR.out
        obtain ⟨x, hx⟩ : ∃ x, cs.getD j 0 = x := ⟨_, rfl⟩
        rw [hx] at d3 HNX
        clear hx
        have e5 : IntKind.i64.wrap ((K : Int) + (j : Int)) = ((K + j : Nat) : Int) := by rw [IntWalk.i64_in _ (by omega)]; omega
        obtain ⟨J, hJ⟩ : ∃ J : Nat, K + j = J := ⟨_, rfl⟩
        rw [hJ] at e5 HNX hfz hold
        have e6 : (0 : Int) ≤ (J : Int) := by omega
        have e7 : (J : Int) < ((L : Nat) : Int) := by omega
        have e8 : (0 : Int) ≤ (j : Int) := by omega
        have e9 : (j : Int) < ((N : Nat) : Int) := by omega
        go_wp2_with fail
        go_still_tail 15, (by kernel_rfl)
        change wpList _ _ _ _ _ wr.drew
        go_wp2_with fail
        go_roundw
        case rel => exact ⟨j + 1, by omega, by go_num, HNX.out⟩
        case measure => simp [intOf]; omega
      · have hjN : j = N := by omega
        obtain rfl := hjN
        obtain ⟨q1, q2, q3⟩ := HM1.out.filled HP.out.1 HP.out.2.1 HP.out.2.2 HK.out (by rw [HN.out]) HCB.out HGR.out (by rw [HN.out]; exact HF.out)
        have HFIN : Hid (RFillPost bm ns at_ cs w (.returned (.int .i64 0)) wr) := by
          refine ⟨by rw [HR.out], by rw [HR.out]; exact q1, ?_, by rw [HR.out]; exact q3⟩
          exact (keeps_of_below (· ∈ rowsOf ns) HB.out).trans q2 (fun i hi e => e)
        clear q1 q2 q3
        go_wp2_with fail
        go_ret
        exact HFIN.out
def FillPost (bm : Nat) (ms : List Area) (at_ : Int) (cs : List Int) (w : World) (e : Ending) (w' : World) : Prop :=
  e = .returned (.int .i64 (fillR ms at_ cs).1) ∧ MemAt w' bm (fillR ms at_ cs).2 ∧ Keeps (· ∈ rowsOf ms) w w' ∧ rowsOf (fillR ms at_ cs).2 = rowsOf ms
theorem fillPost_same {bm : Nat} {ms : List Area} {at_ er : Int} {cs : List Int} {w w' : World} {e : Ending} (hm : MemAt w bm ms) (hr : fillR ms at_ cs = (er, ms)) (he : e = .returned (.int .i64 er)) (hb : Below w.heap.size w w') : FillPost bm ms at_ cs w e w' := by
  unfold FillPost
  rw [hr]
  exact ⟨he, hm.below hb, keeps_of_below _ hb, rfl⟩
set_option maxRecDepth 100000 in
set_option maxHeartbeats 4000000 in
theorem fill_any (bm : Nat) (ms : List Area) (at_ : Int) (v : Value) (cs : List Int) (w : World) (hm : MemAt w bm ms) (h0 : 0 ≤ at_) (h1 : at_ ≤ 4294967295) (hs : BSl w v cs) :
    Calls Try.prog 19 #[.pointer (some ⟨bm, 0, none⟩), .int .u32 at_, v] w (FillPost bm ms at_ cs w) := by
  have HM := Lib.hid hm
  clear hm
  obtain ⟨A, cap, rfl, hc1, hc2, hcb, hcells⟩ := hs
  have HCB := Lib.hid hcb
  have HCELLS := Lib.hid hcells
  obtain ⟨N, hN⟩ : ∃ N, cs.length = N := ⟨_, rfl⟩
  have HN := Lib.hid hN
  have HRR : Hid (fillR ms at_ cs = if 16777216 < N then ((3 : Int), ms) else if cs = [] then ((0 : Int), ms) else match findA ms at_ (N : Int) with | none => ((30 : Int), ms) | some _ => ((0 : Int), putA ms at_ (N : Int) cs)) := by
    show fillR ms at_ cs = _
    unfold fillR
    rw [hN]
  rw [hN] at hc1 ⊢
  unfold maxLen at hc2
  clear hcb hcells hN
  by_cases hbig : 16777216 < N
  · have HR : Hid (fillR ms at_ cs = (3, ms)) := by show fillR ms at_ cs = _; rw [HRR.out, if_pos hbig]
    go_enter Try.func19, Try.ntmps19
    go_wp2_with fail
    go_ret
    exact fillPost_same HM.out HR.out rfl (Below.refl _ _)
  by_cases hzero : N = 0
  · have HR : Hid (fillR ms at_ cs = (0, ms)) := by show fillR ms at_ cs = _; rw [HRR.out, if_neg hbig, if_pos (by rw [← List.length_eq_zero_iff, HN.out]; exact hzero)]
    subst hzero
    go_enter Try.func19, Try.ntmps19
    go_wp2_with fail
    go_ret
    exact fillPost_same HM.out HR.out rfl (Below.refl _ _)
  have hne : cs ≠ [] := fun h => hzero (by rw [← HN.out, h]; rfl)
  have HRR2 : Hid (fillR ms at_ cs = match findA ms at_ (N : Int) with | none => ((30 : Int), ms) | some _ => ((0 : Int), putA ms at_ (N : Int) cs)) := by
    show fillR ms at_ cs = _
    rw [HRR.out, if_neg hbig, if_neg hne]
  obtain ⟨b, off, rfl, hb0, hcc⟩ := HCELLS.out hne
  have HCC := Lib.hid hcc
  clear HCELLS HRR hcc hne
  have hN1 : 1 ≤ N := by omega
  have hz' : ((N : Int) == 0) = false := by simp; omega
  clear hzero
  go_enter Try.func19, Try.ntmps19
  go_wp2_with fail
  refine (find_any _ ms _ _ _ HM.out h0 h1 (by omega)).mono ?_
  rintro e w1 ⟨rfl, hb⟩
  have HM1 := Lib.hid (HM.out.below hb)
  have HB := Lib.hid hb
  clear hb
  cases hf : findA ms at_ (N : Int) with
  | none =>
    have HR : Hid (fillR ms at_ cs = (30, ms)) := by show fillR ms at_ cs = _; rw [HRR2.out, hf]
    simp only [findV]
    clear hf
    go_wp2_with fail
    go_ret
    exact fillPost_same HM.out HR.out rfl HB.out
  | some a =>
    have HR : Hid (fillR ms at_ cs = (0, putA ms at_ (N : Int) cs)) := by show fillR ms at_ cs = _; rw [HRR2.out, hf]
    obtain ⟨hmem, hn0, hfr, hend⟩ := findA_spec hf
    have ha := HM1.out.each a hmem
    obtain ⟨k, hk⟩ : ∃ k : Nat, at_ - a.r.fr = k := ⟨(at_ - a.r.fr).toNat, by omega⟩
    have hlx := ha.lx
    have hsz := ha.ok.s1
    have hkj : k + N ≤ a.xs.length := by omega
    obtain ⟨g, capb, cur, hnow, hcap, hcapm, hblk, hcs, htake⟩ := ha.now.open_ (by omega)
    have c5 : w1.cell? ⟨a.b, 5, none⟩ = some (.slice (some ⟨g, 0, none⟩) a.xs.length capb) := by rw [ha.blk.cell, ← hnow]; rfl
    have hgm : g ∈ rowBlk a.now a.xs := by
      rw [hnow]
      unfold rowBlk
      rw [if_neg (by intro h; rw [h] at hkj; simp at hkj; omega)]
      simp [Value.ownBlock]
    have hl : (cs.map (Value.int .u8)).length = N := by rw [List.length_map]; exact HN.out
    have hbmax : N ≤ capb - k := by omega
    obtain ⟨w2, hcp, hb2, hk2⟩ := copy_run (P := Try.prog) w1 33 33 3 5 g k N N ⟨b, off, none⟩ N cap cur 5 (cs.map (Value.int .u8)) Try.underlying33 info5 hblk (by rw [hl]; simp [Nat.min_def])
      (fun i u hi => by
        have hiN : i < N := by
          rcases Nat.lt_or_ge i N with h | h
          · exact h
          · rw [List.getElem?_eq_none (by rw [hl]; exact h)] at hi; cases hi
        rw [addr_add]
        rw [(HB.out.cell (p := ⟨b, off + i, none⟩) hb0).trans (HCC.out i (by rw [HN.out]; exact hiN))]
        have hil : i < cs.length := by rw [HN.out]; exact hiN
        simpa [List.getD, hil] using hi)
      (by rw [hl]; have := List.length_take_le a.xs.length cur.toList; omega) (oneCell_bytes _)
    rw [hl] at hcp
    have hfin : FillPost bm ms at_ cs w (.returned (.int .i64 0)) w2 := by
      have hcl : ((cs.length : Nat) : Int) = (N : Int) := by rw [HN.out]
      refine ⟨by rw [HR.out], by rw [HR.out]; exact HM1.out.putA hf hcl HCB.out hk2 hblk hgm (by rw [hk]; exact hb2), ?_, by rw [HR.out]; exact rows_putA HM1.out hcl⟩
      exact (keeps_of_below (· ∈ rowsOf ms) HB.out).trans hk2 (fun i hi e => by subst e; exact List.mem_flatMap.2 ⟨a, hmem, List.mem_append_left _ hgm⟩)
    have HFIN := Lib.hid hfin
    have HCP := Lib.hid hcp
    simp only [findV, hk]
    have hL24 : a.xs.length ≤ 16777216 := by omega
    unfold maxLen at hcapm
    generalize hL : a.xs.length = L at *
    clear hL hfin hcp hb2 hk2 hl hgm hblk hcs htake hnow ha hlx hsz hmem hn0 hfr hend hf hk HCC
    have e1 : IntKind.i64.wrap ((k : Int) + (N : Int)) = (k : Int) + (N : Int) := IntWalk.i64_in _ (by omega)
    have e2 : (0 : Int) ≤ (k : Int) + (N : Int) := by omega
    have e3 : ((k : Int) + (N : Int)).toNat = k + N := by omega
    have e4 : (0 : Int) ≤ (k : Int) := by omega
    have e5 : (k : Int) ≤ (k : Int) + (N : Int) := by omega
    have e6 : (k : Int) + (N : Int) ≤ (capb : Int) := by omega
    have e7 : ¬ capb = k := by omega
    have hcp := HCP.out
    go_wp2_with fail
    go_ret
    exact HFIN.out
end Go.Proofs.Ytbffclcjhcbejaa
