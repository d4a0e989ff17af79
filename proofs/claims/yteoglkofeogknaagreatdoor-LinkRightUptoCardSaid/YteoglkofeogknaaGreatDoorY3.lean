/- Walks: slices.Clone, SameBytes, word.Bytes; four bytes of a row are written. Conditions: what each states. -/
import Derived.Test.YteoglkofeogknaaGreatDoorX0
import Derived.Test.YteoglkofeogknaaGreatDoorJA
import Derived.Laws.BytesArg
import Derived.Laws.IdiomStrings
import Derived.BigRegion
import Derived.Test.YteoglkofeogknaaGreatDoorLQ
import Derived.Test.YteoglkofeogknaaGreatDoorX2
import Derived.Laws.CopyRow
set_option linter.unusedVariables false
set_option linter.unusedSimpArgs false
namespace Go.Proofs.YteoglkofeogknaaGreatDoor
open Go.RowKit
set_option maxRecDepth 100000 in
set_option maxHeartbeats 1000000 in
theorem clone_any (v : Value) (bs : List UInt8) (w : World) (h : Bys w v bs) (hl : bs.length ≤ 1099511627776) :
    Calls Tryz.prog 16 #[v] w fun e w' => ∃ v', e = .returned v' ∧ w'.ownsRow w.heap.size 5 1 v' bs.length (bs.map byv) ∧ Below w.heap.size w w' := by
  have hbs : ∀ w, (Instr.buildSlice 37 0 #[]).run Tryz.prog w = .ok (.slice (some ⟨w.heap.size, 0, none⟩) 0 0) (w.alloc (.cells #[] 5)) := fun _ => by kernel_rfl
  obtain ⟨v', w2, hap, ho, hg, hb⟩ := app_any arowB 37 (empty_own (w := w) 5 1) (RowOf.alloc h (.cells #[] 5)) (by simp) (oneB bs) (by unfold maxLen; omega) (by omega) (by simp)
  rw [Nat.zero_add, List.nil_append] at ho
  have HO := Lib.hid ho
  have HB : Hid (Below w.heap.size w w2) := ((Below.refl _ _).alloc (Nat.le_refl _) _).grown hg (by simp) (fun k hk => by simp [Value.ownBlock] at hk; omega)
  have HAP := Lib.hid hap
  obtain ⟨A, cap, rfl, _, _, h4⟩ := h
  have hq : ∀ (w : World) (a : Option Addr) (n c n' c' : Nat), (binOp .eql 37 (.slice a n c) (.slice none n' c')).run Tryz.prog w = .ok (.bool a.isNone) w := fun w a n c n' c' => Lib.run_eql_slice_nil w _ _ a n c n' c' Tryz.underlying37
  cases A with
  | none =>
    have hn : bs = [] := by
      cases bs with
      | nil => rfl
      | cons b bs => obtain ⟨g, off, e, _⟩ := h4 (by simp); cases e
    subst hn
    clear ho hg hb hap HAP HO HB h4
    go_enter Tryz.func16, Tryz.ntmps16
    go_wp2_with fail
    go_ret
    exact ⟨_, rfl, ⟨rfl, Or.inl ⟨rfl, rfl⟩⟩, Below.refl _ _⟩
  | some a =>
    clear ho hg hb hap h4
    go_enter Tryz.func16, Tryz.ntmps16
    go_wp2_with (at_builtin; refine wpList_append_eq rfl (.tmp 5) (.tmp 6) 37 rfl rfl rfl HAP.out ?_)
    go_ret
    exact ⟨_, rfl, HO.out, HB.out⟩
theorem conv_bysY {w : World} {v : Value} {bs : List UInt8} (h : Bys w v bs) : (convert 37 9 v).run Tryz.prog w = .ok (.string ⟨bs.toArray⟩) w := by
  obtain ⟨A, cap, rfl, _, _, h4⟩ := h
  cases A with
  | none =>
    have hn : bs = [] := by
      cases bs with
      | nil => rfl
      | cons b bs => obtain ⟨g, off, e, _⟩ := h4 (by simp); cases e
    subst hn
    exact run_convert_bytes_nil w 37 5 Tryz.underlying37 Tryz.underlying5 _ _ _ Tryz.underlying9
  | some a =>
    refine run_convert_bytes_back w 37 9 5 a cap bs Tryz.underlying37 Tryz.underlying5 Tryz.underlying9 (fun j hj => ?_)
    obtain ⟨g, off, e, _, hc⟩ := h4 (by omega)
    injection e with e
    subst e
    rw [addr_add]
    exact hc j _ (by simp [byv, hj])
set_option maxHeartbeats 1000000 in
theorem same_any (v1 v2 : Value) (xs ys : List UInt8) (w : World) (h1 : Bys w v1 xs) (h2 : Bys w v2 ys) : Calls Tryz.prog 12 #[v1, v2] w fun e w' => e = .returned (.bool (decide (xs = ys))) ∧ Below w.heap.size w w' := by
  have c1 := conv_bysY h1
  have c2 := conv_bysY h2
  have c3 := conv_bysY (w := w.drew) (h1.below (Below.refl _ _).drew)
  have c4 := conv_bysY (w := w.drew) (h2.below (Below.refl _ _).drew)
  clear h1 h2
  go_enter Tryz.func12, Tryz.ntmps12
  go_wp2_with fail
  refine bodyPost_ret (v := .bool (xs == ys)) (by simp [results, Tryz.results12, go_sem]) rfl ?_
  refine ⟨ret_bool ?_, Below.refl _ _⟩
  by_cases e : xs = ys
  · subst e; simp
  · simp [e]
/-- The bytes of a word. -/
def wB (v : Nat) : List UInt8 := [UInt8.ofNat v, UInt8.ofNat (v / 256), UInt8.ofNat (v / 65536), UInt8.ofNat (v / 16777216)]
theorem byv_of (n : Nat) : byv (UInt8.ofNat n) = .int .u8 ((n : Int) % 256) := by unfold byv; simp
theorem wbytes_any (v : Nat) (hv : v < 4294967296) (w : World) : Calls Tryz.prog 32 #[.int .u32 v] w fun e w' => ∃ u, e = .returned u ∧ Bys w' u (wB v) ∧ Below w.heap.size w w' := by
  have hb : Bys (w.alloc (.cells #[.int .u8 ((v : Int) % 256), .int .u8 ((v : Int) / 256 % 256), .int .u8 ((v : Int) / 65536 % 256), .int .u8 ((v : Int) / 16777216)] 5)) (.slice (some ⟨w.heap.size, 0, none⟩) 4 4) (wB v) := by
    refine ⟨some ⟨w.heap.size, 0, none⟩, 4, rfl, Nat.le_refl _, by decide, fun _ => ⟨w.heap.size, 0, rfl, by simp, fun j u hj => ?_⟩⟩
    rw [Nat.zero_add, (Blk.new w _ _).cell]
    have e : (wB v).map byv = [.int .u8 ((v : Int) % 256), .int .u8 ((v : Int) / 256 % 256), .int .u8 ((v : Int) / 65536 % 256), .int .u8 ((v : Int) / 16777216)] := by
      have e1 := byv_of v
      have e2 := byv_of (v / 256)
      have e3 := byv_of (v / 65536)
      have e4 := byv_of (v / 16777216)
      have e5 : ((v / 16777216 : Nat) : Int) % 256 = (v : Int) / 16777216 := by omega
      rw [e5] at e4
      unfold wB
      simp only [List.map_cons, List.map_nil, e1, e2, e3, e4]
      rfl
    rw [e] at hj
    simpa using hj
  have HB := Lib.hid hb
  clear hb
  go_enter Tryz.func32, Tryz.ntmps32
  go_wp2_with fail
  refine bodyPost_ret (v := .slice (some ⟨w.heap.size, 0, none⟩) 4 4) (by simp [results, Tryz.results32, go_sem]) rfl ?_
  exact ⟨_, rfl, HB.out, (Below.refl _ _).alloc (Nat.le_refl _) _⟩
end Go.Proofs.YteoglkofeogknaaGreatDoor
set_option linter.unusedVariables false
set_option linter.unusedSimpArgs false
namespace Go.Proofs.YteoglkofeogknaaGreatDoor
open Go.RowKit
/-- Four bytes are written at a place. -/
def set4 (bs : List UInt8) (k : Nat) (q : List UInt8) : List UInt8 := bs.take k ++ q ++ bs.drop (k + 4)
theorem set4_len {bs q : List UInt8} {k : Nat} (hk : k + 4 ≤ bs.length) (hq : q.length = 4) : (set4 bs k q).length = bs.length := by
  unfold set4
  simp [hq]
  omega
theorem set4_far {bs q : List UInt8} {k j : Nat} (hk : k + 4 ≤ bs.length) (hq : q.length = 4) (hj : j < k ∨ k + 4 ≤ j) : (set4 bs k q)[j]? = bs[j]? := by
  unfold set4
  rcases hj with hj | hj
  · rw [List.append_assoc, List.getElem?_append_left (by simp; omega), List.getElem?_take, if_pos hj]
  · rw [List.getElem?_append_right (by simp [hq]; omega), List.getElem?_drop]
    congr 1
    simp [hq]
    omega
theorem copy4 {w : World} {B g n cap : Nat} {bs : List UInt8} (h : OwnB w B (.slice (some ⟨g, 0, none⟩) n cap) bs) {k : Nat} (hk : k + 4 ≤ bs.length) {u : Value} {q : List UInt8} (hu : Bys w u q) (hq : q.length = 4) :
    ∃ w2, (Builtin.copy_ #[37, 37] 3 #[.slice (some ⟨g, k, none⟩) 4 (cap - k), u]).run Tryz.prog w = .ok (goInt 4) w2 ∧ OwnB w2 B (.slice (some ⟨g, 0, none⟩) n cap) (set4 bs k q) ∧ Keeps (· = g) w w2 := by
  obtain ⟨A, cu, rfl, _, _, hr⟩ := hu
  obtain ⟨gu, ou, rfl, _, hcu⟩ := hr (by omega)
  have hl4 : (q.map byv).length = 4 := by simp [hq]
  unfold OwnB at h
  obtain ⟨hl, h⟩ := h
  rcases h with ⟨h0, _⟩ | ⟨g', cap', cur, hv, hbs, hh, h1, h2, h3, h4⟩
  · cases h0
  simp only [Value.slice.injEq, Option.some.injEq, Addr.mk.injEq, and_true, true_and] at hv
  obtain ⟨rfl, hv2⟩ := hv
  obtain ⟨hn, rfl⟩ : n = bs.length ∧ cap = cap' := by
    rcases hv2 with ⟨a, b⟩
    exact ⟨a, b⟩
  have hs : cur.size = cap := by simpa using h3
  have h4' : cur.toList.take bs.length = bs.map byv := by simpa using h4
  have hc := run_copy_row (P := Tryz.prog) w 37 37 3 5 g k 4 (cap - k) ⟨gu, ou, none⟩ q.length cu cur 5 (q.map byv) Tryz.underlying37 (by kernel_rfl) hh (by rw [hl4, hq]; rfl) (fun j v hj => by rw [addr_add]; exact hcu j v hj) (by rw [hl4, hs]; omega) (oneB q)
  rw [hl4] at hc
  refine ⟨_, hc, ?_, ?_⟩
  · have hlen : (set4 bs k q).length = bs.length := set4_len hk hq
    unfold OwnB
    rw [hlen]
    refine ⟨by simp [hlen], Or.inr ⟨g, cap, (cur.toList.take k ++ q.map byv ++ cur.toList.drop (k + 4)).toArray, by rw [hn], hbs, ?_, by omega, h2, ?_, ?_⟩⟩
    · simp [World.setRow, Array.getElem?_modify, hh]
    · simp [hq]
      omega
    · have e : cur.toList = bs.map byv ++ cur.toList.drop bs.length := by rw [← h4', List.take_append_drop]
      have e1 : cur.toList.take k = (bs.take k).map byv := by
        rw [e, List.take_append_of_le_length (by simp; omega), List.map_take]
      have e2 : cur.toList.drop (k + 4) = (bs.drop (k + 4)).map byv ++ cur.toList.drop bs.length := by
        conv => lhs; rw [e]
        rw [List.drop_append_of_le_length (by simp; omega), List.map_drop]
      rw [e1, e2, ← List.map_append, ← List.append_assoc, ← List.map_append]
      show List.take (bs.length * 1) ((set4 bs k q).map byv ++ cur.toList.drop bs.length) = (set4 bs k q).map byv
      rw [List.take_append_of_le_length (by simp [hlen]), List.take_of_length_le (by simp [hlen])]
  · refine ⟨rfl, rfl, rfl, by simp [World.setRow], fun i _ hne => ?_⟩
    simp only [World.setRow, Array.getElem?_modify]
    rw [if_neg (fun e => hne e.symm)]
/-- The number behind a name. -/
def valI : Option Value → Option Int
  | some (.int _ x) => some x
  | _ => none
/-- The number that an instruction is to have. -/
def putI (kd x fr0 at_ : Int) : Option Int :=
  if kd = 2 then some (x / 65536) else if kd = 3 then some (x % 65536) else if (x - (fr0 + at_ + 4)).tmod 4 = 0 then some ((x - (fr0 + at_ + 4)).tdiv 4) else none
/-- An instruction's word with another number. -/
def putE (d : Int × Int × Int × Int × Int × Int) (i : Int) : Option Nat :=
  if chkA d.1 d.2.1 d.2.2.1 d.2.2.2.1 i then some (encW (FM d.1).2.2.2.1 d.1.toNat d.2.1.toNat d.2.2.1.toNat d.2.2.2.1.toNat i).toNat else none
/-- The word that is put in. -/
def putW (kd x fr0 at_ : Int) (v : Nat) : Option Nat :=
  if kd = 1 then some x.toNat
  else if (dcA v).2.2.2.2.2 = 0 then (match putI kd x fr0 at_ with | some i => putE (dcA v) i | none => none) else none
/-- What put answers, and the word. -/
def putR (X : Option Int) (r : Rel) (fr0 : Int) (bs : List UInt8) : Int × Nat :=
  match X with
  | none => (60, 0)
  | some x => match putW r.kd (x + r.add) fr0 r.at_ (w4 bs r.at_.toNat).toNat with
    | none => (61, 0)
    | some v => (0, v)
theorem dc_ok {v : Nat} (h : v < 4294967296) (he : (dcA v).2.2.2.2.2 = 0) : ∃ o d a b : Nat, ∃ i : Int, dcA v = ((o : Int), (d : Int), (a : Int), (b : Int), i, 0) ∧ o ≤ 42 ∧ d ≤ 15 ∧ a ≤ 15 ∧ b ≤ 15 := by
  unfold dcA dcQ dcR at he ⊢
  split at he
  · rename_i hc
    rw [if_pos hc]
    simp only [Bool.and_eq_true] at hc
    have h42 : v / 16777216 ≤ 42 := by
      rcases Nat.lt_or_ge 42 (v / 16777216) with h | h
      · have e := FM_none (n := ((v / 16777216 : Nat) : Int)) (Or.inr (by omega))
        rw [e] at hc
        exact absurd hc.1 (by decide)
      · exact h
    refine ⟨_, _, _, _, _, rfl, h42, ?_, ?_, ?_⟩
    all_goals
      unfold dcF
      split <;> omega
  · exact absurd he (by decide)
theorem encW_nat (n : Int) (hn : n = 0 ∨ n = 16 ∨ n = 24) (o d a b : Nat) (i : Int) (ho : o ≤ 42) (hd : d ≤ 15) (ha : a ≤ 15) (hb : b ≤ 15) : ∃ v : Nat, encW n o d a b i = (v : Int) ∧ v < 4294967296 := by
  have hh := headW_sum o d a b ho hd ha hb
  have hlt : o * 16777216 + d * 1048576 + a * 65536 + b * 4096 < 4294967296 := by omega
  obtain ⟨h, hh2⟩ : ∃ h, o * 16777216 + d * 1048576 + a * 65536 + b * 4096 = h := ⟨_, rfl⟩
  rw [hh2] at hh hlt
  obtain ⟨j, hj⟩ : ∃ j : Nat, i % 4294967296 = (j : Int) := ⟨(i % 4294967296).toNat, by omega⟩
  have hj2 : j < 4294967296 := by omega
  rcases hn with rfl | rfl | rfl
  · exact ⟨h, by rw [encW_0, hh], hlt⟩
  · have hm : bits .and .u32 (j : Int) 65535 = ((j % 65536 : Nat) : Int) := mask_u32 j 16 hj2 (by omega)
    refine ⟨h ||| (j % 65536), ?_, Nat.or_lt_two_pow (n := 32) (by omega) (by omega)⟩
    rw [encW_16, hh, hj, hm, or_nat _ _ hlt (by omega)]
  · have hm : bits .and .u32 (j : Int) 16777215 = ((j % 16777216 : Nat) : Int) := mask_u32 j 24 hj2 (by omega)
    refine ⟨h ||| (j % 16777216), ?_, Nat.or_lt_two_pow (n := 32) (by omega) (by omega)⟩
    rw [encW_24, hh, hj, hm, or_nat _ _ hlt (by omega)]
end Go.Proofs.YteoglkofeogknaaGreatDoor
