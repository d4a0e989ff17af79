/- Walks: slices.symMergeCmpFunc, stableCmpFunc, SortStableFunc at relocations. Conditions: what each states. -/
import Derived.Test.YteoglkofeogknaaGreatDoorSBR
import Derived.Deep.Cut
import Derived.Test.YteoglkofeogknaaGreatDoorPA
set_option linter.unusedVariables false
set_option linter.unusedSimpArgs false
namespace Go.Proofs.YteoglkofeogknaaGreatDoor
open Go.RowKit
/-- What symMerge does to pieces of so many elements. -/
def SymOKR (n : Nat) : Prop := ∀ (B g N cap a m b : Nat) (P L R S : List Rel) (w : World), b - a ≤ n → SrtR w B g N cap (P ++ L ++ R ++ S) → P.length = a → a + L.length = m → m + R.length = b → N ≤ 1099511627776 → 0 < L.length → 0 < R.length → Up keyR L → Up keyR R → (∀ x ∈ L, OkR x) → (∀ x ∈ R, OkR x) →
    Calls Tryz.prog 91 #[.slice (some ⟨g, 0, none⟩) N cap, .int .i64 a, .int .i64 m, .int .i64 b, .func (.func 42) #[] #[]] w (fun e w' => e = .returned (.tuple #[]) ∧ ∃ M', StS keyR (L ++ R) M' ∧ SrtR w' B g N cap (P ++ M' ++ S) ∧ Keeps (fun i => i = g ∨ w.heap.size ≤ i) w w')
set_option maxRecDepth 100000 in
set_option maxHeartbeats 8000000 in
theorem symCR (n : Nat) (IH : SymOKR n) (B g N cap a m b : Nat) (P L R S : List Rel) (w : World) (hn : b - a ≤ n + 1) (h : SrtR w B g N cap (P ++ L ++ R ++ S)) (ha : P.length = a) (hm : a + L.length = m) (hb : m + R.length = b) (hN : N ≤ 1099511627776) (hL1 : 1 < L.length) (hR1 : 1 < R.length) (hupL : Up keyR L) (hupR : Up keyR R) (hokL : ∀ x ∈ L, OkR x) (hokR : ∀ x ∈ R, OkR x) :
    Calls Tryz.prog 91 #[.slice (some ⟨g, 0, none⟩) N cap, .int .i64 a, .int .i64 m, .int .i64 b, .func (.func 42) #[] #[]] w (fun e w' => e = .returned (.tuple #[]) ∧ ∃ M', StS keyR (L ++ R) M' ∧ SrtR w' B g N cap (P ++ M' ++ S) ∧ Keeps (fun i => i = g ∨ w.heap.size ≤ i) w w') := by
  have hNl := h.1
  simp only [List.length_append] at hNl
  have hbN : b ≤ N := by omega
  obtain ⟨_, hgw, hnc, hcm⟩ := h.lt
  unfold maxLen at hcm
  have ham : a + 2 ≤ m := by omega
  have hmb : m + 2 ≤ b := by omega
  obtain ⟨mid, hmid⟩ : ∃ mid, (a + b) / 2 = mid := ⟨_, rfl⟩
  obtain ⟨nn, hnn⟩ : ∃ nn, mid + m = nn := ⟨_, rfl⟩
  obtain ⟨lo, hi, hlh⟩ : ∃ lo hi, (mid < m ∧ lo = nn - b ∧ hi = mid) ∨ (m ≤ mid ∧ lo = a ∧ hi = m) := by
    rcases Nat.lt_or_ge mid m with h1 | h1
    · exact ⟨_, _, Or.inl ⟨h1, rfl, rfl⟩⟩
    · exact ⟨_, _, Or.inr ⟨h1, rfl, rfl⟩⟩
  have f1 : a ≤ lo := by omega
  have f2 : lo ≤ hi := by omega
  have f3 : hi ≤ m := by omega
  have f4 : hi ≤ mid := by omega
  have f5 : nn ≤ lo + b := by omega
  have f6 : mid ≤ nn := by omega
  have f7 : mid < b := by omega
  have f8 : a < mid := by omega
  have hpost : ∀ (W : World) (st en : Nat), lo ≤ st → st ≤ hi → en = nn - st → Below w.heap.size w W → (lo < st → ∀ h1 : st - 1 - a < L.length, ∀ h2 : en - m < R.length, keyR L[st - 1 - a] ≤ keyR R[en - m]) → (st < hi → ∀ h1 : st - a < L.length, ∀ h2 : en - 1 - m < R.length, keyR R[en - 1 - m] < keyR L[st - a]) →
      (∀ r ∈ R.take (en - m), ∀ l ∈ L.drop (st - a), keyR r < keyR l) ∧ ∀ l ∈ L.take (st - a), ∀ r ∈ R.drop (en - m), keyR l ≤ keyR r := by
    intro W st en s1 s2 s3 _ c1 c2
    constructor
    · intro r hr l hl
      obtain ⟨q, hq, rfl⟩ := List.mem_take_iff_getElem.1 hr
      obtain ⟨q', hq', rfl⟩ := List.mem_iff_getElem.1 hl
      rw [List.length_drop] at hq'
      rw [List.getElem_drop]
      have h1 := c2 (by omega) (by omega) (by omega)
      have h2 : keyR R[q] ≤ keyR (R[en - 1 - m]'(by omega)) := by
        rcases Nat.lt_or_ge q (en - 1 - m) with e | e
        · exact List.pairwise_iff_getElem.1 hupR q _ (by omega) (by omega) e
        · have : q = en - 1 - m := by omega
          subst this; exact Int.le_refl _
      have h3 : keyR (L[st - a]'(by omega)) ≤ keyR (L[st - a + q']'(by omega)) := by
        rcases Nat.eq_zero_or_pos q' with e | e
        · subst e; exact Int.le_refl _
        · exact List.pairwise_iff_getElem.1 hupL _ _ (by omega) (by omega) (by omega)
      omega
    · intro l hl r hr
      obtain ⟨q, hq, rfl⟩ := List.mem_take_iff_getElem.1 hl
      obtain ⟨q', hq', rfl⟩ := List.mem_iff_getElem.1 hr
      rw [List.length_drop] at hq'
      rw [List.getElem_drop]
      have h1 := c1 (by omega) (by omega) (by omega)
      have h2 : keyR L[q] ≤ keyR (L[st - 1 - a]'(by omega)) := by
        rcases Nat.lt_or_ge q (st - 1 - a) with e | e
        · exact List.pairwise_iff_getElem.1 hupL q _ (by omega) (by omega) e
        · have : q = st - 1 - a := by omega
          subst this; exact Int.le_refl _
      have h3 : keyR (R[en - m]'(by omega)) ≤ keyR (R[en - m + q']'(by omega)) := by
        rcases Nat.eq_zero_or_pos q' with e | e
        · subst e; exact Int.le_refl _
        · exact List.pairwise_iff_getElem.1 hupR _ _ (by omega) (by omega) (by omega)
      omega
  have HPOST := Lib.hid hpost
  have H := Lib.hid h
  have HUPL := Lib.hid hupL
  have HUPR := Lib.hid hupR
  have HOKL := Lib.hid hokL
  have HOKR := Lib.hid hokR
  have HIH := Lib.hid IH
  obtain ⟨l, hl⟩ : ∃ l, L.length = l := ⟨_, rfl⟩
  obtain ⟨rl, hrl⟩ : ∃ rl, R.length = rl := ⟨_, rfl⟩
  have HL := Lib.hid hl
  have HRL := Lib.hid hrl
  rw [hl] at hm
  rw [hrl] at hb
  have HA := Lib.hid ha
  have HM := Lib.hid hm
  have HB := Lib.hid hb
  have HLH := Lib.hid hlh
  have HNN := Lib.hid hnn
  have HHN := Lib.hid hn
  obtain ⟨l2, hl2⟩ : ∃ l2, m - a = l2 := ⟨_, rfl⟩
  obtain ⟨r2, hr2⟩ : ∃ r2, b - m = r2 := ⟨_, rfl⟩
  have e1 : IntKind.i64.wrap ((m : Int) - (a : Int)) = (l2 : Int) := by rw [IntWalk.i64_in _ (by omega)]; omega
  have q1 : ((l2 : Int) == 1) = false := by simp; omega
  have e2 : IntKind.i64.wrap ((b : Int) - (m : Int)) = (r2 : Int) := by rw [IntWalk.i64_in _ (by omega)]; omega
  have q2 : ((r2 : Int) == 1) = false := by simp; omega
  have e3 : ((a : Int) + (b : Int)) / 2 = (mid : Int) := by omega
  have e4 : IntKind.i64.wrap ((mid : Int) + (m : Int)) = (nn : Int) := by rw [IntWalk.i64_in _ (by omega)]; omega
  have hnnb : b ≤ nn ∨ nn < b := by omega
  have hnn1 : 1 ≤ nn := by omega
  have hnnN : nn ≤ 2 * N := by omega
  clear h ha hm hb hupL hupR hokL hokR IH hpost hl hrl hnn hmid hlh hl2 hr2 hNl hn hL1 hR1
  go_enter Tryz.func91, Tryz.ntmps91
  go_upto_if 140 with fail
  go_cut [20, 21] from 25 (fun s t wc => s = .int .i64 lo ∧ t = .int .i64 hi ∧ wc = w)
  case first => as_aux_lemma =>
    rcases HLH.out with ⟨g1, g2, g3⟩ | ⟨g1, g2, g3⟩
    · have q3 : IntKind.i64.wrap ((nn : Int) - (b : Int)) = (lo : Int) := by have := HNN.out; rw [IntWalk.i64_in _ (by omega)]; omega
      have HG3 := Lib.hid g3
      clear g2 g3
      go_wp2_with fail
      go_meet
      case rel => exact ⟨rfl, by rw [HG3.out], rfl⟩
    · have g4 : ¬ ((mid : Int) < (m : Int)) := by omega
      have HG2 := Lib.hid g2
      have HG3 := Lib.hid g3
      clear g2 g3
      go_wp2_with fail
      go_meet
      case rel => exact ⟨by rw [HG2.out], by rw [HG3.out], rfl⟩
  case rest =>
    obtain ⟨rfl, rfl, hcw⟩ := hcut
    rw [hcw]
    clear hcw wc
    obtain ⟨p, hp⟩ : ∃ p, nn - 1 = p := ⟨_, rfl⟩
    have e5 : IntKind.i64.wrap ((nn : Int) - 1) = (p : Int) := by rw [IntWalk.i64_in _ (by omega)]; omega
    have HP : Hid (p + 1 = nn) := by show p + 1 = nn; omega
    clear hp e1 e2 e3 e4 q1 q2
    go_wp2_with fail
    go_loopw [20, 21] (fun vi vj wr => ∃ i j : Nat, lo ≤ i ∧ i ≤ j ∧ j ≤ hi ∧ vi = .int .i64 i ∧ vj = .int .i64 j ∧ Hid (Below w.heap.size w wr ∧ (lo < i → ∀ h1 : i - 1 - a < L.length, ∀ h2 : nn - i - m < R.length, keyR L[i - 1 - a] ≤ keyR R[nn - i - m]) ∧ (j < hi → ∀ h1 : j - a < L.length, ∀ h2 : nn - j - 1 - m < R.length, keyR R[nn - j - 1 - m] < keyR L[j - a]))) (fun vi vj _ => (intOf vj).toNat - (intOf vi).toNat)
    case atStart => exact ⟨lo, hi, Nat.le_refl _, f2, Nat.le_refl _, rfl, rfl, Below.refl _ _, (fun h => absurd h (Nat.lt_irrefl _)), fun h => absurd h (Nat.lt_irrefl _)⟩
    case round =>
      obtain ⟨i, j, hmi, hij, hjb, rfl, rfl, HR⟩ := hrel
      by_cases hlt : i < j
      · obtain ⟨c, hc⟩ : ∃ c, (i + j) / 2 = c := ⟨_, rfl⟩
        have hic : i ≤ c := by omega
        have hcj : c < j := by omega
        have ec : ((i : Int) + (j : Int)) / 2 = (c : Int) := by omega
        obtain ⟨d, hd⟩ : ∃ d, p - c = d := ⟨_, rfl⟩
        have hHP := HP.out
        have hHM := HM.out
        have hHB := HB.out
        have hHNN := HNN.out
        have hLl := HL.out
        have hRl := HRL.out
        have hcL : c - a < L.length := by omega
        have hdm : m ≤ d := by omega
        have hdR : d - m < R.length := by omega
        obtain ⟨x, hx⟩ : ∃ x, L[c - a] = x := ⟨_, rfl⟩
        obtain ⟨y, hy⟩ : ∃ y, R[d - m] = y := ⟨_, rfl⟩
        have HXOK : Hid (OkR x) := by rw [← hx]; exact HOKL.out _ (List.getElem_mem hcL)
        have HYOK : Hid (OkR y) := by rw [← hy]; exact HOKR.out _ (List.getElem_mem hdR)
        have hcutL : L = L.take (c - a) ++ x :: L.drop (c - a + 1) := by rw [← hx, ← List.drop_eq_getElem_cons hcL, List.take_append_drop]
        have hcutR : R = R.take (d - m) ++ y :: R.drop (d - m + 1) := by rw [← hy, ← List.drop_eq_getElem_cons hdR, List.take_append_drop]
        have hro := H.out.below HR.out.1
        have hr1 : SrtR wr B g N cap ((P ++ L.take (c - a)) ++ x :: (L.drop (c - a + 1) ++ R ++ S)) := by
          have := hro
          rw [hcutL] at this
          simpa only [List.append_assoc, List.cons_append, List.nil_append] using this
        have hr2 : SrtR wr B g N cap ((P ++ L ++ R.take (d - m)) ++ y :: (R.drop (d - m + 1) ++ S)) := by
          have := hro
          rw [hcutR] at this
          simpa only [List.append_assoc, List.cons_append, List.nil_append] using this
        have hPl := HA.out
        obtain ⟨c0, c1, c2, c3, c4⟩ := hr1.mid (i := c) (by rw [List.length_append, List.length_take]; omega)
        obtain ⟨d0, d1, d2, d3, d4⟩ := hr2.mid (i := d) (by rw [List.length_append, List.length_append, List.length_take]; omega)
        have HGL : Hid (g < wr.heap.size) := hro.lt.2.1
        have HLOW : Hid (keyR x ≤ keyR y → lo < c + 1 → ∀ h1 : c + 1 - 1 - a < L.length, ∀ h2 : nn - (c + 1) - m < R.length, keyR L[c + 1 - 1 - a] ≤ keyR R[nn - (c + 1) - m]) := fun hyx _ h1 h2 => by
          have z1 : c + 1 - 1 - a = c - a := by omega
          have z2 : nn - (c + 1) - m = d - m := by omega
          simp only [z1, z2, hx, hy]
          exact hyx
        have HHIGH : Hid (keyR y < keyR x → c < hi → ∀ h1 : c - a < L.length, ∀ h2 : nn - c - 1 - m < R.length, keyR R[nn - c - 1 - m] < keyR L[c - a]) := fun hyx _ h1 h2 => by
          have z2 : nn - c - 1 - m = d - m := by omega
          simp only [z2, hx, hy]
          exact hyx
        have e6 : IntKind.i64.wrap ((p : Int) - (c : Int)) = (d : Int) := by rw [IntWalk.i64_in _ (by omega)]; omega
        have hdN : d < N := by omega
        have hcN : c < N := by omega
        have e7 : (0 : Int) ≤ (d : Int) := by omega
        have e8 : (d : Int) < ((N : Nat) : Int) := by omega
        have e9 : (0 : Int) ≤ (c : Int) := by omega
        have e10 : (c : Int) < ((N : Nat) : Int) := by omega
        clear hro hr1 hr2 hcutL hcutR hx hy hcL hdR hdm hd hc hHP hHM hHB hHNN hLl hRl hPl
        go_wp2_with fail
        go_region_held3 (fun w' => w'.cell? ⟨g, d * 5, none⟩ = some (.int .i64 y.sec) ∧ w'.cell? ⟨g, d * 5 + 1, none⟩ = some (.int .i64 y.at_) ∧ w'.cell? ⟨g, d * 5 + 2, none⟩ = some (.int .i64 y.kd) ∧ w'.cell? ⟨g, d * 5 + 3, none⟩ = some (.int .i64 y.add) ∧ w'.cell? ⟨g, d * 5 + 4, none⟩ = some (.string y.nm) ∧ w'.cell? ⟨g, c * 5, none⟩ = some (.int .i64 x.sec) ∧ w'.cell? ⟨g, c * 5 + 1, none⟩ = some (.int .i64 x.at_) ∧ w'.cell? ⟨g, c * 5 + 2, none⟩ = some (.int .i64 x.kd) ∧ w'.cell? ⟨g, c * 5 + 3, none⟩ = some (.int .i64 x.add) ∧ w'.cell? ⟨g, c * 5 + 4, none⟩ = some (.string x.nm)) (first | go_keep | exact ⟨t0, t1, t2, t3, t4, t5, t6, t7, t8, t9⟩)
          (first
            | (go_at_call 42; refine (cmpR y x _ HYOK.out HXOK.out).mono ?_; rintro e w3 ⟨⟨r, rfl, hr⟩, hb3⟩
               have t0 : w3.cell? ⟨g, d * 5, none⟩ = some (.int .i64 y.sec) := (hb3.cell (p := ⟨g, d * 5, none⟩) HGL.out).trans d0
               have t1 : w3.cell? ⟨g, d * 5 + 1, none⟩ = some (.int .i64 y.at_) := (hb3.cell (p := ⟨g, d * 5 + 1, none⟩) HGL.out).trans d1
               have t2 : w3.cell? ⟨g, d * 5 + 2, none⟩ = some (.int .i64 y.kd) := (hb3.cell (p := ⟨g, d * 5 + 2, none⟩) HGL.out).trans d2
               have t3 : w3.cell? ⟨g, d * 5 + 3, none⟩ = some (.int .i64 y.add) := (hb3.cell (p := ⟨g, d * 5 + 3, none⟩) HGL.out).trans d3
               have t4 : w3.cell? ⟨g, d * 5 + 4, none⟩ = some (.string y.nm) := (hb3.cell (p := ⟨g, d * 5 + 4, none⟩) HGL.out).trans d4
               have t5 : w3.cell? ⟨g, c * 5, none⟩ = some (.int .i64 x.sec) := (hb3.cell (p := ⟨g, c * 5, none⟩) HGL.out).trans c0
               have t6 : w3.cell? ⟨g, c * 5 + 1, none⟩ = some (.int .i64 x.at_) := (hb3.cell (p := ⟨g, c * 5 + 1, none⟩) HGL.out).trans c1
               have t7 : w3.cell? ⟨g, c * 5 + 2, none⟩ = some (.int .i64 x.kd) := (hb3.cell (p := ⟨g, c * 5 + 2, none⟩) HGL.out).trans c2
               have t8 : w3.cell? ⟨g, c * 5 + 3, none⟩ = some (.int .i64 x.add) := (hb3.cell (p := ⟨g, c * 5 + 3, none⟩) HGL.out).trans c3
               have t9 : w3.cell? ⟨g, c * 5 + 4, none⟩ = some (.string x.nm) := (hb3.cell (p := ⟨g, c * 5 + 4, none⟩) HGL.out).trans c4
               have HB3 := Lib.hid hb3
               have HRK := Lib.hid hr
               clear hb3 hr))
        have HB4 := Lib.hid (HR.out.1.drew.trans (HB3.out.mono HR.out.1.drew.size))
        obtain ⟨bb, hbb⟩ : ∃ bb, (!decide (r < 0)) = bb := ⟨_, rfl⟩
        rw [hbb]
        have HBB := Lib.hid hbb
        clear hbb
        cases bb with
        | false =>
          have hxy : keyR y < keyR x := HRK.out.1 (by have := HBB.out; simpa using this)
          have HNX := Lib.hid (HHIGH.out hxy)
          clear hxy HLOW HHIGH ec
          go_wp2_with fail
          go_roundw
          case rel => exact ⟨i, c, hmi, hic, by omega, rfl, rfl, HB4.out, HR.out.2.1, HNX.out⟩
          case measure => simp [intOf]; omega
        | true =>
          have hxy : ¬ keyR y < keyR x := fun h => by have h1 := HRK.out.2 h; have := HBB.out; simp at this; omega
          have HNX := Lib.hid (HLOW.out (Int.not_lt.1 hxy))
          clear hxy HLOW HHIGH ec
          go_wp2_with fail
          go_roundw
          case rel => exact ⟨c + 1, j, by omega, by omega, hjb, by go_num, rfl, HB4.out, HNX.out, HR.out.2.2⟩
          case measure => simp [intOf]; omega
      · have hij2 : i = j := by omega
        subst hij2
        obtain ⟨en, hen⟩ : ∃ en, nn - i = en := ⟨_, rfl⟩
        have e6 : IntKind.i64.wrap ((nn : Int) - (i : Int)) = (en : Int) := by rw [IntWalk.i64_in _ (by omega)]; omega
        have h1 := HPOST.out wr i en hmi hjb hen.symm HR.out.1 (by rw [← hen]; exact HR.out.2.1) (by rw [← hen]; exact HR.out.2.2)
        have HLT := Lib.hid h1.1
        have HLE := Lib.hid h1.2
        have HHN2 := HHN.out
        have HNN2 := HNN.out
        have HM2 := HM.out
        have HB2 := HB.out
        have hai : a ≤ i := by omega
        have him : i ≤ m := by omega
        have hmid : i ≤ mid := by omega
        have hmen : m ≤ en := by omega
        have henb : en ≤ b := by omega
        have hpos : i + (en - m) = mid := by omega
        have hpos2 : mid + (m - i) = en := by omega
        -- the four pieces
        obtain ⟨L1, hL1⟩ : ∃ L1, L.take (i - a) = L1 := ⟨_, rfl⟩
        obtain ⟨L2, hL2⟩ : ∃ L2, L.drop (i - a) = L2 := ⟨_, rfl⟩
        obtain ⟨R1, hR1⟩ : ∃ R1, R.take (en - m) = R1 := ⟨_, rfl⟩
        obtain ⟨R2, hR2⟩ : ∃ R2, R.drop (en - m) = R2 := ⟨_, rfl⟩
        have l1 : L1.length = i - a := by have := HL.out; rw [← hL1, List.length_take]; omega
        have l2' : L2.length = m - i := by have := HL.out; rw [← hL2, List.length_drop]; omega
        have l3 : R1.length = en - m := by have := HRL.out; rw [← hR1, List.length_take]; omega
        have l4 : R2.length = b - en := by have := HRL.out; rw [← hR2, List.length_drop]; omega
        have hLL : L1 ++ L2 = L := by rw [← hL1, ← hL2, List.take_append_drop]
        have hRR : R1 ++ R2 = R := by rw [← hR1, ← hR2, List.take_append_drop]
        rw [hR1, hL2] at HLT
        rw [hR2, hL1] at HLE
        have HW : Hid (SrtR wr B g N cap (P ++ L1 ++ (L2 ++ R1) ++ R2 ++ S) ∧ Keeps (fun z => z = g ∨ w.heap.size ≤ z) w wr) := by
          refine ⟨?_, keeps_of_below _ HR.out.1⟩
          have := H.out.below HR.out.1
          rw [← hLL, ← hRR] at this
          simpa only [List.append_assoc] using this
        have HL1 := Lib.hid l1
        have HL2 := Lib.hid l2'
        have HR1 := Lib.hid l3
        have HR2 := Lib.hid l4
        have hupLL := HUPL.out
        rw [← hLL] at hupLL
        have hupRR := HUPR.out
        rw [← hRR] at hupRR
        have HU1 := Lib.hid (up_append.1 hupLL)
        have HU2 := Lib.hid (up_append.1 hupRR)
        have HO1 : Hid ((∀ x ∈ L1, OkR x) ∧ ∀ x ∈ L2, OkR x) := ⟨fun x hx => HOKL.out x (by rw [← hLL]; exact List.mem_append_left _ hx), fun x hx => HOKL.out x (by rw [← hLL]; exact List.mem_append_right _ hx)⟩
        have HO2 : Hid ((∀ x ∈ R1, OkR x) ∧ ∀ x ∈ R2, OkR x) := ⟨fun x hx => HOKR.out x (by rw [← hRR]; exact List.mem_append_left _ hx), fun x hx => HOKR.out x (by rw [← hRR]; exact List.mem_append_right _ hx)⟩
        have HJOIN : Hid (∀ M1 M2 : List Rel, StS keyR (L1 ++ R1) M1 → StS keyR (L2 ++ R2) M2 → StS keyR (L ++ R) (M1 ++ M2)) := fun M1 M2 s1 s2 => by
          rw [← hLL, ← hRR]
          exact sts_merge s1 s2 hupLL hupRR HLT.out HLE.out
        clear h1 hL1 hL2 hR1 hR2 hLL hRR l1 l2' l3 l4 hupLL hupRR HLT HLE HR HPOST hen e5 HHN2 HNN2 HM2 HB2 hlt hmi hjb hij
        have HPOS := Lib.hid hpos
        have HPOS2 := Lib.hid hpos2
        clear hpos hpos2
        -- the rotation
        go_upto_region 39 with fail
        go_cut [185] from 25 (fun s wx => s = .bool (decide (i < m) && decide (m < en)) ∧ wx = wr)
        case first => as_aux_lemma =>
          by_cases c1 : i < m
          · by_cases c2 : m < en
            · go_wp2_with fail
              go_meet
              case rel => exact ⟨by simp [c1, c2], rfl⟩
            · have c2' : decide ((m : Int) < (en : Int)) = false := by simp; omega
              go_wp2_with fail
              go_meet
              case rel => exact ⟨by simp [c1, c2], rfl⟩
          · have c1' : decide ((i : Int) < (m : Int)) = false := by simp; omega
            go_wp2_with fail
            go_meet
            case rel => exact ⟨by simp [c1], rfl⟩
        case rest => as_aux_lemma =>
          obtain ⟨rfl, hcw⟩ := hcut
          rw [hcw]
          clear hcw wc
          go_upto_if 185 with fail
          go_cut [] from 25 (fun wx => Hid (SrtR wx B g N cap (P ++ L1 ++ (R1 ++ L2) ++ R2 ++ S) ∧ Keeps (fun i => i = g ∨ w.heap.size ≤ i) w wx))
          case first => as_aux_lemma =>
            by_cases hc : i < m ∧ m < en
            · have hbt : (decide (i < m) && decide (m < en)) = true := by simp [hc.1, hc.2]
              rw [hbt]
              have HC : Hid (Calls Tryz.prog 103 #[.slice (some ⟨g, 0, none⟩) N cap, .int .i64 i, .int .i64 m, .int .i64 en, .func (.func 42) #[] #[]] wr fun e w' => e = .returned (.tuple #[]) ∧ SrtR w' B g N cap (P ++ L1 ++ (R1 ++ L2) ++ R2 ++ S) ∧ Keeps (fun i => i = g ∨ w.heap.size ≤ i) w w') := by
                have z1 := HL1.out
                have z2 := HL2.out
                have z3 := HR1.out
                have z4 := HA.out
                obtain ⟨z5, z6⟩ := hc
                refine (rotateR B g N cap i m en (P ++ L1) L2 R1 (R2 ++ S) _ wr (by have := HW.out.1; simpa only [List.append_assoc] using this) (by rw [List.length_append]; omega) (by omega) (by omega) (by omega) (by omega) hN).mono ?_
                rintro e w' ⟨rfl, h1, h2⟩
                exact ⟨rfl, by simpa only [List.append_assoc] using h1, HW.out.2.trans h2 (fun z _ e => Or.inl e)⟩
              clear hbt hc
              go_wp2_with fail
              refine HC.out.mono ?_
              rintro e w' ⟨rfl, hst⟩
              have HST := Lib.hid hst
              clear hst
              go_wp2_with fail
              go_meet
              case rel => exact HST.out
            · have hbt : (decide (i < m) && decide (m < en)) = false := by simp; omega
              rw [hbt]
              have HST : Hid (SrtR wr B g N cap (P ++ L1 ++ (R1 ++ L2) ++ R2 ++ S) ∧ Keeps (fun i => i = g ∨ w.heap.size ≤ i) w wr) := by
                refine ⟨?_, HW.out.2⟩
                have z2 := HL2.out
                have z3 := HR1.out
                have hsw : L2 ++ R1 = R1 ++ L2 := by
                  by_cases c : i < m
                  · have : R1 = [] := List.eq_nil_of_length_eq_zero (by omega)
                    rw [this]; simp
                  · have : L2 = [] := List.eq_nil_of_length_eq_zero (by omega)
                    rw [this]; simp
                rw [← hsw]
                exact HW.out.1
              clear hbt hc
              go_wp2_with fail
              go_meet
              case rel => exact HST.out
          case rest => as_aux_lemma =>
            generalize wc = w1 at hcut ⊢
            have HW1 := hcut
            clear hcut HW
            go_upto_region 41 with fail
            go_cut [199] from 25 (fun s wx => s = .bool (decide (a < i) && decide (i < mid)) ∧ wx = w1)
            case first => as_aux_lemma =>
              by_cases c1 : a < i
              · by_cases c2 : i < mid
                · go_wp2_with fail
                  go_meet
                  case rel => exact ⟨by simp [c1, c2], rfl⟩
                · have c2' : decide ((i : Int) < (mid : Int)) = false := by simp; omega
                  go_wp2_with fail
                  go_meet
                  case rel => exact ⟨by simp [c1, c2], rfl⟩
              · have c1' : decide ((a : Int) < (i : Int)) = false := by simp; omega
                go_wp2_with fail
                go_meet
                case rel => exact ⟨by simp [c1], rfl⟩
            case rest => as_aux_lemma =>
              obtain ⟨rfl, hcw⟩ := hcut
              rw [hcw]
              clear hcw wc
              go_upto_if 199 with fail
              go_cut [] from 25 (fun wx => Hid (∃ M1, StS keyR (L1 ++ R1) M1 ∧ SrtR wx B g N cap (P ++ M1 ++ (L2 ++ R2) ++ S) ∧ Keeps (fun i => i = g ∨ w.heap.size ≤ i) w wx))
              case first => as_aux_lemma =>
                by_cases hc : a < i ∧ i < mid
                · have hbt : (decide (a < i) && decide (i < mid)) = true := by simp [hc.1, hc.2]
                  rw [hbt]
                  have HC : Hid (Calls Tryz.prog 91 #[.slice (some ⟨g, 0, none⟩) N cap, .int .i64 a, .int .i64 i, .int .i64 mid, .func (.func 42) #[] #[]] w1 fun e w' => e = .returned (.tuple #[]) ∧ ∃ M1, StS keyR (L1 ++ R1) M1 ∧ SrtR w' B g N cap (P ++ M1 ++ (L2 ++ R2) ++ S) ∧ Keeps (fun i => i = g ∨ w.heap.size ≤ i) w w') := by
                    have z1 := HL1.out
                    have z3 := HR1.out
                    have z5 := HPOS.out
                    have z6 := HHN.out
                    obtain ⟨z7, z8⟩ := hc
                    refine (HIH.out B g N cap a i mid P L1 R1 (L2 ++ R2 ++ S) w1 (by omega) (by have := HW1.out.1; simpa only [List.append_assoc] using this) HA.out (by omega) (by omega) hN (by omega) (by omega) HU1.out.1 HU2.out.1 HO1.out.1 HO2.out.1).mono ?_
                    rintro e w' ⟨rfl, M', h1, h2, h3⟩
                    exact ⟨rfl, M', h1, by simpa only [List.append_assoc] using h2, HW1.out.2.trans h3 (fun z _ e => e.imp id (fun e => Nat.le_trans HW1.out.2.size e))⟩
                  clear hbt hc
                  go_wp2_with fail
                  refine HC.out.mono ?_
                  rintro e w' ⟨rfl, hst⟩
                  have HST := Lib.hid hst
                  clear hst
                  go_wp2_with fail
                  go_meet
                  case rel => exact HST.out
                · have hbt : (decide (a < i) && decide (i < mid)) = false := by simp; omega
                  rw [hbt]
                  have HST : Hid (∃ M1, StS keyR (L1 ++ R1) M1 ∧ SrtR w1 B g N cap (P ++ M1 ++ (L2 ++ R2) ++ S) ∧ Keeps (fun i => i = g ∨ w.heap.size ≤ i) w w1) := by
                    have z1 := HL1.out
                    have z3 := HR1.out
                    have z5 := HPOS.out
                    refine ⟨L1 ++ R1, StS.refl ?_, by have := HW1.out.1; simpa only [List.append_assoc] using this, HW1.out.2⟩
                    by_cases c : a < i
                    · have : R1 = [] := List.eq_nil_of_length_eq_zero (by omega)
                      rw [this, List.append_nil]; exact HU1.out.1
                    · have : L1 = [] := List.eq_nil_of_length_eq_zero (by omega)
                      rw [this]; exact HU2.out.1
                  clear hbt hc
                  go_wp2_with fail
                  go_meet
                  case rel => exact HST.out
              case rest => as_aux_lemma =>
                generalize wc = w2 at hcut ⊢
                have HW2 := hcut
                clear hcut HW1
                go_upto_region 43 with fail
                go_cut [213] from 25 (fun s wx => s = .bool (decide (mid < en) && decide (en < b)) ∧ wx = w2)
                case first => as_aux_lemma =>
                  by_cases c1 : mid < en
                  · by_cases c2 : en < b
                    · go_wp2_with fail
                      go_meet
                      case rel => exact ⟨by simp [c1, c2], rfl⟩
                    · have c2' : decide ((en : Int) < (b : Int)) = false := by simp; omega
                      go_wp2_with fail
                      go_meet
                      case rel => exact ⟨by simp [c1, c2], rfl⟩
                  · have c1' : decide ((mid : Int) < (en : Int)) = false := by simp; omega
                    go_wp2_with fail
                    go_meet
                    case rel => exact ⟨by simp [c1], rfl⟩
                case rest => as_aux_lemma =>
                  obtain ⟨rfl, hcw⟩ := hcut
                  rw [hcw]
                  clear hcw wc
                  by_cases hc : mid < en ∧ en < b
                  · have hbt : (decide (mid < en) && decide (en < b)) = true := by simp [hc.1, hc.2]
                    rw [hbt]
                    have HC : Hid (Calls Tryz.prog 91 #[.slice (some ⟨g, 0, none⟩) N cap, .int .i64 mid, .int .i64 en, .int .i64 b, .func (.func 42) #[] #[]] w2 fun e w' => e = .returned (.tuple #[]) ∧ ∃ M', StS keyR (L ++ R) M' ∧ SrtR w' B g N cap (P ++ M' ++ S) ∧ Keeps (fun i => i = g ∨ w.heap.size ≤ i) w w') := by
                      obtain ⟨M1, k1, k2, k3⟩ := HW2.out
                      have z1 := HL1.out
                      have z2 := HL2.out
                      have z3 := HR1.out
                      have z4 := HR2.out
                      have z5 := HPOS.out
                      have z6 := HPOS2.out
                      have z7 := HHN.out
                      have z8 := HA.out
                      obtain ⟨z9, z10⟩ := hc
                      have z11 := k1.len
                      rw [List.length_append] at z11
                      refine (HIH.out B g N cap mid en b (P ++ M1) L2 R2 S w2 (by omega) (by simpa only [List.append_assoc] using k2) (by rw [List.length_append]; omega) (by omega) (by omega) hN (by omega) (by omega) HU1.out.2.1 HU2.out.2.1 HO1.out.2 HO2.out.2).mono ?_
                      rintro e w' ⟨rfl, M', h1, h2, h3⟩
                      exact ⟨rfl, M1 ++ M', HJOIN.out M1 M' k1 h1, by simpa only [List.append_assoc] using h2, k3.trans h3 (fun z _ e => e.imp id (fun e => Nat.le_trans k3.size e))⟩
                    clear hbt hc
                    go_wp2_with fail
                    refine HC.out.mono ?_
                    rintro e w' ⟨rfl, hst⟩
                    have HST := Lib.hid hst
                    clear hst
                    go_wp2_with fail
                    go_end0
                    exact ⟨rfl, HST.out⟩
                  · have hbt : (decide (mid < en) && decide (en < b)) = false := by simp; omega
                    rw [hbt]
                    have HST : Hid (∃ M', StS keyR (L ++ R) M' ∧ SrtR w2 B g N cap (P ++ M' ++ S) ∧ Keeps (fun i => i = g ∨ w.heap.size ≤ i) w w2) := by
                      obtain ⟨M1, k1, k2, k3⟩ := HW2.out
                      have z2 := HL2.out
                      have z4 := HR2.out
                      have z6 := HPOS2.out
                      refine ⟨M1 ++ (L2 ++ R2), HJOIN.out M1 _ k1 (StS.refl ?_), by simpa only [List.append_assoc] using k2, k3⟩
                      by_cases c : mid < en
                      · have : R2 = [] := List.eq_nil_of_length_eq_zero (by omega)
                        rw [this, List.append_nil]; exact HU1.out.2.1
                      · have : L2 = [] := List.eq_nil_of_length_eq_zero (by omega)
                        rw [this]; exact HU2.out.2.1
                    clear hbt hc
                    go_wp2_with fail
                    go_end0
                    exact ⟨rfl, HST.out⟩
theorem smgR : ∀ n, SymOKR n
  | 0 => by
    intro B g N cap a m b P L R S w hn h ha hm hb hN hL hR
    omega
  | n + 1 => by
    intro B g N cap a m b P L R S w hn h ha hm hb hN hL hR hupL hupR hokL hokR
    match L, R with
    | [x], R => exact symAR B g N cap a m b P S x R w h ha hm hb hN hR hupR (hokL x (by simp)) hokR
    | x :: x' :: L, [y] => exact symBR B g N cap a m b P S y (x :: x' :: L) w h ha hm hb hN (by simp) hupL (hokR y (by simp)) hokL
    | x :: x' :: L, y :: y' :: R => exact symCR n (smgR n) B g N cap a m b P (x :: x' :: L) (y :: y' :: R) S w hn h ha hm hb hN (by simp) (by simp) hupL hupR hokL hokR
    | [], R => simp at hL
    | x :: x' :: L, [] => simp at hR
open Go.RowKit
/-- Where the first loop stands. -/
structure St1R (w : World) (B g N cap : Nat) (xs : List Rel) (s : Nat) (C : List (List Rel)) (rest : List Rel) (wr : World) : Prop where
  row : SrtR wr B g N cap (C.flatten ++ rest)
  pcs : Pcs keyR s C
  same : Same keyR xs (C.flatten ++ rest)
  keeps : Keeps (fun i => i = g ∨ w.heap.size ≤ i) w wr
/-- Where a pass of merging stands. -/
structure St2R (w : World) (B g N cap : Nat) (xs : List Rel) (s : Nat) (D C : List (List Rel)) (last : List Rel) (wr : World) : Prop where
  row : SrtR wr B g N cap (D.flatten ++ C.flatten ++ last)
  done : Pcs keyR (2 * s) D
  pcs : Pcs keyR s C
  up : Up keyR last
  short : last.length < s
  same : Same keyR xs (D.flatten ++ C.flatten ++ last)
  keeps : Keeps (fun i => i = g ∨ w.heap.size ≤ i) w wr
theorem keeps_onR {w w1 w2 : World} {g : Nat} (h : Keeps (fun i => i = g ∨ w.heap.size ≤ i) w w1) (h2 : Keeps (fun i => i = g ∨ w1.heap.size ≤ i) w1 w2) : Keeps (fun i => i = g ∨ w.heap.size ≤ i) w w2 := h.trans h2 (fun _ _ e => e.imp id (fun e => Nat.le_trans h.size e))
theorem St1R.sort {w wr w' : World} {B g N cap s : Nat} {xs rest M M' S : List Rel} {C : List (List Rel)} (h : St1R w B g N cap xs s C rest wr) (hr : rest = M ++ S) (hM : M.length = s) (hs : StS keyR M M') (hrow : SrtR w' B g N cap (C.flatten ++ M' ++ S)) (hk : Keeps (fun i => i = g ∨ wr.heap.size ≤ i) wr w') : St1R w B g N cap xs s (C ++ [M']) S w' := by
  refine ⟨by rw [flatten_snoc]; exact hrow, h.pcs.snoc (by rw [hs.len, hM]) hs.up, ?_, keeps_onR h.keeps hk⟩
  rw [flatten_snoc]
  have h1 := h.same
  rw [hr, ← List.append_assoc] at h1
  exact h1.inner hs.same
theorem St2R.merge {w wr w' : World} {B g N cap s : Nat} {xs c1 c2 M last : List Rel} {D C : List (List Rel)} (h : St2R w B g N cap xs s D (c1 :: c2 :: C) last wr) (hs : StS keyR (c1 ++ c2) M) (hrow : SrtR w' B g N cap (D.flatten ++ M ++ (C.flatten ++ last))) (hk : Keeps (fun i => i = g ∨ wr.heap.size ≤ i) wr w') : St2R w B g N cap xs s (D ++ [M]) C last w' := by
  obtain ⟨l1, u1, h1⟩ := h.pcs.tail
  obtain ⟨l2, u2, h2⟩ := h1.tail
  refine ⟨by rw [flatten_snoc]; simpa only [List.append_assoc] using hrow, h.done.snoc (by rw [hs.len, List.length_append]; omega) hs.up, h2, h.up, h.short, ?_, keeps_onR h.keeps hk⟩
  rw [flatten_snoc]
  have h3 := h.same
  simp only [List.flatten_cons, List.append_assoc] at h3
  have h4 : Same keyR xs (D.flatten ++ (c1 ++ c2) ++ (C.flatten ++ last)) := by simpa only [List.append_assoc] using h3
  have := h4.inner hs.same
  simpa only [List.append_assoc] using this
set_option maxRecDepth 100000 in
set_option maxHeartbeats 4000000 in
theorem stableR (B g N cap : Nat) (xs : List Rel) (w : World) (h : SrtR w B g N cap xs) (hok : ∀ x ∈ xs, OkR x) (hN : N ≤ 1099511627776) :
    Calls Tryz.prog 64 #[.slice (some ⟨g, 0, none⟩) N cap, .int .i64 N, .func (.func 42) #[] #[]] w fun e w' => e = .returned (.tuple #[]) ∧ ∃ ys, StS keyR xs ys ∧ SrtR w' B g N cap ys ∧ Keeps (fun i => i = g ∨ w.heap.size ≤ i) w w' := by
  have HOK := Lib.hid hok
  have HLN := Lib.hid h.1
  have HS : Hid (∃ (C : List (List Rel)) (rest : List Rel), C.length = 0 ∧ rest.length = N ∧ St1R w B g N cap xs 20 C rest w) := ⟨[], xs, rfl, h.1, by simpa using h, Pcs.nil _, by simpa using Same.refl xs, Keeps.refl _ _⟩
  clear h hok
  go_enter Tryz.func64, Tryz.ntmps64
  go_wp2_with fail
  go_loopw [7, 8] (fun va vb wr => ∃ a b c r : Nat, a + 20 = b ∧ a + r = N ∧ Hid (a = 20 * c) ∧ va = .int .i64 a ∧ vb = .int .i64 b ∧ Hid (∃ (C : List (List Rel)) (rest : List Rel), C.length = c ∧ rest.length = r ∧ St1R w B g N cap xs 20 C rest wr)) (fun va _ _ => N + 20 - (intOf va).toNat)
  case atStart => exact ⟨0, 20, 0, N, rfl, by omega, rfl, rfl, rfl, HS.out⟩
  case round =>
    obtain ⟨a, b, c, r, hab, har, HAC, rfl, rfl, HR⟩ := hrel
    have haN : a ≤ N := by omega
    by_cases hlt : b ≤ N
    · have HC : Hid (Calls Tryz.prog 90 #[.slice (some ⟨g, 0, none⟩) N cap, .int .i64 a, .int .i64 b, .func (.func 42) #[] #[]] wr fun e w' => e = .returned (.tuple #[]) ∧ ∃ (C : List (List Rel)) (rest : List Rel), C.length = c + 1 ∧ rest.length = r - 20 ∧ St1R w B g N cap xs 20 C rest w') := by
        obtain ⟨C, rest, h1, h2, h3⟩ := HR.out
        have hcut : rest = rest.take 20 ++ rest.drop 20 := (List.take_append_drop _ _).symm
        have hCl := h3.pcs.len
        have hac := HAC.out
        rw [h1] at hCl
        refine (insR B g N cap a b C.flatten (rest.take 20) (rest.drop 20) wr (by have := h3.row; rw [hcut] at this; simpa only [List.append_assoc] using this) (by omega) (by rw [List.length_take]; omega) (fun x hx => HOK.out x (h3.same.mem (List.mem_append_right _ (List.mem_of_mem_take hx)))) hN).mono ?_
        rintro e w' ⟨rfl, M', s1, s2, s3⟩
        exact ⟨rfl, C ++ [M'], rest.drop 20, by simp [h1], by rw [List.length_drop, h2], h3.sort hcut (by rw [List.length_take]; omega) s1 s2 s3⟩
      obtain ⟨b2, hb2⟩ : ∃ b2, b + 20 = b2 := ⟨_, rfl⟩
      have e1 : IntKind.i64.wrap ((b : Int) + 20) = (b2 : Int) := by rw [IntWalk.i64_in _ (by omega)]; omega
      have HAC2 : Hid (b = 20 * (c + 1)) := by have := HAC.out; show b = _; omega
      have HAB := Lib.hid hab
      have HB2 := Lib.hid hb2
      have hm1 : N + 20 - b < N + 20 - a := by omega
      have har2 : b + (r - 20) = N := by omega
      clear HR hab hb2 har
      go_wp2_with fail
      refine HC.out.mono ?_
      rintro e w' ⟨rfl, hst⟩
      have HST := Lib.hid hst
      clear hst
      go_wp2_with fail
      go_roundw
      case rel => exact ⟨b, b2, c + 1, r - 20, HB2.out, har2, HAC2.out, rfl, rfl, HST.out⟩
      case measure => simp [intOf]; omega
    · have HC : Hid (Calls Tryz.prog 90 #[.slice (some ⟨g, 0, none⟩) N cap, .int .i64 a, .int .i64 N, .func (.func 42) #[] #[]] wr fun e w' => e = .returned (.tuple #[]) ∧ ∃ (C : List (List Rel)) (last : List Rel), 20 * C.length + last.length = N ∧ St2R w B g N cap xs 20 [] C last w') := by
        obtain ⟨C, rest, h1, h2, h3⟩ := HR.out
        have hCl := h3.pcs.len
        have hac := HAC.out
        rw [h1] at hCl
        refine (insR B g N cap a N C.flatten rest [] wr (by rw [List.append_nil]; exact h3.row) (by omega) (by omega) (fun x hx => HOK.out x (h3.same.mem (List.mem_append_right _ hx))) hN).mono ?_
        rintro e w' ⟨rfl, M', s1, s2, s3⟩
        rw [List.append_nil] at s2
        have hl := s1.len
        refine ⟨rfl, C, M', by rw [h1, hl]; omega, by simpa using s2, Pcs.nil _, h3.pcs, s1.up, by omega, ?_, keeps_onR h3.keeps s3⟩
        have h4 : Same keyR xs (C.flatten ++ rest ++ []) := by rw [List.append_nil]; exact h3.same
        have := h4.inner s1.same
        simpa using this
      clear HR hab har HAC
      go_wp2_with fail
      refine HC.out.mono ?_
      rintro e w1 ⟨rfl, hst⟩
      have HST := Lib.hid hst
      clear hst HC hlt haN
      go_wp2_with fail
      go_loopw [6] (fun vs wr => ∃ s : Nat, 20 ≤ s ∧ s ≤ 2199023255552 ∧ vs = .int .i64 s ∧ Hid (∃ (C : List (List Rel)) (last : List Rel), s * C.length + last.length = N ∧ St2R w B g N cap xs s [] C last wr)) (fun vs _ => N - (intOf vs).toNat)
      case atStart => exact ⟨20, Nat.le_refl _, by omega, rfl, HST.out⟩
      case round =>
        obtain ⟨s, hs20, hsB, rfl, HR⟩ := hrel
        by_cases hlt : s < N
        · obtain ⟨s2, hs2⟩ : ∃ s2, 2 * s = s2 := ⟨_, rfl⟩
          have e1 : IntKind.i64.wrap (2 * (s : Int)) = (s2 : Int) := by rw [IntWalk.i64_in _ (by omega)]; omega
          have e2 : IntKind.i64.wrap ((s : Int) * 2) = (s2 : Int) := by rw [IntWalk.i64_in _ (by omega)]; omega
          have HS2 := Lib.hid hs2
          have hs2b : s2 ≤ 2199023255552 := by omega
          have hs2s : s < s2 := by omega
          have HST2 : Hid (∃ (D C : List (List Rel)) (last : List Rel), D.length = 0 ∧ s * C.length + last.length = N ∧ St2R w B g N cap xs s D C last wr) := by
            obtain ⟨C, last, h1, h2⟩ := HR.out
            exact ⟨[], C, last, rfl, h1, h2⟩
          clear hs2 HR
          go_wp2_with fail
          go_loopw [7, 8] (fun va vb wi => ∃ a b c r : Nat, a + s2 = b ∧ a + r = N ∧ Hid (a = s2 * c) ∧ va = .int .i64 a ∧ vb = .int .i64 b ∧ Hid (∃ (D C : List (List Rel)) (last : List Rel), D.length = c ∧ s * C.length + last.length = r ∧ St2R w B g N cap xs s D C last wi)) (fun va _ _ => N + s2 - (intOf va).toNat)
          case atStart => exact ⟨0, s2, 0, N, by omega, by omega, rfl, rfl, rfl, HST2.out⟩
          case round =>
            obtain ⟨a, b, c, r, hab, har, HAC, rfl, rfl, HI⟩ := hrel
            have haN : a ≤ N := by omega
            obtain ⟨m, hm⟩ : ∃ m, a + s = m := ⟨_, rfl⟩
            have e3 : IntKind.i64.wrap ((a : Int) + (s : Int)) = (m : Int) := by rw [IntWalk.i64_in _ (by omega)]; omega
            by_cases hlt2 : b ≤ N
            · have HC : Hid (Calls Tryz.prog 91 #[.slice (some ⟨g, 0, none⟩) N cap, .int .i64 a, .int .i64 m, .int .i64 b, .func (.func 42) #[] #[]] wr fun e w' => e = .returned (.tuple #[]) ∧ ∃ (D C : List (List Rel)) (last : List Rel), D.length = c + 1 ∧ s * C.length + last.length = r - s2 ∧ St2R w B g N cap xs s D C last w') := by
                obtain ⟨D, C, last, h1, h2, h3⟩ := HI.out
                have hss := HS2.out
                have hac := HAC.out
                have hDl := h3.done.len
                rw [h1] at hDl
                have hsh := h3.short
                match C, h2, h3 with
                | [], h2, h3 => simp at h2; omega
                | [c1], h2, h3 => simp at h2; omega
                | c1 :: c2 :: C, h2, h3 =>
                  obtain ⟨l1, u1, t1⟩ := h3.pcs.tail
                  obtain ⟨l2, u2, t2⟩ := t1.tail
                  have hmem : ∀ x, x ∈ c1 ∨ x ∈ c2 → OkR x := fun x hx => HOK.out x (h3.same.mem (by rcases hx with hx | hx <;> simp [hx]))
                  have hlen2 : s * (C.length + 1 + 1) + last.length = r := by simpa using h2
                  have hmul : s * (C.length + 1 + 1) = s * C.length + s + s := by rw [Nat.mul_add, Nat.mul_add, Nat.mul_one]
                  rw [hss] at hDl
                  refine (smgR (b - a) B g N cap a m b D.flatten c1 c2 (C.flatten ++ last) wr (Nat.le_refl _) (by have := h3.row; simpa only [List.flatten_cons, List.append_assoc] using this) (by omega) (by omega) (by omega) hN (by omega) (by omega) u1 u2 (fun x hx => hmem x (Or.inl hx)) (fun x hx => hmem x (Or.inr hx))).mono ?_
                  rintro e w' ⟨rfl, M', k1, k2, k3⟩
                  exact ⟨rfl, D ++ [M'], C, last, by simp [h1], by omega, h3.merge k1 k2 k3⟩
              obtain ⟨b2, hb2⟩ : ∃ b2, b + s2 = b2 := ⟨_, rfl⟩
              have e4 : IntKind.i64.wrap ((b : Int) + (s2 : Int)) = (b2 : Int) := by rw [IntWalk.i64_in _ (by omega)]; omega
              have HAC2 : Hid (b = s2 * (c + 1)) := by have := HAC.out; show b = _; rw [Nat.mul_add, Nat.mul_one]; omega
              have HB2 := Lib.hid hb2
              have hm1 : N + s2 - b < N + s2 - a := by omega
              have har2 : b + (r - s2) = N := by omega
              clear HI hab hb2 har hm e2
              go_wp2_with fail
              refine HC.out.mono ?_
              rintro e w' ⟨rfl, hst⟩
              have HSN := Lib.hid hst
              clear hst
              go_wp2_with fail
              go_roundw
              case rel => exact ⟨b, b2, c + 1, r - s2, HB2.out, har2, HAC2.out, rfl, rfl, HSN.out⟩
              case measure => simp [intOf]; omega
            · by_cases hmN : m < N
              · have HC : Hid (Calls Tryz.prog 91 #[.slice (some ⟨g, 0, none⟩) N cap, .int .i64 a, .int .i64 m, .int .i64 N, .func (.func 42) #[] #[]] wr fun e w' => e = .returned (.tuple #[]) ∧ ∃ (C : List (List Rel)) (last : List Rel), s2 * C.length + last.length = N ∧ St2R w B g N cap xs s2 [] C last w') := by
                  obtain ⟨D, C, last, h1, h2, h3⟩ := HI.out
                  have hss := HS2.out
                  have hac := HAC.out
                  have hDl := h3.done.len
                  rw [h1] at hDl
                  have hsh := h3.short
                  match C, h2, h3 with
                  | [], h2, h3 => simp at h2; omega
                  | c1 :: c2 :: C, h2, h3 =>
                    have hlen2 : s * (C.length + 1 + 1) + last.length = r := by simpa using h2
                    have hmul : s * (C.length + 1 + 1) = s * C.length + s + s := by rw [Nat.mul_add, Nat.mul_add, Nat.mul_one]
                    omega
                  | [c1], h2, h3 =>
                    obtain ⟨l1, u1, t1⟩ := h3.pcs.tail
                    have hmem : ∀ x, x ∈ c1 ∨ x ∈ last → OkR x := fun x hx => HOK.out x (h3.same.mem (by rcases hx with hx | hx <;> simp [hx]))
                    have hlen2 : s + last.length = r := by simpa using h2
                    rw [hss] at hDl
                    refine (smgR (N - a) B g N cap a m N D.flatten c1 last [] wr (Nat.le_refl _) (by have := h3.row; simpa using this) (by omega) (by omega) (by omega) hN (by omega) (by omega) u1 h3.up (fun x hx => hmem x (Or.inl hx)) (fun x hx => hmem x (Or.inr hx))).mono ?_
                    rintro e w' ⟨rfl, M', k1, k2, k3⟩
                    have hml := k1.len
                    rw [List.length_append] at hml
                    have hsame : Same keyR xs (D.flatten ++ (c1 ++ last) ++ []) := by have := h3.same; simpa using this
                    have hs3 := hsame.inner k1.same
                    have hdone := h3.done
                    rw [hss] at hdone
                    exact ⟨rfl, D, M', by rw [h1]; omega, by simpa using k2, Pcs.nil _, hdone, k1.up, by omega, by simpa using hs3, keeps_onR h3.keeps k3⟩
                clear HI hab har hm HAC
                go_wp2_with fail
                refine HC.out.mono ?_
                rintro e w' ⟨rfl, hst⟩
                have HSN := Lib.hid hst
                clear hst
                go_wp2_with fail
                go_roundw
                case rel => exact ⟨s2, by omega, hs2b, rfl, HSN.out⟩
                case measure => simp [intOf]; omega
              · have HSN : Hid (∃ (C : List (List Rel)) (last : List Rel), s2 * C.length + last.length = N ∧ St2R w B g N cap xs s2 [] C last wr) := by
                  obtain ⟨D, C, last, h1, h2, h3⟩ := HI.out
                  have hss := HS2.out
                  have hac := HAC.out
                  have hDl := h3.done.len
                  rw [h1] at hDl
                  have hsh := h3.short
                  have hdone := h3.done
                  rw [hss] at hdone hDl
                  match C, h2, h3 with
                  | [], h2, h3 =>
                    have hlen2 : last.length = r := by simpa using h2
                    exact ⟨D, last, by rw [h1]; omega, by simpa using h3.row, Pcs.nil _, hdone, h3.up, by omega, by simpa using h3.same, h3.keeps⟩
                  | c1 :: c2 :: C, h2, h3 =>
                    have hlen2 : s * (C.length + 1 + 1) + last.length = r := by simpa using h2
                    have hmul : s * (C.length + 1 + 1) = s * C.length + s + s := by rw [Nat.mul_add, Nat.mul_add, Nat.mul_one]
                    omega
                  | [c1], h2, h3 =>
                    obtain ⟨l1, u1, t1⟩ := h3.pcs.tail
                    have hlen2 : s + last.length = r := by simpa using h2
                    have hnil : last = [] := List.eq_nil_of_length_eq_zero (by omega)
                    subst hnil
                    exact ⟨D, c1, by rw [h1]; simp at hlen2; omega, by simpa using h3.row, Pcs.nil _, hdone, u1, by omega, by simpa using h3.same, h3.keeps⟩
                clear HI hab har hm HAC
                go_wp2_with fail
                go_roundw
                case rel => exact ⟨s2, by omega, hs2b, rfl, HSN.out⟩
                case measure => simp [intOf]; omega
        · have HFIN : Hid (∃ ys, StS keyR xs ys ∧ SrtR wr B g N cap ys ∧ Keeps (fun i => i = g ∨ w.heap.size ≤ i) w wr) := by
            obtain ⟨C, last, h1, h2⟩ := HR.out
            have hsh := h2.short
            match C, h1, h2 with
            | [], h1, h2 => exact ⟨last, ⟨h2.up, by simpa using h2.same, by have := HLN.out; simp at h1; omega⟩, by simpa using h2.row, h2.keeps⟩
            | [c1], h1, h2 =>
              obtain ⟨l1, u1, t1⟩ := h2.pcs.tail
              have hnil : last = [] := List.eq_nil_of_length_eq_zero (by simp at h1; omega)
              subst hnil
              exact ⟨c1, ⟨u1, by simpa using h2.same, by have := HLN.out; simp at h1; omega⟩, by simpa using h2.row, h2.keeps⟩
            | c1 :: c2 :: C, h1, h2 =>
              have hlen2 : s * (C.length + 1 + 1) + last.length = N := by simpa using h1
              have hmul : s * (C.length + 1 + 1) = s * C.length + s + s := by rw [Nat.mul_add, Nat.mul_add, Nat.mul_one]
              omega
          clear HR
          go_wp2_with fail
          go_end0
          exact ⟨rfl, HFIN.out⟩
set_option maxHeartbeats 1000000 in
theorem sortStableR (B g N cap : Nat) (xs : List Rel) (w : World) (h : SrtR w B g N cap xs) (hok : ∀ x ∈ xs, OkR x) (hN : N ≤ 1099511627776) :
    Calls Tryz.prog 41 #[.slice (some ⟨g, 0, none⟩) N cap, .func (.func 42) #[] #[]] w fun e w' => e = .returned (.tuple #[]) ∧ ∃ ys, StS keyR xs ys ∧ SrtR w' B g N cap ys ∧ Keeps (fun i => i = g ∨ w.heap.size ≤ i) w w' := by
  have HC := Lib.hid (stableR B g N cap xs w h hok hN)
  obtain ⟨_, _, hnc, hcm⟩ := h.lt
  unfold maxLen at hcm
  clear h hok
  go_enter Tryz.func41, Tryz.ntmps41
  go_wp2_with fail
  refine HC.out.mono ?_
  rintro e w' ⟨rfl, hst⟩
  have HST := Lib.hid hst
  clear hst
  go_wp2_with fail
  go_end0
  exact ⟨rfl, HST.out⟩
end Go.Proofs.YteoglkofeogknaaGreatDoor
