/- Walks: mem.Check. Conditions: names within the model's lengths. -/
import Derived.Test.YtbffclcjhcbejaaW7
namespace Go.Proofs.Ytbffclcjhcbejaa
open Go.RowKit

/-- Is one range right by itself? -/
def rngB (r : Rng) : Bool :=
  nameB r.nm && decide (16 ≤ r.fr) && decide (r.fr ≤ 4294967296) && decide (0 ≤ r.sz) && decide (r.sz ≤ 16777216) && decide (r.fr % 16 = 0) && decide (r.sz % 16 = 0) && decide (r.fr + r.sz ≤ 4294967296)
def okAt (rs : List Rng) (k : Nat) : Bool :=
  match rs[k]? with
  | some r => rngB r && !((rs.take k).any (clash r))
  | none => true
def chkAll (rs : List Rng) : Bool := (List.range rs.length).all (okAt rs)
/-- What Check comes to. -/
def chkR (rs : List Rng) : Int := if 16 < rs.length then 3 else if chkAll rs then 0 else 5

theorem rngB_ok {r : Rng} (h : rngB r = true) : r.Ok := by
  simp [rngB] at h
  obtain ⟨⟨⟨⟨⟨⟨⟨_, h1⟩, h2⟩, h3⟩, h4⟩, _⟩, _⟩, h5⟩ := h
  exact ⟨h1, h2, h3, h4, h5⟩
theorem okAt_lt {rs : List Rng} {k : Nat} (hk : k < rs.length) : okAt rs k = (rngB rs[k] && !((rs.take k).any (clash rs[k]))) := by
  simp [okAt, List.getElem?_eq_getElem hk]
theorem chk_bad {rs : List Rng} {k : Nat} (hl : rs.length ≤ 16) (hk : k < rs.length) (h : okAt rs k = false) : chkR rs = 5 := by
  unfold chkR
  rw [if_neg (by omega)]
  have : chkAll rs = false := by
    unfold chkAll
    rw [List.all_eq_false]
    exact ⟨k, List.mem_range.2 hk, by simp [h]⟩
  simp [this]
theorem chk_good {rs : List Rng} (hl : rs.length ≤ 16) (h : ∀ j, j < rs.length → okAt rs j = true) : chkR rs = 0 := by
  unfold chkR
  rw [if_neg (by omega)]
  have : chkAll rs = true := by
    unfold chkAll
    rw [List.all_eq_true]
    exact fun j hj => h j (List.mem_range.1 hj)
  simp [this]
theorem oks_of {rs : List Rng} {k : Nat} (h : ∀ j, j < k → okAt rs j = true) (hk : k ≤ rs.length) : ∀ o ∈ rs.take k, o.Ok := by
  intro o ho
  obtain ⟨j, hj, rfl⟩ := List.mem_take_iff_getElem.1 ho
  have h1 := h j (by omega)
  rw [okAt_lt (by omega)] at h1
  simp at h1
  exact rngB_ok h1.1

/-- How a range fails, test by test. -/
theorem rng_cases (r : Rng) : (rngB r = true) ∨ (rngB r = false ∧ (nameB r.nm = false ∨ nameB r.nm = true ∧ (r.fr < 16 ∨ 16 ≤ r.fr ∧ (4294967296 < r.fr ∨ r.fr ≤ 4294967296 ∧ (r.sz < 0 ∨ 0 ≤ r.sz ∧ (16777216 < r.sz ∨ r.sz ≤ 16777216 ∧
    ((r.fr % 16 != 0) = true ∨ (r.fr % 16 != 0) = false ∧ ((r.sz % 16 != 0) = true ∨ (r.sz % 16 != 0) = false ∧ 4294967296 < r.fr + r.sz)))))))) := by
  cases h : rngB r with
  | true => exact Or.inl rfl
  | false =>
    refine Or.inr ⟨rfl, ?_⟩
    cases hn : nameB r.nm with
    | false => exact Or.inl rfl
    | true =>
      refine Or.inr ⟨rfl, ?_⟩
      simp [rngB, hn] at h
      simp only [bne_iff_ne, ne_eq, bne_eq_false_iff_eq]
      omega
set_option maxRecDepth 100000 in
set_option maxHeartbeats 4000000 in
theorem check_some (g off cap : Nat) (rs : List Rng) (w : World) (hlen : rs.length ≤ 16) (hn2 : rs.length ≤ cap) (hcap : cap ≤ maxLen) (hg : g < w.heap.size) (hc : RCells w g off rs) (hnm : ∀ r ∈ rs, r.nm.size ≤ maxLen) :
    Calls Try.prog 14 #[.slice (some ⟨g, off, none⟩) rs.length cap] w fun e w' => e = .returned (.int .i64 (chkR rs)) ∧ Below w.heap.size w w' := by
  have HC := Lib.hid hc
  have HNM := Lib.hid hnm
  have hcap' := hcap
  unfold maxLen at hcap'
  have HCAP := Lib.hid hcap
  have HLEN := Lib.hid hlen
  clear hc hnm hcap
  obtain ⟨N, hN⟩ : ∃ N, rs.length = N := ⟨_, rfl⟩
  rw [hN] at hlen hn2 ⊢
  have HN := Lib.hid hN
  clear hN
  go_enter Try.func14, Try.ntmps14
  go_wp2
  go_loopw [10] (fun i wr => ∃ k : Nat, k ≤ N ∧ i = .int .i64 k ∧ Hid (∀ j, j < k → okAt rs j = true) ∧ Below w.heap.size w wr) (fun i _ => N - (intOf i).toNat)
  case atStart => exact ⟨0, Nat.zero_le _, rfl, fun j hj => absurd hj (by omega), Below.refl _ _⟩
  case round =>
    obtain ⟨k, hk, rfl, HF, hbel⟩ := hrel
    have HBel := Lib.hid hbel
    clear hbel
    by_cases hlt : k < N
    · have hkl : k < rs.length := by rw [HN.out]; exact hlt
      obtain ⟨c0, c1, c2, c3, c4⟩ := (HC.out.below HBel.out hg).five hkl
      have hbad : rngB rs[k] = false → chkR rs = 5 := fun h => chk_bad HLEN.out hkl (by rw [okAt_lt hkl, h]; rfl)
      have hbad2 : (rs.take k).any (clash rs[k]) = true → chkR rs = 5 := fun h => chk_bad HLEN.out hkl (by rw [okAt_lt hkl, h]; simp)
      have hgood : rngB rs[k] = true → (rs.take k).any (clash rs[k]) = false → ∀ j, j < k + 1 → okAt rs j = true := fun h1 h2 j hj => by
        rcases Nat.lt_or_ge j k with h | h
        · exact HF.out j h
        · obtain rfl : j = k := by omega
          rw [okAt_lt hkl, h1, h2]; rfl
      have hnmk : (rs[k]).nm.size ≤ maxLen := HNM.out _ (List.getElem_mem hkl)
      have hcon : ∀ (W : World) (br : Nat), Blk W br 30 (rngArr rs[k]) → (rs[k]).Ok → Below w.heap.size w W → Calls Try.prog 34 #[.slice (some ⟨g, off, none⟩) k cap, .func (.func 35) #[] #[.pointer (some ⟨br, 0, none⟩)]] W
          fun e w' => e = .returned (.bool ((rs.take k).any (clash rs[k]))) ∧ Below W.heap.size W w' := fun W br hb hr hW =>
        contains_any g off k cap br rs[k] rs W (by omega) (by omega) HCAP.out (Nat.lt_of_lt_of_le hg hW.size) (HC.out.below hW hg) hb hr (oks_of HF.out (by omega)) HLEN.out
      obtain ⟨r, hr⟩ : ∃ r, rs[k] = r := ⟨_, rfl⟩
      rw [hr] at c0 c1 c2 c3 c4 hbad hbad2 hgood hnmk
      simp only [hr] at hcon
      have HBAD := Lib.hid hbad
      have HBAD2 := Lib.hid hbad2
      have HGOOD := Lib.hid hgood
      have HNMK := Lib.hid hnmk
      have HCON := Lib.hid hcon
      have hsz := HBel.out.size
      clear hr hbad hbad2 hgood hnmk hcon
      rcases rng_cases r with hok | ⟨hno, hcs⟩
      · have hOk := rngB_ok hok
        have hnb : nameB r.nm = true := by simp [rngB] at hok; exact hok.1.1.1.1.1.1.1
        have m1 : (r.fr % 16 != 0) = false := by simp [rngB] at hok; simp; omega
        have m2 : (r.sz % 16 != 0) = false := by simp [rngB] at hok; simp; omega
        obtain ⟨f0, f1, s0, s1, fs⟩ := hOk
        have HOK := Lib.hid hok
        clear hok
        have HNB := Lib.hid hnb
        clear hnb
        go_wp2_with fail
        refine (name_any _ _ HNMK.out).mono ?_
        rintro e w1 ⟨rfl, rfl⟩
        rw [HNB.out]
        go_wp2_with fail
        have hbw : Below w.heap.size w (wr.alloc (.cells (rngArr r) 30)) := HBel.out.alloc hsz _
        refine (HCON.out _ _ (Blk.new wr 30 (rngArr r)) ⟨f0, f1, s0, s1, fs⟩ hbw).mono ?_
        rintro e w1 ⟨rfl, hb1⟩
        have HB1 := Lib.hid (hbw.trans (hb1.mono hbw.size))
        clear hb1 hbw c0 c1 c2 c3 c4
        cases hcl : (rs.take k).any (clash r) with
        | true =>
          have HR := Lib.hid (HBAD2.out hcl)
          clear hcl
          go_wp2
          go_ret
          exact ⟨by rw [HR.out]; rfl, HB1.out⟩
        | false =>
          have HR := Lib.hid (HGOOD.out HOK.out hcl)
          clear hcl
          go_wp2
          go_roundw
          case rel => exact ⟨k + 1, by omega, by go_num, HR.out, HB1.out⟩
          case measure => simp [intOf]; omega
      · have HR := Lib.hid (HBAD.out hno)
        have HB1 := Lib.hid (fun o => HBel.out.alloc hsz o)
        clear hno
        rcases hcs with hnb | ⟨hnb, hcs⟩
        · have HNB := Lib.hid hnb
          clear hnb
          go_wp2_with fail
          refine (name_any _ _ HNMK.out).mono ?_
          rintro e w1 ⟨rfl, rfl⟩
          rw [HNB.out]
          go_wp2_with fail
          go_ret
          exact ⟨by rw [HR.out]; rfl, HB1.out _⟩
        · have HNB := Lib.hid hnb
          clear hnb
          rcases hcs with q1 | ⟨q1, q2 | ⟨q2, q3 | ⟨q3, q4 | ⟨q4, q5 | ⟨q5, q6 | ⟨q6, q7⟩⟩⟩⟩⟩⟩
          all_goals
            go_wp2_with fail
            refine (name_any _ _ HNMK.out).mono ?_
            rintro e w1 ⟨rfl, rfl⟩
            rw [HNB.out]
            go_wp2_with fail
            go_ret
            exact ⟨by rw [HR.out]; rfl, HB1.out _⟩
    · have hfin : chkR rs = 0 := chk_good HLEN.out (by rw [HN.out]; intro j hj; exact HF.out j (by omega))
      have HFIN := Lib.hid hfin
      clear hfin
      go_wp2
      go_ret
      exact ⟨by rw [HFIN.out]; rfl, HBel.out⟩
end Go.Proofs.Ytbffclcjhcbejaa
