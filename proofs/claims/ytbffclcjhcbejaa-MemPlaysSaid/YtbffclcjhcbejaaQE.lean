/- Walks: the document's name and Check. Conditions: names within the model's lengths. -/
import Derived.Test.YtbffclcjhcbejaaW8
namespace Go.Proofs.Ytbffclcjhcbejaa
open Go.RowKit
set_option maxRecDepth 100000 in
set_option maxHeartbeats 2000000 in
theorem rname_any (s : ByteArray) (w : World) (hs : s.size ≤ maxLen) :
    Calls Try.prog 37 #[.string s] w fun e w' => e = .returned (.bool (nameB s)) ∧ w = w' := by
  unfold maxLen at hs
  by_cases h0 : 0 < s.size
  · have e0 := isEmpty_of s h0
    by_cases h1 : s.size ≤ 31
    · by_cases h2 : 97 ≤ (s[0]'h0).toNat
      · by_cases h3 : (s[0]'h0).toNat ≤ 122
        · have hfin : nameB s = s.data.toList.all (fun c => nameC c.toNat) := by simp [nameB, h0, h1, h2, h3]
          have HFIN := Lib.hid hfin
          clear hfin
          go_enter Try.func37, Try.ntmps37
          go_wp2
          go_loop [3] (fun i => ∃ k : Nat, k ≤ s.size ∧ i = .int .i64 k ∧ Hid ((s.data.toList.take k).all (fun c => nameC c.toNat) = true)) (fun i => s.size - (intOf i).toNat)
          case atStart => exact ⟨0, Nat.zero_le _, rfl, rfl⟩
          case round =>
            obtain ⟨k, hk, rfl, HA⟩ := hrel
            by_cases hlt : k < s.size
            · obtain ⟨c, hc⟩ : ∃ c : Nat, (s[k]'hlt).toNat = c := ⟨_, rfl⟩
              have HT := Lib.hid (fun h => all_step s (fun c => nameC c.toNat) k hlt HA.out (by rw [hc]; exact nameC_true (c := c) h))
              have HF := Lib.hid (fun h => all_stop s (fun c => nameC c.toNat) k hlt (by rw [hc]; exact nameC_false (c := c) h))
              clear h2 h3
              rcases (show ((97 ≤ c ∧ c ≤ 122) ∨ (48 ≤ c ∧ c ≤ 57) ∨ c = 95) ∨ (c < 48 ∨ (58 ≤ c ∧ c ≤ 94) ∨ c = 96 ∨ 123 ≤ c) by omega) with hcs | hcs
              · have HT2 := Lib.hid (HT.out hcs)
                rcases hcs with ⟨d1, d2⟩ | ⟨d1, d2⟩ | rfl
                · have q97 : decide ((c : Int) < 97) = false := by simp; omega
                  have q122 : decide ((122 : Int) < (c : Int)) = false := by simp; omega
                  go_wp2
                  go_round
                  case rel => exact ⟨k + 1, by omega, by go_num, HT2.out⟩
                  case measure => simp [intOf]; omega
                · have q97 : decide ((c : Int) < 97) = true := by simp; omega
                  have q48 : decide ((c : Int) < 48) = false := by simp; omega
                  have q57 : decide ((57 : Int) < (c : Int)) = false := by simp; omega
                  go_wp2
                  go_round
                  case rel => exact ⟨k + 1, by omega, by go_num, HT2.out⟩
                  case measure => simp [intOf]; omega
                · go_wp2
                  go_round
                  case rel => exact ⟨k + 1, by omega, by go_num, HT2.out⟩
                  case measure => simp [intOf]; omega
              · have HF2 := Lib.hid (HF.out (by omega))
                have q95 : ((c : Int) != 95) = true := by simp; omega
                rcases hcs with d1 | ⟨d1, d2⟩ | rfl | d1
                · go_wp2
                  go_ret
                  exact ⟨by rw [HFIN.out, HF2.out]; rfl, rfl⟩
                · have q97 : decide ((c : Int) < 97) = true := by simp; omega
                  have q48 : decide ((c : Int) < 48) = false := by simp; omega
                  have q57 : decide ((57 : Int) < (c : Int)) = true := by simp; omega
                  go_wp2
                  go_ret
                  exact ⟨by rw [HFIN.out, HF2.out]; rfl, rfl⟩
                · go_wp2
                  go_ret
                  exact ⟨by rw [HFIN.out, HF2.out]; rfl, rfl⟩
                · have q97 : decide ((c : Int) < 97) = false := by simp; omega
                  have q48 : decide ((c : Int) < 48) = false := by simp; omega
                  have q57 : decide ((57 : Int) < (c : Int)) = true := by simp; omega
                  have q122 : decide ((122 : Int) < (c : Int)) = true := by simp; omega
                  go_wp2
                  go_ret
                  exact ⟨by rw [HFIN.out, HF2.out]; rfl, rfl⟩
            · have hsk : s.data.toList.take k = s.data.toList := List.take_of_length_le (by have h3 : s.size = s.data.size := rfl; simp; omega)
              have hfin : nameB s = true := by rw [HFIN.out, ← hsk]; exact HA.out
              have HN := Lib.hid hfin
              clear hfin hsk
              go_wp2
              go_ret
              exact ⟨by rw [HN.out]; rfl, rfl⟩
        · have hfin : nameB s = false := by simp [nameB, h0, h1, h2, h3]
          have HFIN := Lib.hid hfin
          clear hfin
          go_enter Try.func37, Try.ntmps37
          go_wp2
          go_ret
          exact ⟨by rw [HFIN.out]; rfl, rfl⟩
      · have hfin : nameB s = false := by simp [nameB, h0, h1, h2]
        have HFIN := Lib.hid hfin
        clear hfin
        go_enter Try.func37, Try.ntmps37
        go_wp2
        go_ret
        exact ⟨by rw [HFIN.out]; rfl, rfl⟩
    · have hfin : nameB s = false := by simp [nameB, h0, h1]
      have HFIN := Lib.hid hfin
      clear hfin
      go_enter Try.func37, Try.ntmps37
      go_wp2
      go_ret
      exact ⟨by rw [HFIN.out]; rfl, rfl⟩
  · have e0 := isEmpty_nil s h0
    have hfin : nameB s = false := by simp [nameB, h0]
    have HFIN := Lib.hid hfin
    clear hfin
    go_enter Try.func37, Try.ntmps37
    go_wp2
    go_ret
    exact ⟨by rw [HFIN.out]; rfl, rfl⟩
end Go.Proofs.Ytbffclcjhcbejaa
namespace Go.Proofs.Ytbffclcjhcbejaa
open Go.RowKit
/-- How one range stands to another, test by test. -/
theorem clash_cases (r o : Rng) : ((o.nm.toList == r.nm.toList) = true ∧ clash r o = true) ∨ ((o.nm.toList == r.nm.toList) = false ∧
    ((r.sz ≤ 0 ∧ clash r o = false) ∨ 0 < r.sz ∧ ((o.sz ≤ 0 ∧ clash r o = false) ∨ 0 < o.sz ∧ ((o.fr + o.sz ≤ r.fr ∧ clash r o = false) ∨ r.fr < o.fr + o.sz ∧ ((r.fr + r.sz ≤ o.fr ∧ clash r o = false) ∨ o.fr < r.fr + r.sz ∧ clash r o = true))))) := by
  cases hn : (o.nm.toList == r.nm.toList) with
  | true => exact Or.inl ⟨rfl, by simp only [clash, hn, Bool.true_or]⟩
  | false =>
    refine Or.inr ⟨rfl, ?_⟩
    have hc : clash r o = meetsB r o := by simp only [clash, hn, Bool.false_or]
    rw [hc]
    simp [meetsB]
    omega
set_option maxRecDepth 100000 in
set_option maxHeartbeats 8000000 in
theorem rcheck_some (g off cap : Nat) (rs : List Rng) (w : World) (hlen : rs.length ≤ 16) (hn2 : rs.length ≤ cap) (hcap : cap ≤ maxLen) (hg : g < w.heap.size) (hc : RCells w g off rs) (hnm : ∀ r ∈ rs, r.nm.size ≤ maxLen) :
    Calls Try.prog 15 #[.slice (some ⟨g, off, none⟩) rs.length cap] w fun e w' => e = .returned (.int .i64 (chkR rs)) ∧ Below w.heap.size w w' := by
  have HC := Lib.hid hc
  have HNM := Lib.hid hnm
  have hcap' := hcap
  unfold maxLen at hcap'
  have HLEN := Lib.hid hlen
  clear hc hnm hcap
  obtain ⟨N, hN⟩ : ∃ N, rs.length = N := ⟨_, rfl⟩
  rw [hN] at hlen hn2 ⊢
  have HN := Lib.hid hN
  clear hN
  go_enter Try.func15, Try.ntmps15
  go_wp2_with fail
  go_loopw [3] (fun i wr => ∃ k : Nat, k ≤ N ∧ i = .int .i64 k ∧ Hid (∀ j, j < k → okAt rs j = true) ∧ Below w.heap.size w wr) (fun i _ => N - (intOf i).toNat)
  case atStart => exact ⟨0, Nat.zero_le _, rfl, fun j hj => absurd hj (by omega), Below.refl _ _⟩
  case round =>
    obtain ⟨k, hk, rfl, HF, hbel⟩ := hrel
    have HBel := Lib.hid hbel
    clear hbel
    by_cases hlt : k < N
    · have hkl : k < rs.length := by rw [HN.out]; exact hlt
      obtain ⟨c0, c1, c2, c3, c4⟩ := (HC.out.below HBel.out hg).five hkl
      have hbad : rngB rs[k] = false → chkR rs = 5 := fun h => chk_bad HLEN.out hkl (by rw [okAt_lt hkl, h]; rfl)
      have hbad2 : (rs.take k).any (clash rs[k]) = true → chkR rs = 5 := fun h => chk_bad HLEN.out hkl (by rw [okAt_lt hkl, h]; simp)
      have hgood : rngB rs[k] = true → (rs.take k).any (clash rs[k]) = false → ∀ j, j < k + 1 → okAt rs j = true := fun h1 h2 j hj => by
        rcases Nat.lt_or_ge j k with h | h
        · exact HF.out j h
        · obtain rfl : j = k := by omega
          rw [okAt_lt hkl, h1, h2]; rfl
      have hnmk : (rs[k]).nm.size ≤ maxLen := HNM.out _ (List.getElem_mem hkl)
      obtain ⟨r, hr⟩ : ∃ r, rs[k] = r := ⟨_, rfl⟩
      rw [hr] at c0 c1 c2 c3 c4 hbad hbad2 hgood hnmk
      have HBAD := Lib.hid hbad
      have HBAD2 := Lib.hid hbad2
      have HGOOD := Lib.hid hgood
      have HNMK := Lib.hid hnmk
      have hsz := HBel.out.size
      clear hr hbad hbad2 hgood hnmk
      have HB1 := Lib.hid (fun o => HBel.out.alloc hsz o)
      have HBN : Hid (Blk (wr.alloc (.cells (rngArr r) 30)) wr.heap.size 30 (rngArr r)) := Blk.new wr 30 (rngArr r)
      rcases rng_cases r with hok | ⟨hno, hcs⟩
      · have hOk := rngB_ok hok
        have hnb : nameB r.nm = true := by simp [rngB] at hok; exact hok.1.1.1.1.1.1.1
        have m1 : (r.fr % 16 != 0) = false := by simp [rngB] at hok; simp; omega
        have m2 : (r.sz % 16 != 0) = false := by simp [rngB] at hok; simp; omega
        obtain ⟨f0, f1, s0, s1, fs⟩ := hOk
        have HOK := Lib.hid hok
        clear hok
        have HNB := Lib.hid hnb
        clear hnb
        go_wp2_with fail
        refine (rname_any _ _ HNMK.out).mono ?_
        rintro e w1 ⟨rfl, rfl⟩
        rw [HNB.out]
        go_wp2_with fail
        have hbr : wr.heap.size < (wr.alloc (.cells (rngArr r) 30)).heap.size := by simp
        have HB2 : Hid (Below w.heap.size w (wr.alloc (.cells (rngArr r) 30))) := HB1.out _
        change Hid (Blk (wr.alloc (.cells (rngArr r) 30)) wr.heap.size 30 (rngArr r)) at HBN
        generalize hw2 : wr.alloc (.cells #[.string r.nm, .int .i64 r.fr, .int .i64 r.sz, .bool r.wr, .bool r.ex] 30) = w2
        have hw2' : wr.alloc (.cells (rngArr r) 30) = w2 := hw2
        rw [hw2'] at HBN HB2 hbr
        obtain ⟨br, hbreq⟩ : ∃ br, wr.heap.size = br := ⟨_, rfl⟩
        rw [hbreq] at HBN hbr ⊢
        clear hw2 hw2' hbreq HB1 c0 c1 c2 c3 c4 m1 m2
        obtain ⟨wo, hwo⟩ : ∃ wo : World, wo = wr := ⟨_, rfl⟩
        go_loopw [5] (fun i wi => ∃ k2 : Nat, k2 ≤ k ∧ i = .int .i64 k2 ∧ Hid ((rs.take k2).any (clash r) = false) ∧ Hid (Below w2.heap.size w2 wi)) (fun i _ => k - (intOf i).toNat)
        case atStart => exact ⟨0, Nat.zero_le _, rfl, rfl, Below.refl _ _⟩
        case round =>
          obtain ⟨k2, hk2, rfl, HA, HBI⟩ := hrel
          have HBW := Lib.hid (HB2.out.trans (HBI.out.mono HB2.out.size))
          have hbi := HBN.out.below HBI.out hbr
          have d0 : wr.cell? ⟨br, 0, none⟩ = some (.string r.nm) := by rw [hbi.cell]; rfl
          have d1 : wr.cell? ⟨br, 1, none⟩ = some (.int .i64 r.fr) := by rw [hbi.cell]; rfl
          have d2 : wr.cell? ⟨br, 2, none⟩ = some (.int .i64 r.sz) := by rw [hbi.cell]; rfl
          have hbrw : br < wr.heap.size := hbi.lt
          clear hbi
          by_cases hlt2 : k2 < k
          · have hkl2 : k2 < rs.length := by omega
            obtain ⟨c0, c1, c2, c3, c4⟩ := (HC.out.below HBW.out hg).five hkl2
            have hokk : (rs[k2]).Ok := oks_of HF.out (by omega) _ (List.mem_take_iff_getElem.2 ⟨k2, by omega, rfl⟩)
            have hstep : clash r rs[k2] = false → (rs.take (k2 + 1)).any (clash r) = false := fun h => any_step hkl2 HA.out h
            have hhit : clash r rs[k2] = true → (rs.take k).any (clash r) = true := fun h => any_hit hkl2 hlt2 h
            obtain ⟨o, ho⟩ : ∃ o, rs[k2] = o := ⟨_, rfl⟩
            rw [ho] at c0 c1 c2 c3 c4 hokk hstep hhit
            obtain ⟨g0, g1, t0, t1, gs⟩ := hokk
            have HSTEP := Lib.hid hstep
            have HHIT := Lib.hid hhit
            have HNB2 := Lib.hid (fun o => HBI.out.alloc HBI.out.size o)
            have HNB3 := Lib.hid (fun o => HBW.out.alloc HBW.out.size o)
            clear ho hstep hhit
            have e1 : IntKind.i64.wrap (o.fr + o.sz) = o.fr + o.sz := IntWalk.i64_in _ (by omega)
            have e2 : IntKind.i64.wrap (r.fr + r.sz) = r.fr + r.sz := IntWalk.i64_in _ (by omega)
            rcases clash_cases r o with ⟨hn, hcl⟩ | ⟨hn, q1 | ⟨q1, q2 | ⟨q2, q3 | ⟨q3, q4 | q4⟩⟩⟩⟩
            · have HR := Lib.hid (HBAD2.out (HHIT.out hcl))
              clear hcl
              go_wp2_with fail
              go_ret
              exact ⟨by rw [HR.out]; rfl, HNB3.out _⟩
            · have HS := Lib.hid (HSTEP.out q1.2)
              obtain ⟨q1, _⟩ := q1
              go_wp2_with fail
              go_roundw
              case rel => exact ⟨k2 + 1, by omega, by go_num, HS.out, HNB2.out _⟩
              case measure => simp [intOf]; omega
            · have HS := Lib.hid (HSTEP.out q2.2)
              obtain ⟨q2, _⟩ := q2
              go_wp2_with fail
              go_roundw
              case rel => exact ⟨k2 + 1, by omega, by go_num, HS.out, HNB2.out _⟩
              case measure => simp [intOf]; omega
            · have HS := Lib.hid (HSTEP.out q3.2)
              obtain ⟨q3, _⟩ := q3
              have q3' : decide (r.fr < o.fr + o.sz) = false := by simp; omega
              go_wp2_with fail
              go_roundw
              case rel => exact ⟨k2 + 1, by omega, by go_num, HS.out, HNB2.out _⟩
              case measure => simp [intOf]; omega
            · have HS := Lib.hid (HSTEP.out q4.2)
              obtain ⟨q4, _⟩ := q4
              have q4' : decide (o.fr < r.fr + r.sz) = false := by simp; omega
              go_wp2_with fail
              go_roundw
              case rel => exact ⟨k2 + 1, by omega, by go_num, HS.out, HNB2.out _⟩
              case measure => simp [intOf]; omega
            · have HR := Lib.hid (HBAD2.out (HHIT.out q4.2))
              obtain ⟨q4, _⟩ := q4
              go_wp2_with fail
              go_ret
              exact ⟨by rw [HR.out]; rfl, HNB3.out _⟩
          · have hk2k : k2 = k := by omega
            have HR := Lib.hid (HGOOD.out HOK.out (by rw [← hk2k]; exact HA.out))
            clear hk2k
            go_wp2_with fail
            go_roundw
            case rel => exact ⟨k + 1, by omega, by go_num, HR.out, HBW.out⟩
            case measure => simp [intOf]; omega
      · have HR := Lib.hid (HBAD.out hno)
        clear hno
        rcases hcs with hnb | ⟨hnb, hcs⟩
        · have HNB := Lib.hid hnb
          clear hnb
          go_wp2_with fail
          refine (rname_any _ _ HNMK.out).mono ?_
          rintro e w1 ⟨rfl, rfl⟩
          rw [HNB.out]
          go_wp2_with fail
          go_ret
          exact ⟨by rw [HR.out]; rfl, HB1.out _⟩
        · have HNB := Lib.hid hnb
          clear hnb
          rcases hcs with q1 | ⟨q1, q2 | ⟨q2, q3 | ⟨q3, q4 | ⟨q4, q5 | ⟨q5, q6 | ⟨q6, q7⟩⟩⟩⟩⟩⟩
          all_goals
            go_wp2_with fail
            refine (rname_any _ _ HNMK.out).mono ?_
            rintro e w1 ⟨rfl, rfl⟩
            rw [HNB.out]
            go_wp2_with fail
            go_ret
            exact ⟨by rw [HR.out]; rfl, HB1.out _⟩
    · have hfin : chkR rs = 0 := chk_good HLEN.out (by rw [HN.out]; intro j hj; exact HF.out j (by omega))
      have HFIN := Lib.hid hfin
      clear hfin
      go_wp2_with fail
      go_ret
      exact ⟨by rw [HFIN.out]; rfl, HBel.out⟩
end Go.Proofs.Ytbffclcjhcbejaa
