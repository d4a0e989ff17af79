/- Walks: base.Texts, base.SameTexts, base.In: what each comes to. Conditions: sizes below the model's bounds. -/
import Derived.Test.YtknnimlbddgimaaDoorA2
import Derived.Deep.QuietTactic
import Derived.BigQuiet
import Derived.Deep.Draws
namespace Go.Proofs.YtknnimlbddgimaaDoor
open Go.RowKit
theorem info9 : (Tryd.prog.info? 9).map (fun i => (i.zero, i.size, i.bytes)) = some (some (.string ⟨#[]⟩), 1, 16) := by kernel_rfl
theorem addr_add (g k j : Nat) : (⟨g, k, none⟩ : Addr).add j = ⟨g, k + j, none⟩ := by unfold Addr.add; split <;> simp_all
theorem below_dN {B : Nat} {a w : World} (h : Below B a w) (n : Nat) : Below B a (w.drewN n) := ⟨h.os, h.tape, h.output, h.size, h.block⟩
theorem strRow_owns {w : World} {B : Nat} {v : Value} {ss : List ByteArray} (h : w.ownsRow B 9 1 v ss.length (ss.map Value.string)) : StrRow w v ss := by
  rcases h.2 with ⟨rfl, h0⟩ | ⟨g, cap, cur, rfl, _, hh, h1, h2, h3, h4⟩
  · exact ⟨none, 0, by rw [h0], by omega, by decide, fun hne => absurd (List.length_eq_zero_iff.1 h0) hne⟩
  · refine ⟨_, cap, rfl, h1, h2, fun _ => ⟨g, 0, rfl, ?_, fun i s hs => ?_⟩⟩
    · rcases Nat.lt_or_ge g w.heap.size with hlt | hge
      · exact hlt
      · rw [Array.getElem?_eq_none hge] at hh; cases hh
    · rw [Nat.zero_add, cell_of_row w g i cur 9 (0, 0) hh]
      have hi : i < ss.length := (List.getElem?_eq_some_iff.1 hs).1
      have := congrArg (·[i]?) h4
      simp only [List.getElem?_take, List.getElem?_map] at this
      rw [if_pos (by omega), hs] at this
      simpa using this
set_option maxHeartbeats 1000000 in
theorem texts_any (v : Value) (ss : List ByteArray) (w : World) (hv : StrRow w v ss) (hl : ss.length ≤ 4194304) :
    Calls Tryd.prog 8 #[v] w fun e w' => ∃ v', e = .returned v' ∧ StrRow w' v' ss ∧ Below w.heap.size w w' := by
  obtain ⟨A, cap, rfl, hcap, hmax, hcells⟩ := hv
  have HC := Lib.hid hcells
  clear hcells
  obtain ⟨i0, hi, hz0, hz1, hz2⟩ := info_parts info9
  have HI := Lib.hid hi
  have HZ0 := Lib.hid hz0
  have HZ1 := Lib.hid hz1
  have HZ2 := Lib.hid hz2
  clear hi hz0 hz1 hz2
  unfold maxLen at hmax
  by_cases hne : ss = []
  · subst hne
    have hfin : ∀ o, StrRow (w.alloc o) (.slice (some ⟨w.heap.size, 0, none⟩) 0 0) [] := fun o => ⟨_, 0, rfl, by simp, by decide, fun h => absurd rfl h⟩
    have HF := Lib.hid hfin
    clear hfin
    cases A
    all_goals
      go_enter Tryd.func8, Tryd.ntmps8
      go_wp2
      go_ret
      exact ⟨_, rfl, HF.out _, (Below.refl _ _).alloc (Nat.le_refl _) _⟩
  · obtain ⟨g, off, rfl, hg, hc⟩ := HC.out hne
    obtain ⟨N, hN⟩ : ∃ N, ss.length = N := ⟨_, rfl⟩
    rw [hN] at hcap hl ⊢
    have HN := Lib.hid hN
    have HCC := Lib.hid hc
    clear hN hc hne
    go_enter Tryd.func8, Tryd.ntmps8
    go_wp2_with (at_builtin; refine wpList_append_own _ rfl (.tmp 3) (.tmp 4) 22 rfl w.heap.size 9 i0 (.string ⟨#[]⟩) 1 16 Tryd.underlying22 HI.out HZ0.out HZ1.out HZ2.out rfl (by decide) (.slice (some ⟨w.heap.size, 0, none⟩) 0 0) 0 [] rfl ?c0 ⟨g, off, none⟩ N cap (ss.map Value.string) rfl ?c7 ?c1 ?c2 ?c3 ?c4 ?c5 ?_)
    case c0 => exact World.ownsRow_lit _ _ 0 (Nat.le_refl _) (by decide) rfl
    case c7 => have := HN.out; simp; omega
    case c1 =>
      intro j u hj
      rw [List.getElem?_map] at hj
      obtain ⟨s, hs, rfl⟩ := Option.map_eq_some_iff.1 hj
      rw [addr_add, World.cell?_alloc_old _ _ _ (Nat.ne_of_lt hg)]
      exact HCC.out j s hs
    case c2 => intro u hu; obtain ⟨s, _, rfl⟩ := List.mem_map.1 hu; rfl
    try (case c3 => unfold maxLen; omega)
    try (case c4 => omega)
    try (case c5 => first | omega | (simp; done) | (simp; omega))
    intro v' w2 hown hgrow hnil
    have ho : w2.ownsRow w.heap.size 9 1 v' ss.length (ss.map Value.string) := by rw [HN.out]; simpa using hown
    have hbel : Below w.heap.size w w2 := ((Below.refl w.heap.size w).alloc (Nat.le_refl _) _).grown hgrow (by simp) (fun g e => by cases e; exact Nat.le_refl _)
    have HS := Lib.hid (strRow_owns ho)
    have HB := Lib.hid hbel
    clear ho hbel hown hgrow hnil
    go_wp2_with fail
    go_ret
    exact ⟨_, rfl, HS.out, HB.out⟩

set_option maxHeartbeats 1000000 in
theorem sameTexts_any (v v' : Value) (ss : List ByteArray) (w : World) (hv : StrRow w v ss) (hv' : StrRow w v' ss) :
    Calls Tryd.prog 11 #[v, v'] w fun e w' => e = .returned (.bool true) ∧ Below w.heap.size w w' := by
  obtain ⟨A, cap, rfl, hcap, hmax, hcells⟩ := hv
  obtain ⟨A', cap', rfl, hcap', hmax', hcells'⟩ := hv'
  have HC := Lib.hid hcells
  have HC' := Lib.hid hcells'
  clear hcells hcells'
  unfold maxLen at hmax hmax'
  obtain ⟨N, hN⟩ : ∃ N, ss.length = N := ⟨_, rfl⟩
  rw [hN] at hcap hcap' ⊢
  have HN := Lib.hid hN
  clear hN
  go_enter Tryd.func11, Tryd.ntmps11
  go_wp2
  go_loopw [5] (fun i wr => ∃ k : Nat, k ≤ N ∧ i = .int .i64 k ∧ Hid (∃ q, wr = w.drewN q)) (fun i _ => N - (intOf i).toNat)
  case atStart => exact ⟨0, Nat.zero_le _, rfl, 0, rfl⟩
  case round =>
    obtain ⟨k, hk, rfl, HQ⟩ := hrel
    obtain ⟨q, rfl⟩ := HQ.out
    clear HQ
    by_cases hlt : k < N
    · have hkl : k < ss.length := by rw [HN.out]; exact hlt
      obtain ⟨s, hs⟩ : ∃ s, ss[k]? = some s := ⟨_, List.getElem?_eq_getElem hkl⟩
      obtain ⟨g, off, rfl, hg, hc⟩ := HC.out (by rintro rfl; simp at hkl)
      obtain ⟨g', off', rfl, hg', hc'⟩ := HC'.out (by rintro rfl; simp at hkl)
      have c1 := hc k s hs
      have c2 := hc' k s hs
      have hne : (s.toList != s.toList) = false := by simp
      clear hc hc' hs hg hg'
      go_wp2
      go_quiet (fail)
      go_wp2
      go_roundw
      case rel => exact ⟨k + 1, by omega, by go_num, _, rfl⟩
      case measure => simp [intOf]; omega
    · go_wp2
      go_ret
      exact ⟨rfl, below_dN (Below.refl _ _) _⟩

/-- Is a text among some? -/
def amongB (ss : List ByteArray) (s : ByteArray) : Bool := ss.any fun x => x.toList == s.toList
theorem among_hit {ss : List ByteArray} {s x : ByteArray} {k : Nat} (h : ss[k]? = some x) (he : (x.toList == s.toList) = true) : amongB ss s = true := by
  unfold amongB
  rw [List.any_eq_true]
  exact ⟨x, List.mem_of_getElem? h, he⟩
theorem among_none {ss : List ByteArray} {s : ByteArray} {k : Nat} (hk : ss.length ≤ k) (h : amongB (ss.take k) s = false) : amongB ss s = false := by
  rwa [List.take_of_length_le hk] at h
theorem among_miss {ss : List ByteArray} {s x : ByteArray} {k : Nat} (hx : ss[k]? = some x) (h : amongB (ss.take k) s = false) (he : (x.toList == s.toList) = false) : amongB (ss.take (k + 1)) s = false := by
  obtain ⟨hk, rfl⟩ := List.getElem?_eq_some_iff.1 hx
  unfold amongB at h ⊢
  rw [List.take_succ_eq_append_getElem hk, List.any_append, h]
  simp [he]
theorem ret_bool {a b : Bool} (h : a = b) : Ending.returned (.bool a) = .returned (.bool b) := by rw [h]
set_option maxHeartbeats 1000000 in
theorem in_any (g off cap : Nat) (ss : List ByteArray) (s : ByteArray) (w : World) (hcap : ss.length ≤ cap) (hmax : cap ≤ maxLen) (hc : ∀ i s, ss[i]? = some s → w.cell? ⟨g, off + i, none⟩ = some (.string s)) :
    Calls Tryd.prog 18 #[.slice (some ⟨g, off, none⟩) ss.length cap, .string s] w fun e w' => e = .returned (.bool (amongB ss s)) ∧ w = w' := by
  have HC := Lib.hid hc
  clear hc
  unfold maxLen at hmax
  obtain ⟨N, hN⟩ : ∃ N, ss.length = N := ⟨_, rfl⟩
  rw [hN] at hcap ⊢
  have HN := Lib.hid hN
  clear hN
  obtain ⟨R, hR⟩ : ∃ R, amongB ss s = R := ⟨_, rfl⟩
  have HR := Lib.hid hR
  rw [hR]
  clear hR
  go_enter Tryd.func18, Tryd.ntmps18
  go_wp2
  go_loop [5] (fun i => ∃ k : Nat, k ≤ N ∧ i = .int .i64 k ∧ Hid (amongB (ss.take k) s = false)) (fun i => N - (intOf i).toNat)
  case atStart => exact ⟨0, Nat.zero_le _, rfl, rfl⟩
  case round =>
    obtain ⟨k, hk, rfl, HA⟩ := hrel
    by_cases hlt : k < N
    · have hkl : k < ss.length := by rw [HN.out]; exact hlt
      obtain ⟨x, hx⟩ : ∃ x, ss[k]? = some x := ⟨_, List.getElem?_eq_getElem hkl⟩
      have c1 := HC.out k x hx
      have HX := Lib.hid hx
      clear hx
      cases he : (x.toList == s.toList) with
      | true =>
        have hfin : R = true := by rw [← HR.out]; exact among_hit HX.out he
        have HF := Lib.hid hfin
        clear hfin
        go_wp2
        go_ret
        exact ⟨ret_bool HF.out.symm, rfl⟩
      | false =>
        have HF := Lib.hid (among_miss HX.out HA.out he)
        go_wp2
        go_round
        case rel => exact ⟨k + 1, by omega, by go_num, HF.out⟩
        case measure => simp [intOf]; omega
    · have hfin : R = false := by rw [← HR.out]; exact among_none (by rw [HN.out]; omega) HA.out
      have HF := Lib.hid hfin
      clear hfin
      go_wp2
      go_ret
      exact ⟨ret_bool HF.out.symm, rfl⟩
end Go.Proofs.YtknnimlbddgimaaDoor
