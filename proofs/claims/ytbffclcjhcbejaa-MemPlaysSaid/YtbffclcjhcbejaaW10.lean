/- Walks: mem.Check and mem.New at whatever slice of ranges. Conditions: names within the model's lengths. -/
import Derived.Test.YtbffclcjhcbejaaW9
namespace Go.Proofs.Ytbffclcjhcbejaa
open Go.RowKit
/-- A slice of ranges reads ms these. -/
def RSlice (w : World) (v : Value) (rs : List Rng) : Prop :=
  ∃ A cap, v = .slice A rs.length cap ∧ rs.length ≤ cap ∧ cap ≤ maxLen ∧ (∀ r ∈ rs, r.nm.size ≤ maxLen) ∧ (rs ≠ [] → ∃ g off, A = some ⟨g, off, none⟩ ∧ g < w.heap.size ∧ RCells w g off rs)
theorem RSlice.below {w w' : World} {v : Value} {rs : List Rng} (h : RSlice w v rs) (hb : Below w.heap.size w w') : RSlice w' v rs := by
  obtain ⟨A, cap, rfl, h1, h2, h3, h4⟩ := h
  refine ⟨A, cap, rfl, h1, h2, h3, fun hne => ?_⟩
  obtain ⟨g, off, rfl, hg, hc⟩ := h4 hne
  exact ⟨g, off, rfl, Nat.lt_of_lt_of_le hg hb.size, hc.below hb hg⟩
theorem check_long (A : Option Addr) (n cap : Nat) (rs : List Rng) (w : World) (hn : 16 < n) (hcap : n ≤ cap) (hmax : cap ≤ maxLen) (hr : rs.length = n) :
    Calls Try.prog 14 #[.slice A n cap] w fun e w' => e = .returned (.int .i64 (chkR rs)) ∧ Below w.heap.size w w' := by
  have hc : chkR rs = 3 := by unfold chkR; rw [if_pos (by omega)]
  have HC := Lib.hid hc
  clear hc hr
  unfold maxLen at hmax
  go_enter Try.func14, Try.ntmps14
  go_wp2_with fail
  go_ret
  exact ⟨by rw [HC.out]; rfl, Below.refl _ _⟩
theorem check_none (A : Option Addr) (cap : Nat) (w : World) : Calls Try.prog 14 #[.slice A 0 cap] w fun e w' => e = .returned (.int .i64 (chkR [])) ∧ Below w.heap.size w w' := by
  have hc : chkR [] = 0 := rfl
  have HC := Lib.hid hc
  clear hc
  go_enter Try.func14, Try.ntmps14
  go_wp2_with fail
  refine wp_loop_rounds 1 ?_
  rw [rounds_succ]
  go_wp2_with fail
  go_ret
  exact ⟨rfl, Below.refl _ _⟩
theorem check_any (v : Value) (rs : List Rng) (w : World) (h : RSlice w v rs) : Calls Try.prog 14 #[v] w fun e w' => e = .returned (.int .i64 (chkR rs)) ∧ Below w.heap.size w w' := by
  obtain ⟨A, cap, rfl, h1, h2, h3, h4⟩ := h
  by_cases hne : rs = []
  · subst hne; exact check_none A cap w
  · by_cases hl : 16 < rs.length
    · exact check_long A rs.length cap rs w hl h1 h2 rfl
    · obtain ⟨g, off, rfl, hg, hc⟩ := h4 hne
      exact check_some g off cap rs w (by omega) h1 h2 hg hc h3
theorem chk_val (rs : List Rng) : chkR rs = 0 ∨ chkR rs = 3 ∨ chkR rs = 5 := by
  unfold chkR
  split
  · omega
  · split <;> omega
set_option maxHeartbeats 1000000 in
theorem new_bad (v : Value) (rs : List Rng) (w : World) (h : RSlice w v rs) (hc : chkR rs ≠ 0) : Calls Try.prog 7 #[v] w (NewPost rs w) := by
  have HCON := Lib.hid (check_any v rs w h)
  have hv := chk_val rs
  obtain ⟨c, hcc⟩ : ∃ c, chkR rs = c := ⟨_, rfl⟩
  have HC := Lib.hid hc
  rw [hcc] at hv hc HCON
  have HCC := Lib.hid hcc
  have hb : (c != 0) = true := by simp [hc]
  obtain ⟨A, cap, rfl, _⟩ := h
  clear hcc hc hv
  go_enter Try.func7, Try.ntmps7
  go_wp2_with fail
  refine HCON.out.mono ?_
  rintro e w1 ⟨rfl, hb1⟩
  have HB1 := Lib.hid hb1
  clear hb1
  go_wp2_with fail
  go_ret2
  exact ⟨HB1.out, Or.inl ⟨HC.out, by rw [HCC.out]; rfl⟩⟩
set_option maxHeartbeats 1000000 in
theorem new_none (A : Option Addr) (cap : Nat) (w : World) : Calls Try.prog 7 #[.slice A 0 cap] w (NewPost [] w) := by
  have HCON := Lib.hid (check_none A cap w)
  go_enter Try.func7, Try.ntmps7
  go_wp2_with fail
  refine HCON.out.mono ?_
  rintro e w1 ⟨rfl, hb1⟩
  have HST := Lib.hid (new_start w w1 [] hb1)
  have hbm := hb1.size
  clear hb1
  have hc : chkR [] = 0 := rfl
  rw [hc]
  go_wp2_with fail
  refine wp_loop_rounds 1 ?_
  rw [rounds_succ]
  go_wp2_with fail
  go_ret2
  exact ⟨HST.out.bel, Or.inr ⟨rfl, _, [], rfl, hbm, HST.out.mem, HST.out.fresh⟩⟩
theorem new_any (v : Value) (rs : List Rng) (w : World) (h : RSlice w v rs) : Calls Try.prog 7 #[v] w (NewPost rs w) := by
  by_cases hc : chkR rs = 0
  · have h' := h
    obtain ⟨A, cap, rfl, h1, h2, h3, h4⟩ := h
    by_cases hne : rs = []
    · subst hne; exact new_none A cap w
    · obtain ⟨g, off, rfl, hg, hcl⟩ := h4 hne
      have hl : rs.length ≤ 16 := by
        rcases Nat.lt_or_ge 16 rs.length with hl | hl
        · unfold chkR at hc; rw [if_pos hl] at hc; cases hc
        · exact hl
      exact new_some g off cap rs w hl h1 h2 hg hcl h3 hc
  · exact new_bad v rs w h hc
end Go.Proofs.Ytbffclcjhcbejaa
