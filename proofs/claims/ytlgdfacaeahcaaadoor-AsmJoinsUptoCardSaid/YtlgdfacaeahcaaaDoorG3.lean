/- Walk: the reference's Check. Conditions: what each theorem states. -/
import Derived.Test.YtlgdfacaeahcaaaDoorGA
import Derived.Deep.CutRange
import Derived.Test.YtlgdfacaeahcaaaDoorKZ
set_option linter.unusedVariables false
set_option linter.unusedSimpArgs false
namespace Go.Proofs.YtlgdfacaeahcaaaDoor
open Go.RowKit
theorem rk_step {w W W' : World} {p q n1 k1 n2 k2 n3 k3 n4 k4 g3 off3 : Nat} {A1 A2 A4 : Option Addr} {sec at_ : Int} {nm : ByteArray} (h : W.cell? ⟨p, 0, none⟩ = some (.slice A1 n1 k1) ∧ W.cell? ⟨p, 1, none⟩ = some (.slice A2 n2 k2) ∧ W.cell? ⟨p, 2, none⟩ = some (.slice (some ⟨g3, off3, none⟩) n3 k3) ∧ W.cell? ⟨p, 3, none⟩ = some (.slice A4 n4 k4) ∧ W.cell? ⟨q, 0, none⟩ = some (.string nm) ∧ W.cell? ⟨q, 1, none⟩ = some (.int .i64 sec) ∧ W.cell? ⟨q, 2, none⟩ = some (.int .i64 at_) ∧ Below p w W ∧ p + 1 ≤ W.heap.size) (hb : Below W.heap.size W W') : W'.cell? ⟨p, 0, none⟩ = some (.slice A1 n1 k1) ∧ W'.cell? ⟨p, 1, none⟩ = some (.slice A2 n2 k2) ∧ W'.cell? ⟨p, 2, none⟩ = some (.slice (some ⟨g3, off3, none⟩) n3 k3) ∧ W'.cell? ⟨p, 3, none⟩ = some (.slice A4 n4 k4) ∧ W'.cell? ⟨q, 0, none⟩ = some (.string nm) ∧ W'.cell? ⟨q, 1, none⟩ = some (.int .i64 sec) ∧ W'.cell? ⟨q, 2, none⟩ = some (.int .i64 at_) ∧ Below p w W' ∧ p + 1 ≤ W'.heap.size := by
  obtain ⟨c0, c1, c2, c3, c4, c5, c6, h1, h2⟩ := h
  have hk : ∀ {a : Addr} {v : Value}, W.cell? a = some v → W'.cell? a = some v := fun h => (hb.cell (cell_lt h)).trans h
  exact ⟨hk c0, hk c1, hk c2, hk c3, hk c4, hk c5, hk c6, h1.trans (hb.mono (by omega)), Nat.le_trans h2 hb.size⟩
theorem rk_b {w W : World} {p q n1 k1 n2 k2 n3 k3 n4 k4 g3 off3 : Nat} {A1 A2 A4 : Option Addr} {sec at_ : Int} {nm : ByteArray} (h : W.cell? ⟨p, 0, none⟩ = some (.slice A1 n1 k1) ∧ W.cell? ⟨p, 1, none⟩ = some (.slice A2 n2 k2) ∧ W.cell? ⟨p, 2, none⟩ = some (.slice (some ⟨g3, off3, none⟩) n3 k3) ∧ W.cell? ⟨p, 3, none⟩ = some (.slice A4 n4 k4) ∧ W.cell? ⟨q, 0, none⟩ = some (.string nm) ∧ W.cell? ⟨q, 1, none⟩ = some (.int .i64 sec) ∧ W.cell? ⟨q, 2, none⟩ = some (.int .i64 at_) ∧ Below p w W ∧ p + 1 ≤ W.heap.size) : Below p w W ∧ p + 1 ≤ W.heap.size := by
  obtain ⟨c0, c1, c2, c3, c4, c5, c6, h1, h2⟩ := h
  exact ⟨h1, h2⟩
theorem rk2_step {w W W' : World} {p q n1 k1 n2 k2 k3 n4 k4 g4 off4 k : Nat} {A1 A2 A3 : Option Addr} {sec at_ kd add : Int} {nm : ByteArray} (h : W.cell? ⟨p, 0, none⟩ = some (.slice A1 n1 k1) ∧ W.cell? ⟨p, 1, none⟩ = some (.slice A2 n2 k2) ∧ W.cell? ⟨p, 2, none⟩ = some (.slice A3 k k3) ∧ W.cell? ⟨p, 3, none⟩ = some (.slice (some ⟨g4, off4, none⟩) n4 k4) ∧ W.cell? ⟨q, 0, none⟩ = some (.int .i64 sec) ∧ W.cell? ⟨q, 1, none⟩ = some (.int .i64 at_) ∧ W.cell? ⟨q, 2, none⟩ = some (.int .i64 kd) ∧ W.cell? ⟨q, 3, none⟩ = some (.int .i64 add) ∧ W.cell? ⟨q, 4, none⟩ = some (.string nm) ∧ Below p w W ∧ p + 1 ≤ W.heap.size) (hb : Below W.heap.size W W') : W'.cell? ⟨p, 0, none⟩ = some (.slice A1 n1 k1) ∧ W'.cell? ⟨p, 1, none⟩ = some (.slice A2 n2 k2) ∧ W'.cell? ⟨p, 2, none⟩ = some (.slice A3 k k3) ∧ W'.cell? ⟨p, 3, none⟩ = some (.slice (some ⟨g4, off4, none⟩) n4 k4) ∧ W'.cell? ⟨q, 0, none⟩ = some (.int .i64 sec) ∧ W'.cell? ⟨q, 1, none⟩ = some (.int .i64 at_) ∧ W'.cell? ⟨q, 2, none⟩ = some (.int .i64 kd) ∧ W'.cell? ⟨q, 3, none⟩ = some (.int .i64 add) ∧ W'.cell? ⟨q, 4, none⟩ = some (.string nm) ∧ Below p w W' ∧ p + 1 ≤ W'.heap.size := by
  obtain ⟨c0, c1, c2, c3, c4, c5, c6, c7, c8, h1, h2⟩ := h
  have hk : ∀ {a : Addr} {v : Value}, W.cell? a = some v → W'.cell? a = some v := fun h => (hb.cell (cell_lt h)).trans h
  exact ⟨hk c0, hk c1, hk c2, hk c3, hk c4, hk c5, hk c6, hk c7, hk c8, h1.trans (hb.mono (by omega)), Nat.le_trans h2 hb.size⟩
theorem rk2_b {w W : World} {p q n1 k1 n2 k2 k3 n4 k4 g4 off4 k : Nat} {A1 A2 A3 : Option Addr} {sec at_ kd add : Int} {nm : ByteArray} (h : W.cell? ⟨p, 0, none⟩ = some (.slice A1 n1 k1) ∧ W.cell? ⟨p, 1, none⟩ = some (.slice A2 n2 k2) ∧ W.cell? ⟨p, 2, none⟩ = some (.slice A3 k k3) ∧ W.cell? ⟨p, 3, none⟩ = some (.slice (some ⟨g4, off4, none⟩) n4 k4) ∧ W.cell? ⟨q, 0, none⟩ = some (.int .i64 sec) ∧ W.cell? ⟨q, 1, none⟩ = some (.int .i64 at_) ∧ W.cell? ⟨q, 2, none⟩ = some (.int .i64 kd) ∧ W.cell? ⟨q, 3, none⟩ = some (.int .i64 add) ∧ W.cell? ⟨q, 4, none⟩ = some (.string nm) ∧ Below p w W ∧ p + 1 ≤ W.heap.size) : Below p w W ∧ p + 1 ≤ W.heap.size := by
  obtain ⟨c0, c1, c2, c3, c4, c5, c6, c7, c8, h1, h2⟩ := h
  exact ⟨h1, h2⟩
theorem rk3_step {w W W' : World} {p q n1 k1 n2 k2 k3 n4 k4 g4 off4 k i : Nat} {A1 A2 A3 : Option Addr} {sec at_ kd add ysec yat : Int} {nm : ByteArray} (h : W.cell? ⟨p, 0, none⟩ = some (.slice A1 n1 k1) ∧ W.cell? ⟨p, 1, none⟩ = some (.slice A2 n2 k2) ∧ W.cell? ⟨p, 2, none⟩ = some (.slice A3 k k3) ∧ W.cell? ⟨p, 3, none⟩ = some (.slice (some ⟨g4, off4, none⟩) n4 k4) ∧ W.cell? ⟨q, 0, none⟩ = some (.int .i64 sec) ∧ W.cell? ⟨q, 1, none⟩ = some (.int .i64 at_) ∧ W.cell? ⟨q, 2, none⟩ = some (.int .i64 kd) ∧ W.cell? ⟨q, 3, none⟩ = some (.int .i64 add) ∧ W.cell? ⟨q, 4, none⟩ = some (.string nm) ∧ W.cell? ⟨g4, off4 + i * 5, none⟩ = some (.int .i64 ysec) ∧ W.cell? ⟨g4, off4 + i * 5 + 1, none⟩ = some (.int .i64 yat) ∧ Below p w W ∧ p + 1 ≤ W.heap.size) (hb : Below W.heap.size W W') : W'.cell? ⟨p, 0, none⟩ = some (.slice A1 n1 k1) ∧ W'.cell? ⟨p, 1, none⟩ = some (.slice A2 n2 k2) ∧ W'.cell? ⟨p, 2, none⟩ = some (.slice A3 k k3) ∧ W'.cell? ⟨p, 3, none⟩ = some (.slice (some ⟨g4, off4, none⟩) n4 k4) ∧ W'.cell? ⟨q, 0, none⟩ = some (.int .i64 sec) ∧ W'.cell? ⟨q, 1, none⟩ = some (.int .i64 at_) ∧ W'.cell? ⟨q, 2, none⟩ = some (.int .i64 kd) ∧ W'.cell? ⟨q, 3, none⟩ = some (.int .i64 add) ∧ W'.cell? ⟨q, 4, none⟩ = some (.string nm) ∧ W'.cell? ⟨g4, off4 + i * 5, none⟩ = some (.int .i64 ysec) ∧ W'.cell? ⟨g4, off4 + i * 5 + 1, none⟩ = some (.int .i64 yat) ∧ Below p w W' ∧ p + 1 ≤ W'.heap.size := by
  obtain ⟨c0, c1, c2, c3, c4, c5, c6, c7, c8, c9, c10, h1, h2⟩ := h
  have hk : ∀ {a : Addr} {v : Value}, W.cell? a = some v → W'.cell? a = some v := fun h => (hb.cell (cell_lt h)).trans h
  exact ⟨hk c0, hk c1, hk c2, hk c3, hk c4, hk c5, hk c6, hk c7, hk c8, hk c9, hk c10, h1.trans (hb.mono (by omega)), Nat.le_trans h2 hb.size⟩
theorem rk3_b {w W : World} {p q n1 k1 n2 k2 k3 n4 k4 g4 off4 k i : Nat} {A1 A2 A3 : Option Addr} {sec at_ kd add ysec yat : Int} {nm : ByteArray} (h : W.cell? ⟨p, 0, none⟩ = some (.slice A1 n1 k1) ∧ W.cell? ⟨p, 1, none⟩ = some (.slice A2 n2 k2) ∧ W.cell? ⟨p, 2, none⟩ = some (.slice A3 k k3) ∧ W.cell? ⟨p, 3, none⟩ = some (.slice (some ⟨g4, off4, none⟩) n4 k4) ∧ W.cell? ⟨q, 0, none⟩ = some (.int .i64 sec) ∧ W.cell? ⟨q, 1, none⟩ = some (.int .i64 at_) ∧ W.cell? ⟨q, 2, none⟩ = some (.int .i64 kd) ∧ W.cell? ⟨q, 3, none⟩ = some (.int .i64 add) ∧ W.cell? ⟨q, 4, none⟩ = some (.string nm) ∧ W.cell? ⟨g4, off4 + i * 5, none⟩ = some (.int .i64 ysec) ∧ W.cell? ⟨g4, off4 + i * 5 + 1, none⟩ = some (.int .i64 yat) ∧ Below p w W ∧ p + 1 ≤ W.heap.size) : Below p w W ∧ p + 1 ≤ W.heap.size := by
  obtain ⟨c0, c1, c2, c3, c4, c5, c6, c7, c8, c9, c10, h1, h2⟩ := h
  exact ⟨h1, h2⟩
theorem rk2_2 {w W : World} {p q n1 k1 n2 k2 k3 n4 k4 g4 off4 k : Nat} {A1 A2 A3 : Option Addr} {sec at_ kd add : Int} {nm : ByteArray} (h : W.cell? ⟨p, 0, none⟩ = some (.slice A1 n1 k1) ∧ W.cell? ⟨p, 1, none⟩ = some (.slice A2 n2 k2) ∧ W.cell? ⟨p, 2, none⟩ = some (.slice A3 k k3) ∧ W.cell? ⟨p, 3, none⟩ = some (.slice (some ⟨g4, off4, none⟩) n4 k4) ∧ W.cell? ⟨q, 0, none⟩ = some (.int .i64 sec) ∧ W.cell? ⟨q, 1, none⟩ = some (.int .i64 at_) ∧ W.cell? ⟨q, 2, none⟩ = some (.int .i64 kd) ∧ W.cell? ⟨q, 3, none⟩ = some (.int .i64 add) ∧ W.cell? ⟨q, 4, none⟩ = some (.string nm) ∧ Below p w W ∧ p + 1 ≤ W.heap.size) : W.cell? ⟨p, 0, none⟩ = some (.slice A1 n1 k1) ∧ W.cell? ⟨p, 1, none⟩ = some (.slice A2 n2 k2) ∧ W.cell? ⟨p, 2, none⟩ = some (.slice A3 k k3) ∧ W.cell? ⟨p, 3, none⟩ = some (.slice (some ⟨g4, off4, none⟩) n4 k4) ∧ W.cell? ⟨q, 0, none⟩ = some (.int .i64 sec) ∧ W.cell? ⟨q, 1, none⟩ = some (.int .i64 at_) ∧ W.cell? ⟨q, 2, none⟩ = some (.int .i64 kd) ∧ W.cell? ⟨q, 3, none⟩ = some (.int .i64 add) ∧ W.cell? ⟨q, 4, none⟩ = some (.string nm) ∧ Below p w W ∧ p + 1 ≤ W.heap.size := h
theorem rk3_2 {w W : World} {p q n1 k1 n2 k2 k3 n4 k4 g4 off4 k i : Nat} {A1 A2 A3 : Option Addr} {sec at_ kd add ysec yat : Int} {nm : ByteArray} (h : W.cell? ⟨p, 0, none⟩ = some (.slice A1 n1 k1) ∧ W.cell? ⟨p, 1, none⟩ = some (.slice A2 n2 k2) ∧ W.cell? ⟨p, 2, none⟩ = some (.slice A3 k k3) ∧ W.cell? ⟨p, 3, none⟩ = some (.slice (some ⟨g4, off4, none⟩) n4 k4) ∧ W.cell? ⟨q, 0, none⟩ = some (.int .i64 sec) ∧ W.cell? ⟨q, 1, none⟩ = some (.int .i64 at_) ∧ W.cell? ⟨q, 2, none⟩ = some (.int .i64 kd) ∧ W.cell? ⟨q, 3, none⟩ = some (.int .i64 add) ∧ W.cell? ⟨q, 4, none⟩ = some (.string nm) ∧ W.cell? ⟨g4, off4 + i * 5, none⟩ = some (.int .i64 ysec) ∧ W.cell? ⟨g4, off4 + i * 5 + 1, none⟩ = some (.int .i64 yat) ∧ Below p w W ∧ p + 1 ≤ W.heap.size) : W.cell? ⟨p, 0, none⟩ = some (.slice A1 n1 k1) ∧ W.cell? ⟨p, 1, none⟩ = some (.slice A2 n2 k2) ∧ W.cell? ⟨p, 2, none⟩ = some (.slice A3 k k3) ∧ W.cell? ⟨p, 3, none⟩ = some (.slice (some ⟨g4, off4, none⟩) n4 k4) ∧ W.cell? ⟨q, 0, none⟩ = some (.int .i64 sec) ∧ W.cell? ⟨q, 1, none⟩ = some (.int .i64 at_) ∧ W.cell? ⟨q, 2, none⟩ = some (.int .i64 kd) ∧ W.cell? ⟨q, 3, none⟩ = some (.int .i64 add) ∧ W.cell? ⟨q, 4, none⟩ = some (.string nm) ∧ Below p w W ∧ p + 1 ≤ W.heap.size := by
  obtain ⟨a0, a1, a2, a3, b0, b1, b2, b3, b4, _, _, h1, h2⟩ := h
  exact ⟨a0, a1, a2, a3, b0, b1, b2, b3, b4, h1, h2⟩

/-- What is wrong with a label, but for doubles and order. -/
def lblC (o : Ob) (x : Lbl) : Bool := !symA x.nm || decide (x.sec < 0) || decide (1 < x.sec) || decide (x.at_ < 0) || decide (((o.sec x.sec).length : Int) < x.at_)
theorem lblB_C (o : Ob) (pre : List Lbl) (x : Lbl) : lblB o pre x = (lblC o x || amongB (pre.map Lbl.nm) x.nm) := by
  unfold lblB lblC
  cases symA x.nm <;> cases amongB (pre.map Lbl.nm) x.nm <;> simp
set_option maxRecDepth 100000 in
set_option maxHeartbeats 4000000 in
theorem rchk_long (A1 : Option Addr) (n1 k1 : Nat) (A2 : Option Addr) (n2 k2 : Nat) (A3 : Option Addr) (n3 k3 : Nat) (A4 : Option Addr) (n4 k4 : Nat) (w : World) (h : decide (1048576 < n1) = true ∨ (decide (1048576 < n1) = false ∧ decide (1048576 < n2) = true) ∨ (decide (1048576 < n1) = false ∧ decide (1048576 < n2) = false ∧ decide (4096 < n3) = true) ∨ (decide (1048576 < n1) = false ∧ decide (1048576 < n2) = false ∧ decide (4096 < n3) = false ∧ decide (16384 < n4) = true)) :
    Calls Tryd.prog 14 #[.agg #[.slice A1 n1 k1, .slice A2 n2 k2, .slice A3 n3 k3, .slice A4 n4 k4]] w fun e w' => e = .returned (.int .i64 3) ∧ Below w.heap.size w w' := by
  simp only [decide_eq_true_eq, decide_eq_false_iff_not] at h
  rcases h with h1 | ⟨h1, h2⟩ | ⟨h1, h2, h3⟩ | ⟨h1, h2, h3, h4⟩
  all_goals
    go_enter Tryd.func14, Tryd.ntmps14
    go_wp2_with fail
    all_goals
      go_ret
      exact ⟨rfl, (Below.refl _ _).alloc (Nat.le_refl _) _⟩
set_option maxRecDepth 100000 in
set_option maxHeartbeats 40000000 in
theorem rchk_main (o : Ob) (A1 : Option Addr) (k1 : Nat) (A2 : Option Addr) (k2 : Nat) (A3 : Option Addr) (n3 k3 : Nat) (A4 : Option Addr) (n4 k4 : Nat) (w : World) (h : ObAt w (.slice A1 o.tx.length k1) (.slice A2 o.dt.length k2) (.slice A3 n3 k3) (.slice A4 n4 k4) o) (h3 : o.lb.length = n3) (h4 : o.rl.length = n4) (hm1 : o.tx.length ≤ 1048576) (hm2 : o.dt.length ≤ 1048576) (hm3 : n3 ≤ 4096) (hm4 : n4 ≤ 16384) (ho : OpsAt w) (h0 : 0 < w.heap.size) (hnm : NmOK o) (R : Int) (hR : Hid (chkO o = R)) :
    Calls Tryd.prog 14 #[.agg #[.slice A1 o.tx.length k1, .slice A2 o.dt.length k2, .slice A3 n3 k3, .slice A4 n4 k4]] w fun e w' => e = .returned (.int .i64 R) ∧ Below w.heap.size w w' := by
  have HL : Hid (longO o = false) := by
    unfold longO
    show _ = _
    simp
    omega
  have HO := Lib.hid h
  have HOP := Lib.hid ho
  have HNM := Lib.hid hnm
  have HN3 := Lib.hid h3
  have HN4 := Lib.hid h4
  clear h ho hnm h3 h4
  obtain ⟨n1, hn1⟩ : ∃ n1, o.tx.length = n1 := ⟨_, rfl⟩
  obtain ⟨n2, hn2⟩ : ∃ n2, o.dt.length = n2 := ⟨_, rfl⟩
  rw [hn1] at hm1 HO ⊢
  rw [hn2] at hm2 HO ⊢
  clear hn1 hn2
  obtain ⟨p, hp⟩ : ∃ p, w.heap.size = p := ⟨_, rfl⟩
  have HST : Hid (Below p w (w.alloc (.cells #[.slice A1 n1 k1, .slice A2 n2 k2, .slice A3 n3 k3, .slice A4 n4 k4] 27)) ∧ p + 1 ≤ (w.alloc (.cells #[.slice A1 n1 k1, .slice A2 n2 k2, .slice A3 n3 k3, .slice A4 n4 k4] 27)).heap.size ∧ BoxO (w.alloc (.cells #[.slice A1 n1 k1, .slice A2 n2 k2, .slice A3 n3 k3, .slice A4 n4 k4] 27)) p (.slice A1 n1 k1) (.slice A2 n2 k2) (.slice A3 n3 k3) (.slice A4 n4 k4)) := by
    subst hp
    exact ⟨(Below.refl _ _).alloc (Nat.le_refl _) _, by simp, BoxO.fresh w _ _ _ _ _⟩
  have HP := Lib.hid hp
  rw [hp]
  rw [hp] at h0
  go_enter Tryd.func14, Tryd.ntmps14
  go_wp2_with fail
  go_loopw [3] (fun i wr => ∃ k : Nat, k ≤ n3 ∧ i = .int .i64 k ∧ Hid ((List.range k).any (badL o) = false) ∧ Hid (Below p w wr ∧ p + 1 ≤ wr.heap.size ∧ BoxO wr p (.slice A1 n1 k1) (.slice A2 n2 k2) (.slice A3 n3 k3) (.slice A4 n4 k4))) (fun i _ => n3 - (intOf i).toNat)
  case atStart => exact ⟨0, Nat.zero_le _, rfl, rfl, HST.out⟩
  case round =>
    obtain ⟨k, hk, rfl, HA, HI⟩ := hrel
    clear HST
    by_cases hlt : k < n3
    · have hkl : k < o.lb.length := by rw [HN3.out]; exact hlt
      obtain ⟨g3, off3, rfl, hg3, hc3⟩ := HO.out.lb.at_ (by omega)
      obtain ⟨x, hx⟩ : ∃ x, o.lb.getD k default = x := ⟨_, rfl⟩
      have hcx := hc3 k hkl
      rw [hx] at hcx
      have hmem : x ∈ o.lb := by rw [← hx]; simp [List.getD, hkl]
      have HXN : Hid (x.nm.size ≤ maxLen) := HNM.out.1 x hmem
      have HX := Lib.hid hx
      obtain ⟨nm, sec, at_, gl⟩ := x
      dsimp only at hcx HXN
      have hbw : ∀ {a : Addr} {v : Value}, w.cell? a = some v → wr.cell? a = some v := fun h => (HI.out.1.cell (by have := cell_lt h; rw [HP.out] at this; exact this)).trans h
      obtain ⟨c0, c1, c2, c3⟩ := hcx
      replace c0 := hbw c0
      replace c1 := hbw c1
      replace c2 := hbw c2
      replace c3 := hbw c3
      clear hbw hmem hx hg3
      have HC3 := Lib.hid hc3
      clear hc3
      obtain ⟨a0, a1, a2, a3⟩ := HI.out.2.2
      have e4 : IntKind.i64.wrap ((k : Int) + 1) = ((k + 1 : Nat) : Int) := by rw [IntWalk.i64_in _ (by omega)]; omega
      go_upto_region 7 with fail
      obtain ⟨q, hq⟩ : ∃ q, wr.heap.size = q := ⟨_, rfl⟩
      rw [hq]
      obtain ⟨w1, hw1⟩ : ∃ w1, wr.alloc (.cells #[.string nm, .int .i64 sec, .int .i64 at_, .bool gl] 45) = w1 := ⟨_, rfl⟩
      rw [hw1]
      have HC : Hid (w1.cell? ⟨p, 0, none⟩ = some (.slice A1 n1 k1) ∧ w1.cell? ⟨p, 1, none⟩ = some (.slice A2 n2 k2) ∧ w1.cell? ⟨p, 2, none⟩ = some (.slice (some ⟨g3, off3, none⟩) n3 k3) ∧ w1.cell? ⟨p, 3, none⟩ = some (.slice A4 n4 k4) ∧ w1.cell? ⟨q, 0, none⟩ = some (.string nm) ∧ w1.cell? ⟨q, 1, none⟩ = some (.int .i64 sec) ∧ w1.cell? ⟨q, 2, none⟩ = some (.int .i64 at_) ∧ Below p w w1 ∧ p + 1 ≤ w1.heap.size) := by
        have hbb : Below wr.heap.size wr w1 := by rw [← hw1]; exact (Below.refl _ _).alloc (Nat.le_refl _) _
        have hY := (Blk.new wr 45 #[.string nm, .int .i64 sec, .int .i64 at_, .bool gl]).cell
        rw [hw1, hq] at hY
        have hx := HI.out.2.2.below hbb
        exact ⟨hx.1, hx.2.1, hx.2.2.1, hx.2.2.2, by rw [hY]; rfl, by rw [hY]; rfl, by rw [hY]; rfl, HI.out.1.trans (hbb.mono (by have := HI.out.2.1; omega)), Nat.le_trans HI.out.2.1 hbb.size⟩
      clear hw1 hq HI c0 c1 c2 c3 a0 a1 a2 a3
      obtain ⟨LC, hLC⟩ : ∃ LC, lblC o ⟨nm, sec, at_, gl⟩ = LC := ⟨_, rfl⟩
      have HLC := Lib.hid hLC
      clear hLC
      go_cut [70] from 42 to 70 (fun c W => c = .bool LC ∧ Hid (W.cell? ⟨p, 0, none⟩ = some (.slice A1 n1 k1) ∧ W.cell? ⟨p, 1, none⟩ = some (.slice A2 n2 k2) ∧ W.cell? ⟨p, 2, none⟩ = some (.slice (some ⟨g3, off3, none⟩) n3 k3) ∧ W.cell? ⟨p, 3, none⟩ = some (.slice A4 n4 k4) ∧ W.cell? ⟨q, 0, none⟩ = some (.string nm) ∧ W.cell? ⟨q, 1, none⟩ = some (.int .i64 sec) ∧ W.cell? ⟨q, 2, none⟩ = some (.int .i64 at_) ∧ Below p w W ∧ p + 1 ≤ W.heap.size))
      case first => as_aux_lemma =>
        rename_i a5 Q2 K2 a4 K1 a3 K0 a2 J Kp a1 aM
        clear a5 a4 a3 a2
        clear HA HX HL hR HC3 HN3 HN4 HNM HOP
        have HSY : Hid (∀ W, Calls Tryd.prog 25 #[.string nm] W fun e w' => e = .returned (.bool (symA nm)) ∧ Below W.heap.size W w') := fun W => by
          rw [sym_same]
          exact rsym_any nm W HXN.out
        cases c1 : symA nm with
        | false =>
          rw [c1] at HSY
          refine wp_region_held_drew (S := (fun W => W.cell? ⟨p, 0, none⟩ = some (.slice A1 n1 k1) ∧ W.cell? ⟨p, 1, none⟩ = some (.slice A2 n2 k2) ∧ W.cell? ⟨p, 2, none⟩ = some (.slice (some ⟨g3, off3, none⟩) n3 k3) ∧ W.cell? ⟨p, 3, none⟩ = some (.slice A4 n4 k4) ∧ W.cell? ⟨q, 0, none⟩ = some (.string nm) ∧ W.cell? ⟨q, 1, none⟩ = some (.int .i64 sec) ∧ W.cell? ⟨q, 2, none⟩ = some (.int .i64 at_) ∧ Below p w W ∧ p + 1 ≤ W.heap.size)) (by kernel_rfl) ?_ (fun hHeld => ?_)
          · exact rk_step HC.out ((Below.refl _ _).drew)
          refine FU 29 rfl ?_
          iterate 2 ((first | (refine TN 29 ?_ rfl ?_ ?_; rotate_left 1; focus (intro w h; (try dsimp only at h); first | (go_simp; done) | (go_simp; with_reducible rfl))) | refine TM 29 rfl ?_); (try simp only [AP, Nat.reduceAdd, Nat.reduceSub]))
          refine wpAnyH_ready (rs := [2]) (by kernel_rfl) (by simp) ?_
          refine AllReadyH.cons rfl (fun K hK => ?_) AllReadyH.nil
          rw [if_pos (by rfl)]
          go_simp
          go_at_call 25; refine (HSY.out _).mono ?_; rintro e w2 ⟨rfl, hb⟩; have t1 := rk_step hHeld hb; clear hb
          try go_wp2_with fail
          refine hK.out _ _ t1 (fun hHeld => ?_)
          clear hK K
          try simp only [AP]
          iterate 26 ((first | (refine TN 29 ?_ rfl ?_ ?_; rotate_left 1; focus (intro w h; (try dsimp only at h); first | (go_simp; done) | (go_simp; with_reducible rfl))) | refine TM 29 rfl ?_); (try simp only [AP, Nat.reduceAdd, Nat.reduceSub]))
          refine wpAnyH_done (by kernel_rfl) ?_ _
          have HLBV : Hid (LC = true) := by show _ = _; rw [← HLC.out]; simp [lblC, c1]
          go_wp2_with fail
          go_meet
          case rel => exact ⟨by rw [HLBV.out], t1⟩
        | true =>
          rw [c1] at HSY
          by_cases c3 : sec < 0
          · refine wp_region_held_drew (S := (fun W => W.cell? ⟨p, 0, none⟩ = some (.slice A1 n1 k1) ∧ W.cell? ⟨p, 1, none⟩ = some (.slice A2 n2 k2) ∧ W.cell? ⟨p, 2, none⟩ = some (.slice (some ⟨g3, off3, none⟩) n3 k3) ∧ W.cell? ⟨p, 3, none⟩ = some (.slice A4 n4 k4) ∧ W.cell? ⟨q, 0, none⟩ = some (.string nm) ∧ W.cell? ⟨q, 1, none⟩ = some (.int .i64 sec) ∧ W.cell? ⟨q, 2, none⟩ = some (.int .i64 at_) ∧ Below p w W ∧ p + 1 ≤ W.heap.size)) (by kernel_rfl) ?_ (fun hHeld => ?_)
            · exact rk_step HC.out ((Below.refl _ _).drew)
            refine FU 29 rfl ?_
            iterate 2 ((first | (refine TN 29 ?_ rfl ?_ ?_; rotate_left 1; focus (intro w h; (try dsimp only at h); first | (go_simp; done) | (go_simp; with_reducible rfl))) | refine TM 29 rfl ?_); (try simp only [AP, Nat.reduceAdd, Nat.reduceSub]))
            refine wpAnyH_ready (rs := [2]) (by kernel_rfl) (by simp) ?_
            refine AllReadyH.cons rfl (fun K hK => ?_) AllReadyH.nil
            rw [if_pos (by rfl)]
            go_simp
            go_at_call 25; refine (HSY.out _).mono ?_; rintro e w2 ⟨rfl, hb⟩; have t1 := rk_step hHeld hb; clear hb
            try go_wp2_with fail
            refine hK.out _ _ t1 (fun hHeld => ?_)
            clear hK K
            try simp only [AP]
            iterate 26 ((first | (refine TN 29 ?_ rfl ?_ ?_; rotate_left 1; focus (intro w h; (try dsimp only at h); first | (go_simp; done) | (go_simp; with_reducible rfl))) | refine TM 29 rfl ?_); (try simp only [AP, Nat.reduceAdd, Nat.reduceSub]))
            refine wpAnyH_done (by kernel_rfl) ?_ _
            have HLBV : Hid (LC = true) := by show _ = _; rw [← HLC.out]; simp [lblC, c1, c3]
            go_wp2_with fail
            go_meet
            case rel => exact ⟨by rw [HLBV.out], t1⟩
          have d3 : decide (sec < 0) = false := decide_eq_false c3
          by_cases c4 : 1 < sec
          · refine wp_region_held_drew (S := (fun W => W.cell? ⟨p, 0, none⟩ = some (.slice A1 n1 k1) ∧ W.cell? ⟨p, 1, none⟩ = some (.slice A2 n2 k2) ∧ W.cell? ⟨p, 2, none⟩ = some (.slice (some ⟨g3, off3, none⟩) n3 k3) ∧ W.cell? ⟨p, 3, none⟩ = some (.slice A4 n4 k4) ∧ W.cell? ⟨q, 0, none⟩ = some (.string nm) ∧ W.cell? ⟨q, 1, none⟩ = some (.int .i64 sec) ∧ W.cell? ⟨q, 2, none⟩ = some (.int .i64 at_) ∧ Below p w W ∧ p + 1 ≤ W.heap.size)) (by kernel_rfl) ?_ (fun hHeld => ?_)
            · exact rk_step HC.out ((Below.refl _ _).drew)
            refine FU 29 rfl ?_
            iterate 2 ((first | (refine TN 29 ?_ rfl ?_ ?_; rotate_left 1; focus (intro w h; (try dsimp only at h); first | (go_simp; done) | (go_simp; with_reducible rfl))) | refine TM 29 rfl ?_); (try simp only [AP, Nat.reduceAdd, Nat.reduceSub]))
            refine wpAnyH_ready (rs := [2]) (by kernel_rfl) (by simp) ?_
            refine AllReadyH.cons rfl (fun K hK => ?_) AllReadyH.nil
            rw [if_pos (by rfl)]
            go_simp
            go_at_call 25; refine (HSY.out _).mono ?_; rintro e w2 ⟨rfl, hb⟩; have t1 := rk_step hHeld hb; clear hb
            try go_wp2_with fail
            refine hK.out _ _ t1 (fun hHeld => ?_)
            clear hK K
            try simp only [AP]
            iterate 26 ((first | (refine TN 29 ?_ rfl ?_ ?_; rotate_left 1; focus (intro w h; (try dsimp only at h); first | (go_simp; done) | (go_simp; with_reducible rfl))) | refine TM 29 rfl ?_); (try simp only [AP, Nat.reduceAdd, Nat.reduceSub]))
            refine wpAnyH_done (by kernel_rfl) ?_ _
            have HLBV : Hid (LC = true) := by show _ = _; rw [← HLC.out]; simp [lblC, c1, c3, c4]
            go_wp2_with fail
            go_meet
            case rel => exact ⟨by rw [HLBV.out], t1⟩
          have d4 : decide (1 < sec) = false := decide_eq_false c4
          by_cases c5 : at_ < 0
          · refine wp_region_held_drew (S := (fun W => W.cell? ⟨p, 0, none⟩ = some (.slice A1 n1 k1) ∧ W.cell? ⟨p, 1, none⟩ = some (.slice A2 n2 k2) ∧ W.cell? ⟨p, 2, none⟩ = some (.slice (some ⟨g3, off3, none⟩) n3 k3) ∧ W.cell? ⟨p, 3, none⟩ = some (.slice A4 n4 k4) ∧ W.cell? ⟨q, 0, none⟩ = some (.string nm) ∧ W.cell? ⟨q, 1, none⟩ = some (.int .i64 sec) ∧ W.cell? ⟨q, 2, none⟩ = some (.int .i64 at_) ∧ Below p w W ∧ p + 1 ≤ W.heap.size)) (by kernel_rfl) ?_ (fun hHeld => ?_)
            · exact rk_step HC.out ((Below.refl _ _).drew)
            refine FU 29 rfl ?_
            iterate 2 ((first | (refine TN 29 ?_ rfl ?_ ?_; rotate_left 1; focus (intro w h; (try dsimp only at h); first | (go_simp; done) | (go_simp; with_reducible rfl))) | refine TM 29 rfl ?_); (try simp only [AP, Nat.reduceAdd, Nat.reduceSub]))
            refine wpAnyH_ready (rs := [2]) (by kernel_rfl) (by simp) ?_
            refine AllReadyH.cons rfl (fun K hK => ?_) AllReadyH.nil
            rw [if_pos (by rfl)]
            go_simp
            go_at_call 25; refine (HSY.out _).mono ?_; rintro e w2 ⟨rfl, hb⟩; have t1 := rk_step hHeld hb; clear hb
            try go_wp2_with fail
            refine hK.out _ _ t1 (fun hHeld => ?_)
            clear hK K
            try simp only [AP]
            iterate 26 ((first | (refine TN 29 ?_ rfl ?_ ?_; rotate_left 1; focus (intro w h; (try dsimp only at h); first | (go_simp; done) | (go_simp; with_reducible rfl))) | refine TM 29 rfl ?_); (try simp only [AP, Nat.reduceAdd, Nat.reduceSub]))
            refine wpAnyH_done (by kernel_rfl) ?_ _
            have HLBV : Hid (LC = true) := by show _ = _; rw [← HLC.out]; simp [lblC, c1, c3, c4, c5]
            go_wp2_with fail
            go_meet
            case rel => exact ⟨by rw [HLBV.out], t1⟩
          have d5 : decide (at_ < 0) = false := decide_eq_false c5
          obtain ⟨As, ks, hv, ls⟩ := (HO.out.sec sec).form
          have HPT : Hid (∀ W, Calls Tryd.prog 16 #[.agg #[.slice A1 n1 k1, .slice A2 n2 k2, .slice (some ⟨g3, off3, none⟩) n3 k3, .slice A4 n4 k4], .int .i64 sec] W fun e w' => e = .returned (.slice As (o.sec sec).length ks) ∧ Below W.heap.size W w') := fun W => by
            rw [← hv]
            exact section_any _ _ _ _ sec W
          clear hv ls HO
          by_cases c6 : ((o.sec sec).length : Int) < at_
          · have HC6 := Lib.hid c6
            obtain ⟨ns, hns⟩ : ∃ ns, (o.sec sec).length = ns := ⟨_, rfl⟩
            rw [hns] at HPT c6
            have HNS := Lib.hid hns
            clear hns
            refine wp_region_held_drew (S := (fun W => W.cell? ⟨p, 0, none⟩ = some (.slice A1 n1 k1) ∧ W.cell? ⟨p, 1, none⟩ = some (.slice A2 n2 k2) ∧ W.cell? ⟨p, 2, none⟩ = some (.slice (some ⟨g3, off3, none⟩) n3 k3) ∧ W.cell? ⟨p, 3, none⟩ = some (.slice A4 n4 k4) ∧ W.cell? ⟨q, 0, none⟩ = some (.string nm) ∧ W.cell? ⟨q, 1, none⟩ = some (.int .i64 sec) ∧ W.cell? ⟨q, 2, none⟩ = some (.int .i64 at_) ∧ Below p w W ∧ p + 1 ≤ W.heap.size)) (by kernel_rfl) ?_ (fun hHeld => ?_)
            · exact rk_step HC.out ((Below.refl _ _).drew)
            refine FU 29 rfl ?_
            iterate 2 ((first | (refine TN 29 ?_ rfl ?_ ?_; rotate_left 1; focus (intro w h; (try dsimp only at h); first | (go_simp; done) | (go_simp; with_reducible rfl))) | refine TM 29 rfl ?_); (try simp only [AP, Nat.reduceAdd, Nat.reduceSub]))
            refine wpAnyH_ready (rs := [2]) (by kernel_rfl) (by simp) ?_
            refine AllReadyH.cons rfl (fun K hK => ?_) AllReadyH.nil
            rw [if_pos (by rfl)]
            go_simp
            go_at_call 25; refine (HSY.out _).mono ?_; rintro e w2 ⟨rfl, hb⟩; have t1 := rk_step hHeld hb; clear hb
            try go_wp2_with fail
            refine hK.out _ _ t1 (fun hHeld => ?_)
            clear hK K
            try simp only [AP]
            iterate 22 ((first | (refine TN 29 ?_ rfl ?_ ?_; rotate_left 1; focus (intro w h; (try dsimp only at h); first | (go_simp; done) | (go_simp; with_reducible rfl))) | refine TM 29 rfl ?_); (try simp only [AP, Nat.reduceAdd, Nat.reduceSub]))
            refine wpAnyH_ready (rs := [25]) (by kernel_rfl) (by simp) ?_
            refine AllReadyH.cons rfl (fun K hK => ?_) AllReadyH.nil
            rw [if_pos (by rfl)]
            go_simp
            go_at_call 16; refine (HPT.out _).mono ?_; rintro e w3 ⟨rfl, hb⟩; have t2 := rk_step hHeld hb; clear hb
            try go_wp2_with fail
            refine hK.out _ _ t2 (fun hHeld => ?_)
            clear hK K
            try simp only [AP]
            iterate 3 ((first | (refine TN 29 ?_ rfl ?_ ?_; rotate_left 1; focus (intro w h; (try dsimp only at h); first | (go_simp; done) | (go_simp; with_reducible rfl))) | refine TM 29 rfl ?_); (try simp only [AP, Nat.reduceAdd, Nat.reduceSub]))
            refine wpAnyH_done (by kernel_rfl) ?_ _
            have HLBV : Hid (LC = true) := by show _ = _; rw [← HLC.out]; simp [lblC, c1, c3, c4, c5, HC6.out]
            go_wp2_with fail
            go_meet
            case rel => exact ⟨by rw [HLBV.out], t2⟩
          · have HC6 := Lib.hid c6
            obtain ⟨ns, hns⟩ : ∃ ns, (o.sec sec).length = ns := ⟨_, rfl⟩
            rw [hns] at HPT c6
            have HNS := Lib.hid hns
            have d6 : decide ((ns : Int) < at_) = false := decide_eq_false c6
            clear hns
            refine wp_region_held_drew (S := (fun W => W.cell? ⟨p, 0, none⟩ = some (.slice A1 n1 k1) ∧ W.cell? ⟨p, 1, none⟩ = some (.slice A2 n2 k2) ∧ W.cell? ⟨p, 2, none⟩ = some (.slice (some ⟨g3, off3, none⟩) n3 k3) ∧ W.cell? ⟨p, 3, none⟩ = some (.slice A4 n4 k4) ∧ W.cell? ⟨q, 0, none⟩ = some (.string nm) ∧ W.cell? ⟨q, 1, none⟩ = some (.int .i64 sec) ∧ W.cell? ⟨q, 2, none⟩ = some (.int .i64 at_) ∧ Below p w W ∧ p + 1 ≤ W.heap.size)) (by kernel_rfl) ?_ (fun hHeld => ?_)
            · exact rk_step HC.out ((Below.refl _ _).drew)
            refine FU 29 rfl ?_
            iterate 2 ((first | (refine TN 29 ?_ rfl ?_ ?_; rotate_left 1; focus (intro w h; (try dsimp only at h); first | (go_simp; done) | (go_simp; with_reducible rfl))) | refine TM 29 rfl ?_); (try simp only [AP, Nat.reduceAdd, Nat.reduceSub]))
            refine wpAnyH_ready (rs := [2]) (by kernel_rfl) (by simp) ?_
            refine AllReadyH.cons rfl (fun K hK => ?_) AllReadyH.nil
            rw [if_pos (by rfl)]
            go_simp
            go_at_call 25; refine (HSY.out _).mono ?_; rintro e w2 ⟨rfl, hb⟩; have t1 := rk_step hHeld hb; clear hb
            try go_wp2_with fail
            refine hK.out _ _ t1 (fun hHeld => ?_)
            clear hK K
            try simp only [AP]
            iterate 22 ((first | (refine TN 29 ?_ rfl ?_ ?_; rotate_left 1; focus (intro w h; (try dsimp only at h); first | (go_simp; done) | (go_simp; with_reducible rfl))) | refine TM 29 rfl ?_); (try simp only [AP, Nat.reduceAdd, Nat.reduceSub]))
            refine wpAnyH_ready (rs := [25]) (by kernel_rfl) (by simp) ?_
            refine AllReadyH.cons rfl (fun K hK => ?_) AllReadyH.nil
            rw [if_pos (by rfl)]
            go_simp
            go_at_call 16; refine (HPT.out _).mono ?_; rintro e w3 ⟨rfl, hb⟩; have t2 := rk_step hHeld hb; clear hb
            try go_wp2_with fail
            refine hK.out _ _ t2 (fun hHeld => ?_)
            clear hK K
            try simp only [AP]
            iterate 3 ((first | (refine TN 29 ?_ rfl ?_ ?_; rotate_left 1; focus (intro w h; (try dsimp only at h); first | (go_simp; done) | (go_simp; with_reducible rfl))) | refine TM 29 rfl ?_); (try simp only [AP, Nat.reduceAdd, Nat.reduceSub]))
            refine wpAnyH_done (by kernel_rfl) ?_ _
            have HLBV : Hid (LC = false) := by show _ = _; rw [← HLC.out]; simp [lblC, c1, c3, c4, c5, HC6.out]
            go_wp2_with fail
            go_meet
            case rel => exact ⟨by rw [HLBV.out], t2⟩
      case rest => as_aux_lemma =>
        obtain ⟨rfl, HC2⟩ := hcut
        cases LC with
        | true =>
          have hfin : R = 5 := by
            rw [← hR.out]
            exact chk_badL HL.out hkl (by unfold badL; rw [HX.out, lblB_C, HLC.out, Bool.true_or, Bool.true_or])
          have HF := Lib.hid hfin
          clear hfin
          go_wp2_with fail
          go_ret
          exact ⟨ret_er HF.out.symm, (rk_b HC2.out).1⟩
        | false =>
          clear HC
          obtain ⟨OB, hOB⟩ : ∃ OB, (decide (0 < k) && ordB (o.lb.getD (k - 1) default) ⟨nm, sec, at_, gl⟩) = OB := ⟨_, rfl⟩
          have HOB := Lib.hid hOB
          clear hOB
          obtain ⟨a0, a1, a2, a3, b0, b1, b2, _, _⟩ := HC2.out
          go_upto_region 9 with fail
          go_cut [108] from 71 to 108 (fun c W => c = .bool OB ∧ Hid (W.cell? ⟨p, 0, none⟩ = some (.slice A1 n1 k1) ∧ W.cell? ⟨p, 1, none⟩ = some (.slice A2 n2 k2) ∧ W.cell? ⟨p, 2, none⟩ = some (.slice (some ⟨g3, off3, none⟩) n3 k3) ∧ W.cell? ⟨p, 3, none⟩ = some (.slice A4 n4 k4) ∧ W.cell? ⟨q, 0, none⟩ = some (.string nm) ∧ W.cell? ⟨q, 1, none⟩ = some (.int .i64 sec) ∧ W.cell? ⟨q, 2, none⟩ = some (.int .i64 at_) ∧ Below p w W ∧ p + 1 ≤ W.heap.size))
          case first => as_aux_lemma =>
            rcases Nat.eq_zero_or_pos k with hk0 | hk0
            · have HV : Hid (OB = false) := by show _ = _; rw [← HOB.out, hk0]; rfl
              have hk1 : decide ((0 : Int) < (k : Int)) = false := decide_eq_false (by omega)
              have hk2 : decide (0 < k) = false := decide_eq_false (by omega)
              clear hk0
              go_quiet (fail)
              go_wp2_with fail
              go_meet
              case rel => exact ⟨by rw [HV.out], rk_step HC2.out (below_dN (Below.refl _ _) _)⟩
            · obtain ⟨j, rfl⟩ : ∃ j, k = j + 1 := ⟨k - 1, by omega⟩
              obtain ⟨y, hy⟩ : ∃ y, o.lb.getD j default = y := ⟨_, rfl⟩
              have hcy := HC3.out j (by omega)
              rw [hy] at hcy
              have HOB2 : Hid (ordB y ⟨nm, sec, at_, gl⟩ = OB) := by show _ = _; rw [← HOB.out, Nat.add_sub_cancel, hy]; simp
              clear hy HOB
              obtain ⟨ynm, ysec, yat, ygl⟩ := y
              dsimp only at hcy
              have hbw : ∀ {a : Addr} {v : Value}, w.cell? a = some v → wc.cell? a = some v := fun h => ((rk_b HC2.out).1.cell (by have := cell_lt h; rw [HP.out] at this; exact this)).trans h
              obtain ⟨_, c1, c2, _⟩ := hcy
              replace c1 := hbw c1
              replace c2 := hbw c2
              clear hbw
              have e1 : IntKind.i64.wrap (((j + 1 : Nat) : Int) - 1) = (j : Int) := by rw [IntWalk.i64_in _ (by omega)]; omega
              have e2 : (0 : Int) < ((j + 1 : Nat) : Int) := by omega
              have e3 : (j : Int) < (n3 : Int) := by omega
              have e5 : (0 : Int) ≤ (j : Int) := by omega
              by_cases d1 : sec < ysec
              · have HV : Hid (OB = true) := by show _ = _; rw [← HOB2.out]; simp [ordB, d1]
                clear e4
                go_quiet (fail)
                go_wp2_with fail
                go_meet
                case rel => exact ⟨by rw [HV.out], rk_step HC2.out (below_dN (Below.refl _ _) _)⟩
              have d1' : decide (sec < ysec) = false := decide_eq_false d1
              by_cases d2 : ysec = sec
              · subst d2
                by_cases d3 : at_ < yat
                · have HV : Hid (OB = true) := by show _ = _; rw [← HOB2.out]; simp [ordB, d3]
                  clear e4
                  go_quiet (fail)
                  go_wp2_with fail
                  go_meet
                  case rel => exact ⟨by rw [HV.out], rk_step HC2.out (below_dN (Below.refl _ _) _)⟩
                · have HV : Hid (OB = false) := by show _ = _; rw [← HOB2.out]; simp [ordB, d3]
                  have d3' : decide (at_ < yat) = false := decide_eq_false d3
                  clear e4 d3
                  go_quiet (fail)
                  go_wp2_with fail
                  go_meet
                  case rel => exact ⟨by rw [HV.out], rk_step HC2.out (below_dN (Below.refl _ _) _)⟩
              · have HV : Hid (OB = false) := by show _ = _; rw [← HOB2.out]; simp [ordB, d1, d2]
                have d2' : (ysec == sec) = false := by simpa using d2
                clear e4 d1 d2
                go_quiet (fail)
                go_wp2_with fail
                go_meet
                case rel => exact ⟨by rw [HV.out], rk_step HC2.out (below_dN (Below.refl _ _) _)⟩
          case rest => as_aux_lemma =>
            clear HC2 a0 a1 a2 a3 b0 b1 b2
            obtain ⟨rfl, HC2⟩ := hcut
            cases OB with
            | true =>
              have hfin : R = 5 := by
                rw [← hR.out]
                exact chk_badL HL.out hkl (by unfold badL; rw [HX.out, HOB.out, Bool.or_true])
              have HF := Lib.hid hfin
              clear hfin
              go_wp2_with fail
              go_ret
              exact ⟨ret_er HF.out.symm, (rk_b HC2.out).1⟩
            | false =>
              go_wp2_with fail
              go_loopw [5] (fun v W => ∃ i : Nat, i ≤ k ∧ v = .int .i64 i ∧ Hid (amongB ((o.lb.map Lbl.nm).take i) nm = false) ∧ Hid (W.cell? ⟨p, 0, none⟩ = some (.slice A1 n1 k1) ∧ W.cell? ⟨p, 1, none⟩ = some (.slice A2 n2 k2) ∧ W.cell? ⟨p, 2, none⟩ = some (.slice (some ⟨g3, off3, none⟩) n3 k3) ∧ W.cell? ⟨p, 3, none⟩ = some (.slice A4 n4 k4) ∧ W.cell? ⟨q, 0, none⟩ = some (.string nm) ∧ W.cell? ⟨q, 1, none⟩ = some (.int .i64 sec) ∧ W.cell? ⟨q, 2, none⟩ = some (.int .i64 at_) ∧ Below p w W ∧ p + 1 ≤ W.heap.size)) (fun v _ => k - (intOf v).toNat)
              case atStart => exact ⟨0, Nat.zero_le _, rfl, rfl, HC2.out⟩
              case round =>
                clear HC2
                obtain ⟨i, hi, rfl, HM, HC2⟩ := hrel
                by_cases hik : i < k
                · obtain ⟨a0, a1, a2, a3, b0, b1, b2, _, _⟩ := HC2.out
                  have hil : i < o.lb.length := by omega
                  obtain ⟨y, hy⟩ : ∃ y, o.lb.getD i default = y := ⟨_, rfl⟩
                  have hcy := HC3.out i hil
                  rw [hy] at hcy
                  have HYM : Hid ((o.lb.map Lbl.nm)[i]? = some y.nm) := by show _ = _; rw [List.getElem?_map, List.getElem?_eq_getElem hil, ← hy]; simp [List.getD, hil]
                  clear hy
                  obtain ⟨ynm, ysec, yat, ygl⟩ := y
                  dsimp only at hcy HYM
                  obtain ⟨c0, _, _, _⟩ := hcy
                  replace c0 := ((rk_b HC2.out).1.cell (by have := cell_lt c0; rw [HP.out] at this; exact this)).trans c0
                  have e3 : (i : Int) < (n3 : Int) := by omega
                  have e5 : (0 : Int) ≤ (i : Int) := by omega
                  have e6 : IntKind.i64.wrap ((i : Int) + 1) = ((i + 1 : Nat) : Int) := by rw [IntWalk.i64_in _ (by omega)]; omega
                  cases he : (ynm.toList == nm.toList) with
                  | true =>
                    have hfin : R = 5 := by
                      rw [← hR.out]
                      refine chk_badL HL.out hkl ?_
                      unfold badL
                      rw [HX.out, lblB_C]
                      have : amongB ((o.lb.take k).map Lbl.nm) nm = true := by
                        rw [List.map_take]
                        exact among_hit (k := i) (by rw [List.getElem?_take_of_lt hik]; exact HYM.out) he
                      simp only [this, Bool.or_true, Bool.true_or]
                    have HF := Lib.hid hfin
                    clear hfin
                    go_wp2_with fail
                    go_quiet (fail)
                    go_wp2_with fail
                    go_ret
                    exact ⟨ret_er HF.out.symm, (rk_b (rk_step HC2.out (below_dN (Below.refl _ _) _))).1⟩
                  | false =>
                    have HM2 := Lib.hid (among_miss HYM.out HM.out he)
                    go_wp2_with fail
                    go_quiet (fail)
                    go_wp2_with fail
                    go_roundw
                    case rel => exact ⟨i + 1, by omega, by go_num, HM2.out, rk_step HC2.out (below_dN (Below.refl _ _) _)⟩
                    case measure => simp [intOf]; omega
                · have hik2 : i = k := by omega
                  subst hik2
                  have HA2 : Hid ((List.range (i + 1)).any (badL o) = false) := by
                    refine rng_miss HA.out ?_
                    unfold badL
                    rw [HX.out, lblB_C, HLC.out, HOB.out, List.map_take]
                    simp only [HM.out, Bool.or_false]
                  go_wp2_with fail
                  go_roundw
                  case rel =>
                    obtain ⟨a0, a1, a2, a3, _, _, _, h1, h2⟩ := HC2.out
                    exact ⟨i + 1, by omega, by go_num, HA2.out, h1, h2, a0, a1, a2, a3⟩
                  case measure => simp [intOf]; omega
    · have hkn : k = n3 := by omega
      subst hkn
      have HAL := Lib.hid HA.out
      obtain ⟨a0, a1, a2, a3⟩ := HI.out.2.2
      have HST2 := HI
      clear HI HA hlt
      go_wp2_with fail
      generalize wr = ws at *
      clear a0 a1 a2 a3
      go_loopw [6] (fun i wr => ∃ j : Nat, j ≤ n4 ∧ i = .int .i64 j ∧ Hid ((List.range j).any (badR o) = false) ∧ Hid (Below p w wr ∧ p + 1 ≤ wr.heap.size ∧ BoxO wr p (.slice A1 n1 k1) (.slice A2 n2 k2) (.slice A3 k k3) (.slice A4 n4 k4))) (fun i _ => n4 - (intOf i).toNat)
      case atStart => exact ⟨0, Nat.zero_le _, rfl, rfl, HST2.out⟩
      case round =>
        clear HST2
        obtain ⟨j, hj, rfl, HA, HI⟩ := hrel
        by_cases hlt : j < n4
        · have hjl : j < o.rl.length := by rw [HN4.out]; exact hlt
          obtain ⟨g4, off4, rfl, hg4, hc4⟩ := HO.out.rl.at_ (by omega)
          obtain ⟨x, hx⟩ : ∃ x, o.rl.getD j default = x := ⟨_, rfl⟩
          have hcx := hc4 j hjl
          rw [hx] at hcx
          have hmem : x ∈ o.rl := by rw [← hx]; simp [List.getD, hjl]
          have HXN : Hid (x.nm.size ≤ maxLen) := HNM.out.2 x hmem
          have HX := Lib.hid hx
          have hbw : ∀ {a : Addr} {v : Value}, w.cell? a = some v → wr.cell? a = some v := fun h => (HI.out.1.cell (by have := cell_lt h; rw [HP.out] at this; exact this)).trans h
          have HFT : Hid (∀ W, Below p w W → Calls Tryd.prog 26 #[.agg #[.slice A1 n1 k1, .slice A2 n2 k2, .slice A3 k k3, .slice (some ⟨g4, off4, none⟩) n4 k4], .agg #[.int .i64 x.sec, .int .i64 x.at_, .int .i64 x.kd, .int .i64 x.add, .string x.nm]] W fun e w' => e = .returned (.bool (fitsP o x)) ∧ Below W.heap.size W w') := fun W hW => by
            rw [← HP.out] at hW
            have := HP.out
            exact gfits_any _ _ _ _ o x W (HO.out.below hW) (HOP.out.below (by omega) hW) (Nat.lt_of_lt_of_le (by omega) hW.size) HXN.out
          obtain ⟨sec, at_, kd, add, nm⟩ := x
          dsimp only at hcx HXN HFT
          obtain ⟨c0, c1, c2, c3, c4⟩ := hcx
          replace c0 := hbw c0
          replace c1 := hbw c1
          replace c2 := hbw c2
          replace c3 := hbw c3
          replace c4 := hbw c4
          clear hbw hmem hx hg4
          have HC4 := Lib.hid hc4
          clear hc4
          obtain ⟨a0, a1, a2, a3⟩ := HI.out.2.2
          go_upto_region 20 with fail
          obtain ⟨q, hq⟩ : ∃ q, wr.heap.size = q := ⟨_, rfl⟩
          rw [hq]
          obtain ⟨w1, hw1⟩ : ∃ w1, wr.alloc (.cells #[.int .i64 sec, .int .i64 at_, .int .i64 kd, .int .i64 add, .string nm] 48) = w1 := ⟨_, rfl⟩
          rw [hw1]
          have HC : Hid (w1.cell? ⟨p, 0, none⟩ = some (.slice A1 n1 k1) ∧ w1.cell? ⟨p, 1, none⟩ = some (.slice A2 n2 k2) ∧ w1.cell? ⟨p, 2, none⟩ = some (.slice A3 k k3) ∧ w1.cell? ⟨p, 3, none⟩ = some (.slice (some ⟨g4, off4, none⟩) n4 k4) ∧ w1.cell? ⟨q, 0, none⟩ = some (.int .i64 sec) ∧ w1.cell? ⟨q, 1, none⟩ = some (.int .i64 at_) ∧ w1.cell? ⟨q, 2, none⟩ = some (.int .i64 kd) ∧ w1.cell? ⟨q, 3, none⟩ = some (.int .i64 add) ∧ w1.cell? ⟨q, 4, none⟩ = some (.string nm) ∧ Below p w w1 ∧ p + 1 ≤ w1.heap.size) := by
            have hbb : Below wr.heap.size wr w1 := by rw [← hw1]; exact (Below.refl _ _).alloc (Nat.le_refl _) _
            have hY := (Blk.new wr 48 #[.int .i64 sec, .int .i64 at_, .int .i64 kd, .int .i64 add, .string nm]).cell
            rw [hw1, hq] at hY
            have hx := HI.out.2.2.below hbb
            exact ⟨hx.1, hx.2.1, hx.2.2.1, hx.2.2.2, by rw [hY]; rfl, by rw [hY]; rfl, by rw [hY]; rfl, by rw [hY]; rfl, by rw [hY]; rfl, HI.out.1.trans (hbb.mono (by have := HI.out.2.1; omega)), Nat.le_trans HI.out.2.1 hbb.size⟩
          clear hw1 hq c0 c1 c2 c3 c4 HI a0 a1 a2 a3
          obtain ⟨a0, a1, a2, a3, b0, b1, b2, b3, b4, _, _⟩ := HC.out
          obtain ⟨RB, hRB⟩ : ∃ RB, badR o j = RB := ⟨_, rfl⟩
          have HRB := Lib.hid hRB
          clear hRB
          go_cut [178] from 135 to 178 (fun c W => c = .bool RB ∧ Hid (W.cell? ⟨p, 0, none⟩ = some (.slice A1 n1 k1) ∧ W.cell? ⟨p, 1, none⟩ = some (.slice A2 n2 k2) ∧ W.cell? ⟨p, 2, none⟩ = some (.slice A3 k k3) ∧ W.cell? ⟨p, 3, none⟩ = some (.slice (some ⟨g4, off4, none⟩) n4 k4) ∧ W.cell? ⟨q, 0, none⟩ = some (.int .i64 sec) ∧ W.cell? ⟨q, 1, none⟩ = some (.int .i64 at_) ∧ W.cell? ⟨q, 2, none⟩ = some (.int .i64 kd) ∧ W.cell? ⟨q, 3, none⟩ = some (.int .i64 add) ∧ W.cell? ⟨q, 4, none⟩ = some (.string nm) ∧ Below p w W ∧ p + 1 ≤ W.heap.size))
          case first => as_aux_lemma =>
            rename_i a5 Q2 K2 a4 K1 a3 K0 a2 J Kp a1 aM
            clear a5 a4 a3 a2
            clear HA HAL HL hR HN3 HN4 HNM HOP HO
            cases hft : fitsP o ⟨sec, at_, kd, add, nm⟩ with
            | false =>
              rw [hft] at HFT
              have HV : Hid (RB = true) := by show _ = _; rw [← HRB.out]; unfold badR; rw [HX.out, hft]; rfl
              clear hft
              refine wp_region_held_drew (S := (fun W => W.cell? ⟨p, 0, none⟩ = some (.slice A1 n1 k1) ∧ W.cell? ⟨p, 1, none⟩ = some (.slice A2 n2 k2) ∧ W.cell? ⟨p, 2, none⟩ = some (.slice A3 k k3) ∧ W.cell? ⟨p, 3, none⟩ = some (.slice (some ⟨g4, off4, none⟩) n4 k4) ∧ W.cell? ⟨q, 0, none⟩ = some (.int .i64 sec) ∧ W.cell? ⟨q, 1, none⟩ = some (.int .i64 at_) ∧ W.cell? ⟨q, 2, none⟩ = some (.int .i64 kd) ∧ W.cell? ⟨q, 3, none⟩ = some (.int .i64 add) ∧ W.cell? ⟨q, 4, none⟩ = some (.string nm) ∧ Below p w W ∧ p + 1 ≤ W.heap.size)) (by kernel_rfl) ?_ (fun hHeld => ?_)
              · exact rk2_step HC.out ((Below.refl _ _).drew)
              refine FU 44 rfl ?_
              iterate 2 ((first | (refine TN 44 ?_ rfl ?_ ?_; rotate_left 1; focus (intro w h; (try dsimp only at h); first | (go_simp; done) | (go_simp; with_reducible rfl))) | refine TM 44 rfl ?_); (try simp only [AP, Nat.reduceAdd, Nat.reduceSub]))
              refine wpAnyH_ready (rs := [2]) (by kernel_rfl) (by simp) ?_
              refine AllReadyH.cons rfl (fun K hK => ?_) AllReadyH.nil
              rw [if_pos (by rfl)]
              go_simp
              go_at_call 26; refine (HFT.out _ (rk2_b hHeld).1).mono ?_; rintro e w2 ⟨rfl, hb⟩; have t1 := rk2_step hHeld hb; clear hb
              try go_wp2_with fail
              refine hK.out _ _ t1 (fun hHeld => ?_)
              clear hK K
              try simp only [AP]
              iterate 41 ((first | (refine TN 44 ?_ rfl ?_ ?_; rotate_left 1; focus (intro w h; (try dsimp only at h); first | (go_simp; done) | (go_simp; with_reducible rfl))) | refine TM 44 rfl ?_); (try simp only [AP, Nat.reduceAdd, Nat.reduceSub]))
              refine wpAnyH_done (by kernel_rfl) ?_ _
              go_wp2_with fail
              go_meet
              case rel => exact ⟨by rw [HV.out], rk2_2 t1⟩
            | true =>
              rw [hft] at HFT
              have HFV := Lib.hid hft
              clear hft
              rcases Nat.eq_zero_or_pos j with hj0 | hj0
              · have HV : Hid (RB = false) := by show _ = _; rw [← HRB.out]; unfold badR; rw [HX.out, HFV.out, hj0]; rfl
                have hj1 : decide ((0 : Int) < (j : Int)) = false := decide_eq_false (by omega)
                have hj2 : decide (0 < j) = false := decide_eq_false (by omega)
                clear hj0
                refine wp_region_held_drew (S := (fun W => W.cell? ⟨p, 0, none⟩ = some (.slice A1 n1 k1) ∧ W.cell? ⟨p, 1, none⟩ = some (.slice A2 n2 k2) ∧ W.cell? ⟨p, 2, none⟩ = some (.slice A3 k k3) ∧ W.cell? ⟨p, 3, none⟩ = some (.slice (some ⟨g4, off4, none⟩) n4 k4) ∧ W.cell? ⟨q, 0, none⟩ = some (.int .i64 sec) ∧ W.cell? ⟨q, 1, none⟩ = some (.int .i64 at_) ∧ W.cell? ⟨q, 2, none⟩ = some (.int .i64 kd) ∧ W.cell? ⟨q, 3, none⟩ = some (.int .i64 add) ∧ W.cell? ⟨q, 4, none⟩ = some (.string nm) ∧ Below p w W ∧ p + 1 ≤ W.heap.size)) (by kernel_rfl) ?_ (fun hHeld => ?_)
                · exact rk2_step HC.out ((Below.refl _ _).drew)
                refine FU 44 rfl ?_
                iterate 2 ((first | (refine TN 44 ?_ rfl ?_ ?_; rotate_left 1; focus (intro w h; (try dsimp only at h); first | (go_simp; done) | (go_simp; with_reducible rfl))) | refine TM 44 rfl ?_); (try simp only [AP, Nat.reduceAdd, Nat.reduceSub]))
                refine wpAnyH_ready (rs := [2]) (by kernel_rfl) (by simp) ?_
                refine AllReadyH.cons rfl (fun K hK => ?_) AllReadyH.nil
                rw [if_pos (by rfl)]
                go_simp
                go_at_call 26; refine (HFT.out _ (rk2_b hHeld).1).mono ?_; rintro e w2 ⟨rfl, hb⟩; have t1 := rk2_step hHeld hb; clear hb
                try go_wp2_with fail
                refine hK.out _ _ t1 (fun hHeld => ?_)
                clear hK K
                try simp only [AP]
                iterate 41 ((first | (refine TN 44 ?_ rfl ?_ ?_; rotate_left 1; focus (intro w h; (try dsimp only at h); first | (go_simp; done) | (go_simp; with_reducible rfl))) | refine TM 44 rfl ?_); (try simp only [AP, Nat.reduceAdd, Nat.reduceSub]))
                refine wpAnyH_done (by kernel_rfl) ?_ _
                go_wp2_with fail
                go_meet
                case rel => exact ⟨by rw [HV.out], rk2_2 t1⟩
              · obtain ⟨i, rfl⟩ : ∃ i, j = i + 1 := ⟨j - 1, by omega⟩
                obtain ⟨y, hy⟩ : ∃ y, o.rl.getD i default = y := ⟨_, rfl⟩
                have hcy := HC4.out i (by omega)
                rw [hy] at hcy
                have HBD : Hid (RB = ordR y ⟨sec, at_, kd, add, nm⟩) := by
                  show _ = _
                  rw [← HRB.out]
                  unfold badR
                  rw [HX.out, HFV.out, Nat.add_sub_cancel, hy]
                  simp
                clear hy HRB HX
                obtain ⟨ysec, yat, ykd, yadd, ynm⟩ := y
                dsimp only at hcy
                have hbw : ∀ {a : Addr} {v : Value}, w.cell? a = some v → w1.cell? a = some v := fun h => ((rk2_b HC.out).1.cell (by have := cell_lt h; rw [HP.out] at this; exact this)).trans h
                obtain ⟨c0, c1, _, _, _⟩ := hcy
                replace c0 := hbw c0
                replace c1 := hbw c1
                clear hbw HC4
                replace HC : Hid (w1.cell? ⟨p, 0, none⟩ = some (.slice A1 n1 k1) ∧ w1.cell? ⟨p, 1, none⟩ = some (.slice A2 n2 k2) ∧ w1.cell? ⟨p, 2, none⟩ = some (.slice A3 k k3) ∧ w1.cell? ⟨p, 3, none⟩ = some (.slice (some ⟨g4, off4, none⟩) n4 k4) ∧ w1.cell? ⟨q, 0, none⟩ = some (.int .i64 sec) ∧ w1.cell? ⟨q, 1, none⟩ = some (.int .i64 at_) ∧ w1.cell? ⟨q, 2, none⟩ = some (.int .i64 kd) ∧ w1.cell? ⟨q, 3, none⟩ = some (.int .i64 add) ∧ w1.cell? ⟨q, 4, none⟩ = some (.string nm) ∧ w1.cell? ⟨g4, off4 + i * 5, none⟩ = some (.int .i64 ysec) ∧ w1.cell? ⟨g4, off4 + i * 5 + 1, none⟩ = some (.int .i64 yat) ∧ Below p w w1 ∧ p + 1 ≤ w1.heap.size) := by
                  obtain ⟨a0, a1, a2, a3, b0, b1, b2, b3, b4, h1, h2⟩ := HC.out
                  exact ⟨a0, a1, a2, a3, b0, b1, b2, b3, b4, c0, c1, h1, h2⟩
                have e1 : IntKind.i64.wrap (((i + 1 : Nat) : Int) - 1) = (i : Int) := by rw [IntWalk.i64_in _ (by omega)]; omega
                have e2 : (0 : Int) < ((i + 1 : Nat) : Int) := by omega
                have e7 : IntKind.i64.wrap (i : Int) = (i : Int) := IntWalk.i64_in _ (by omega)
                have e3 : (i : Int) < (n4 : Int) := by omega
                have e5 : (0 : Int) ≤ (i : Int) := by omega
                by_cases d1 : sec < ysec
                · have HV : Hid (RB = true) := by show _ = _; rw [HBD.out]; simp [ordR, d1]
                  refine wp_region_held_drew (S := (fun W => W.cell? ⟨p, 0, none⟩ = some (.slice A1 n1 k1) ∧ W.cell? ⟨p, 1, none⟩ = some (.slice A2 n2 k2) ∧ W.cell? ⟨p, 2, none⟩ = some (.slice A3 k k3) ∧ W.cell? ⟨p, 3, none⟩ = some (.slice (some ⟨g4, off4, none⟩) n4 k4) ∧ W.cell? ⟨q, 0, none⟩ = some (.int .i64 sec) ∧ W.cell? ⟨q, 1, none⟩ = some (.int .i64 at_) ∧ W.cell? ⟨q, 2, none⟩ = some (.int .i64 kd) ∧ W.cell? ⟨q, 3, none⟩ = some (.int .i64 add) ∧ W.cell? ⟨q, 4, none⟩ = some (.string nm) ∧ W.cell? ⟨g4, off4 + i * 5, none⟩ = some (.int .i64 ysec) ∧ W.cell? ⟨g4, off4 + i * 5 + 1, none⟩ = some (.int .i64 yat) ∧ Below p w W ∧ p + 1 ≤ W.heap.size)) (by kernel_rfl) ?_ (fun hHeld => ?_)
                  · exact rk3_step HC.out ((Below.refl _ _).drew)
                  refine FU 44 rfl ?_
                  iterate 2 ((first | (refine TN 44 ?_ rfl ?_ ?_; rotate_left 1; focus (intro w h; (try dsimp only at h); first | (go_simp; done) | (go_simp; with_reducible rfl))) | refine TM 44 rfl ?_); (try simp only [AP, Nat.reduceAdd, Nat.reduceSub]))
                  refine wpAnyH_ready (rs := [2]) (by kernel_rfl) (by simp) ?_
                  refine AllReadyH.cons rfl (fun K hK => ?_) AllReadyH.nil
                  rw [if_pos (by rfl)]
                  go_simp
                  go_at_call 26; refine (HFT.out _ (rk3_b hHeld).1).mono ?_; rintro e w2 ⟨rfl, hb⟩; have t1 := rk3_step hHeld hb; clear hb
                  try go_wp2_with fail
                  refine hK.out _ _ t1 (fun hHeld => ?_)
                  clear hK K
                  try simp only [AP]
                  iterate 41 ((first | (refine TN 44 ?_ rfl ?_ ?_; rotate_left 1; focus (intro w h; (try dsimp only at h); first | (go_simp; done) | (go_simp; with_reducible rfl))) | refine TM 44 rfl ?_); (try simp only [AP, Nat.reduceAdd, Nat.reduceSub]))
                  refine wpAnyH_done (by kernel_rfl) ?_ _
                  go_wp2_with fail
                  go_meet
                  case rel => exact ⟨by rw [HV.out], rk3_2 t1⟩
                have d1' : decide (sec < ysec) = false := decide_eq_false d1
                by_cases d2 : ysec = sec
                · replace d2 := d2.symm
                  subst d2
                  by_cases d3 : at_ ≤ yat
                  · have HV : Hid (RB = true) := by show _ = _; rw [HBD.out]; simp [ordR, d3]
                    refine wp_region_held_drew (S := (fun W => W.cell? ⟨p, 0, none⟩ = some (.slice A1 n1 k1) ∧ W.cell? ⟨p, 1, none⟩ = some (.slice A2 n2 k2) ∧ W.cell? ⟨p, 2, none⟩ = some (.slice A3 k k3) ∧ W.cell? ⟨p, 3, none⟩ = some (.slice (some ⟨g4, off4, none⟩) n4 k4) ∧ W.cell? ⟨q, 0, none⟩ = some (.int .i64 sec) ∧ W.cell? ⟨q, 1, none⟩ = some (.int .i64 at_) ∧ W.cell? ⟨q, 2, none⟩ = some (.int .i64 kd) ∧ W.cell? ⟨q, 3, none⟩ = some (.int .i64 add) ∧ W.cell? ⟨q, 4, none⟩ = some (.string nm) ∧ W.cell? ⟨g4, off4 + i * 5, none⟩ = some (.int .i64 sec) ∧ W.cell? ⟨g4, off4 + i * 5 + 1, none⟩ = some (.int .i64 yat) ∧ Below p w W ∧ p + 1 ≤ W.heap.size)) (by kernel_rfl) ?_ (fun hHeld => ?_)
                    · exact rk3_step HC.out ((Below.refl _ _).drew)
                    refine FU 44 rfl ?_
                    iterate 2 ((first | (refine TN 44 ?_ rfl ?_ ?_; rotate_left 1; focus (intro w h; (try dsimp only at h); first | (go_simp; done) | (go_simp; with_reducible rfl))) | refine TM 44 rfl ?_); (try simp only [AP, Nat.reduceAdd, Nat.reduceSub]))
                    refine wpAnyH_ready (rs := [2]) (by kernel_rfl) (by simp) ?_
                    refine AllReadyH.cons rfl (fun K hK => ?_) AllReadyH.nil
                    rw [if_pos (by rfl)]
                    go_simp
                    go_at_call 26; refine (HFT.out _ (rk3_b hHeld).1).mono ?_; rintro e w2 ⟨rfl, hb⟩; have t1 := rk3_step hHeld hb; clear hb
                    try go_wp2_with fail
                    refine hK.out _ _ t1 (fun hHeld => ?_)
                    clear hK K
                    try simp only [AP]
                    iterate 41 ((first | (refine TN 44 ?_ rfl ?_ ?_; rotate_left 1; focus (intro w h; (try dsimp only at h); first | (go_simp; done) | (go_simp; with_reducible rfl))) | refine TM 44 rfl ?_); (try simp only [AP, Nat.reduceAdd, Nat.reduceSub]))
                    refine wpAnyH_done (by kernel_rfl) ?_ _
                    go_wp2_with fail
                    go_meet
                    case rel => exact ⟨by rw [HV.out], rk3_2 t1⟩
                  · have HV : Hid (RB = false) := by show _ = _; rw [HBD.out]; simp [ordR, d3]
                    have d3' : decide (at_ ≤ yat) = false := decide_eq_false d3
                    clear d3
                    refine wp_region_held_drew (S := (fun W => W.cell? ⟨p, 0, none⟩ = some (.slice A1 n1 k1) ∧ W.cell? ⟨p, 1, none⟩ = some (.slice A2 n2 k2) ∧ W.cell? ⟨p, 2, none⟩ = some (.slice A3 k k3) ∧ W.cell? ⟨p, 3, none⟩ = some (.slice (some ⟨g4, off4, none⟩) n4 k4) ∧ W.cell? ⟨q, 0, none⟩ = some (.int .i64 sec) ∧ W.cell? ⟨q, 1, none⟩ = some (.int .i64 at_) ∧ W.cell? ⟨q, 2, none⟩ = some (.int .i64 kd) ∧ W.cell? ⟨q, 3, none⟩ = some (.int .i64 add) ∧ W.cell? ⟨q, 4, none⟩ = some (.string nm) ∧ W.cell? ⟨g4, off4 + i * 5, none⟩ = some (.int .i64 sec) ∧ W.cell? ⟨g4, off4 + i * 5 + 1, none⟩ = some (.int .i64 yat) ∧ Below p w W ∧ p + 1 ≤ W.heap.size)) (by kernel_rfl) ?_ (fun hHeld => ?_)
                    · exact rk3_step HC.out ((Below.refl _ _).drew)
                    refine FU 44 rfl ?_
                    iterate 2 ((first | (refine TN 44 ?_ rfl ?_ ?_; rotate_left 1; focus (intro w h; (try dsimp only at h); first | (go_simp; done) | (go_simp; with_reducible rfl))) | refine TM 44 rfl ?_); (try simp only [AP, Nat.reduceAdd, Nat.reduceSub]))
                    refine wpAnyH_ready (rs := [2]) (by kernel_rfl) (by simp) ?_
                    refine AllReadyH.cons rfl (fun K hK => ?_) AllReadyH.nil
                    rw [if_pos (by rfl)]
                    go_simp
                    go_at_call 26; refine (HFT.out _ (rk3_b hHeld).1).mono ?_; rintro e w2 ⟨rfl, hb⟩; have t1 := rk3_step hHeld hb; clear hb
                    try go_wp2_with fail
                    refine hK.out _ _ t1 (fun hHeld => ?_)
                    clear hK K
                    try simp only [AP]
                    iterate 41 ((first | (refine TN 44 ?_ rfl ?_ ?_; rotate_left 1; focus (intro w h; (try dsimp only at h); first | (go_simp; done) | (go_simp; with_reducible rfl))) | refine TM 44 rfl ?_); (try simp only [AP, Nat.reduceAdd, Nat.reduceSub]))
                    refine wpAnyH_done (by kernel_rfl) ?_ _
                    go_wp2_with fail
                    go_meet
                    case rel => exact ⟨by rw [HV.out], rk3_2 t1⟩
                · have HV : Hid (RB = false) := by show _ = _; rw [HBD.out]; simp [ordR, d1, d2]
                  have d2' : (ysec == sec) = false := by simpa using d2
                  clear d1 d2
                  refine wp_region_held_drew (S := (fun W => W.cell? ⟨p, 0, none⟩ = some (.slice A1 n1 k1) ∧ W.cell? ⟨p, 1, none⟩ = some (.slice A2 n2 k2) ∧ W.cell? ⟨p, 2, none⟩ = some (.slice A3 k k3) ∧ W.cell? ⟨p, 3, none⟩ = some (.slice (some ⟨g4, off4, none⟩) n4 k4) ∧ W.cell? ⟨q, 0, none⟩ = some (.int .i64 sec) ∧ W.cell? ⟨q, 1, none⟩ = some (.int .i64 at_) ∧ W.cell? ⟨q, 2, none⟩ = some (.int .i64 kd) ∧ W.cell? ⟨q, 3, none⟩ = some (.int .i64 add) ∧ W.cell? ⟨q, 4, none⟩ = some (.string nm) ∧ W.cell? ⟨g4, off4 + i * 5, none⟩ = some (.int .i64 ysec) ∧ W.cell? ⟨g4, off4 + i * 5 + 1, none⟩ = some (.int .i64 yat) ∧ Below p w W ∧ p + 1 ≤ W.heap.size)) (by kernel_rfl) ?_ (fun hHeld => ?_)
                  · exact rk3_step HC.out ((Below.refl _ _).drew)
                  refine FU 44 rfl ?_
                  iterate 2 ((first | (refine TN 44 ?_ rfl ?_ ?_; rotate_left 1; focus (intro w h; (try dsimp only at h); first | (go_simp; done) | (go_simp; with_reducible rfl))) | refine TM 44 rfl ?_); (try simp only [AP, Nat.reduceAdd, Nat.reduceSub]))
                  refine wpAnyH_ready (rs := [2]) (by kernel_rfl) (by simp) ?_
                  refine AllReadyH.cons rfl (fun K hK => ?_) AllReadyH.nil
                  rw [if_pos (by rfl)]
                  go_simp
                  go_at_call 26; refine (HFT.out _ (rk3_b hHeld).1).mono ?_; rintro e w2 ⟨rfl, hb⟩; have t1 := rk3_step hHeld hb; clear hb
                  try go_wp2_with fail
                  refine hK.out _ _ t1 (fun hHeld => ?_)
                  clear hK K
                  try simp only [AP]
                  iterate 41 ((first | (refine TN 44 ?_ rfl ?_ ?_; rotate_left 1; focus (intro w h; (try dsimp only at h); first | (go_simp; done) | (go_simp; with_reducible rfl))) | refine TM 44 rfl ?_); (try simp only [AP, Nat.reduceAdd, Nat.reduceSub]))
                  refine wpAnyH_done (by kernel_rfl) ?_ _
                  go_wp2_with fail
                  go_meet
                  case rel => exact ⟨by rw [HV.out], rk3_2 t1⟩
          case rest => as_aux_lemma =>
            clear HC a0 a1 a2 a3 b0 b1 b2 b3 b4
            obtain ⟨rfl, HC2⟩ := hcut
            cases RB with
            | true =>
              have hfin : R = 5 := by
                rw [← hR.out]
                exact chk_badR HL.out hjl HRB.out
              have HF := Lib.hid hfin
              clear hfin
              go_wp2_with fail
              go_ret
              exact ⟨ret_er HF.out.symm, (rk2_b HC2.out).1⟩
            | false =>
              have HA2 := Lib.hid (rng_miss HA.out HRB.out)
              have e4 : IntKind.i64.wrap ((j : Int) + 1) = ((j + 1 : Nat) : Int) := by rw [IntWalk.i64_in _ (by omega)]; omega
              go_wp2_with fail
              go_roundw
              case rel =>
                obtain ⟨a0, a1, a2, a3, _, _, _, _, _, h1, h2⟩ := HC2.out
                exact ⟨j + 1, by omega, by go_num, HA2.out, h1, h2, a0, a1, a2, a3⟩
              case measure => simp [intOf]; omega
        · have hjn : j = n4 := by omega
          subst hjn
          have hfin : R = 0 := by
            rw [← hR.out]
            exact chk_good HL.out (by rw [HN3.out]; exact HAL.out) (by rw [HN4.out]; exact HA.out)
          have HF := Lib.hid hfin
          clear hfin
          obtain ⟨a0, a1, a2, a3⟩ := HI.out.2.2
          go_wp2_with fail
          go_ret
          exact ⟨ret_er HF.out.symm, HI.out.1⟩
end Go.Proofs.YtlgdfacaeahcaaaDoor
