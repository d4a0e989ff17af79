/- Walks: works (the chapter's example). Conditions: none. -/
import Derived.Test.YtbffclcjhcbejaaW14
namespace Go.Proofs.Ytbffclcjhcbejaa
open Go.RowKit
def rng1 : Rng := ⟨⟨#[97]⟩, 16, 32, true, false⟩
theorem chk1 : chkR [rng1] = 0 := by decide
theorem fresh1 {w : World} {ms : List Area} (h : Fresh w [rng1] ms) (hA : ∀ a ∈ ms, (a.xs.length : Int) = a.r.sz) : ∃ b now was, ms = [⟨rng1, b, now, was, List.replicate 32 0, List.replicate 32 0⟩] := by
  have hr := h.ranges
  match ms, hr with
  | [⟨r, b, now, was, xs, ys⟩], hr =>
    obtain rfl : r = rng1 := by simpa using hr
    have hz := h.zero ⟨rng1, b, now, was, xs, ys⟩ (by simp)
    have hl := hA ⟨rng1, b, now, was, xs, ys⟩ (by simp)
    dsimp only at hz hl
    have hl2 : xs.length = 32 := by have : rng1.sz = 32 := rfl; omega
    obtain ⟨h1, h2⟩ := hz
    rw [hl2] at h1
    subst h2
    exact ⟨b, now, was, by rw [← h1]⟩
def area1 (b : Nat) (now was : Value) : Area := ⟨rng1, b, now, was, List.replicate 32 0, List.replicate 32 0⟩
def area2 (b : Nat) (now was : Value) : Area := ⟨rng1, b, now, was, splice (List.replicate 32 0) 4 [4, 3, 2, 1], List.replicate 32 0⟩
theorem st1 (b : Nat) (now was : Value) : storeR [area1 b now was] 20 4 16909060 = (0, [area2 b now was]) := by rfl
theorem ld1 (b : Nat) (now was : Value) : loadR [area2 b now was] 21 1 = (3, 0) := by rfl
theorem ld2 (b : Nat) (now was : Value) : loadR [area2 b now was] 18 4 = (0, 31) := by rfl
theorem ft1 (b : Nat) (now was : Value) : fetchR [area2 b now was] 16 = (0, 33) := by rfl
theorem ch1 (b : Nat) (now was : Value) : allG [area2 b now was] = [(20, 4)] := by rfl
theorem rslice1 (w : World) : RSlice (w.alloc (.cells #[.string ⟨#[97]⟩, .int .i64 16, .int .i64 32, .bool true, .bool false] 30)) (.slice (some ⟨w.heap.size, 0, none⟩) 1 1) [rng1] := by
  refine ⟨_, 1, rfl, Nat.le_refl _, by decide, fun r hr => ?_, fun _ => ⟨w.heap.size, 0, rfl, by simp, ?_⟩⟩
  · obtain rfl : r = rng1 := by simpa using hr
    decide
  · intro i hi j u hj
    obtain rfl : i = 0 := by simpa using hi
    rw [(show (0 + 0 * 5 + j) = j by omega), (Blk.new w 30 _).cell]
    exact hj
theorem gRow_lit (w : World) : GRow (w.alloc (.cells #[.int .i64 20, .int .i64 4] 40)) (.slice (some ⟨w.heap.size, 0, none⟩) 1 1) [(20, 4)] := by
  refine ⟨_, 1, rfl, Nat.le_refl _, by decide, fun _ => ⟨_, rfl, by simp, fun j u hj => ?_⟩⟩
  rw [(Blk.new w 40 _).cell]
  have e : (flatG [((20 : Int), (4 : Int))]) = [.int .i64 20, .int .i64 4] := rfl
  rw [e] at hj
  simpa using hj
set_option maxRecDepth 100000 in
set_option maxHeartbeats 2000000 in
theorem works_any (w : World) : Calls Try.prog 6 #[] w fun e w' => e = .returned (.bool true) ∧ Below w.heap.size w w' := by
  have hb0 : Below w.heap.size w (w.alloc (.cells #[.string ⟨#[97]⟩, .int .i64 16, .int .i64 32, .bool true, .bool false] 30)) := (Below.refl _ _).alloc (Nat.le_refl _) _
  have HB0 := Lib.hid hb0
  clear hb0
  go_enter Try.func6, Try.ntmps6
  go_wp2_with fail
  refine (new_any _ [rng1] _ (rslice1 w)).mono ?_
  rintro e w1 ⟨hb1, h⟩
  rcases h with ⟨hc, _⟩ | ⟨_, bm, ms, rfl, hbm, hm, hf⟩
  · exact absurd chk1 hc
  have hB1 := HB0.out.trans (hb1.mono HB0.out.size)
  have hnew := hf.new
  have hsz0 := HB0.out.size
  obtain ⟨b, now, was, rfl⟩ := fresh1 hf (fun a ha => (hm.each a ha).lx)
  change MemAt w1 bm [area1 b now was] at hm
  have HM1 := Lib.hid hm
  have HB1 := Lib.hid hB1
  have HNEW : Hid (∀ g ∈ rowsOf [area1 b now was], w.heap.size ≤ g) := fun g hg => Nat.le_trans hsz0 (hnew g hg)
  clear hb1 hf hm hB1 hnew hsz0 hbm
  go_wp2_with fail
  refine (store_any bm [area1 b now was] 20 4 16909060 _ HM1.out (by omega) (by omega) (by omega) (by omega)).mono ?_
  rw [st1]
  rintro e w2 ⟨rfl, hm2, hk2, _⟩
  have HM2 := Lib.hid hm2
  have hB2 : Below w.heap.size w w2 := ((keeps_of_below (fun _ => False) HB1.out).trans hk2 (fun i hi e => by have := HNEW.out i e; omega)).below
  have HB2 := Lib.hid hB2
  clear hm2 hk2 hB2
  go_wp2_with fail
  refine (load_any bm [area2 b now was] 21 1 _ HM2.out (by omega) (by omega)).mono ?_
  rw [ld1]
  rintro e w3 ⟨rfl, hb3⟩
  have HM3 := Lib.hid (HM2.out.below hb3)
  have HB3 := Lib.hid (HB2.out.trans (hb3.mono HB2.out.size))
  clear hb3
  go_wp2_with fail
  refine (load_any bm [area2 b now was] 18 4 _ HM3.out (by omega) (by omega)).mono ?_
  rw [ld2]
  rintro e w4 ⟨rfl, hb4⟩
  have HM4 := Lib.hid (HM3.out.below hb4)
  have HB4 := Lib.hid (HB3.out.trans (hb4.mono HB3.out.size))
  clear hb4
  go_wp2_with fail
  refine (fetch_any bm [area2 b now was] 16 _ HM4.out (by omega) (by omega)).mono ?_
  rw [ft1]
  rintro e w5 ⟨rfl, hb5⟩
  have HM5 := Lib.hid (HM4.out.below hb5)
  have HB5 := Lib.hid (HB4.out.trans (hb5.mono HB4.out.size))
  clear hb5
  go_wp2_with fail
  refine (changed_any bm [area2 b now was] _ HM5.out).mono ?_
  rintro e w6 ⟨v6, ms', rfl, hperm, _, ho6, hb6⟩
  obtain rfl : ms' = [area2 b now was] := List.perm_singleton.1 hperm
  rw [ch1] at ho6
  have HG6 := Lib.hid (gRow_owns ho6)
  have HB6 := Lib.hid (HB5.out.trans (hb6.mono HB5.out.size))
  clear ho6 hb6 hperm
  obtain ⟨A6, cap6, rfl, _⟩ := HG6.out
  go_wp2_with fail
  refine (gaps_any _ _ [(20, 4)] [(20, 4)] _ (HG6.out.below ((Below.refl _ _).alloc (Nat.le_refl _) _)) (gRow_lit _)).mono ?_
  rintro e w7 ⟨rfl, hb7⟩
  have hB7 : Below w.heap.size w w7 := (HB6.out.alloc HB6.out.size _).trans (hb7.mono (HB6.out.alloc HB6.out.size _).size)
  have HB7 := Lib.hid hB7
  clear hb7 hB7
  have hd : decide (([(20, 4)] : List (Int × Int)) = [(20, 4)]) = true := by decide
  rw [hd]
  go_wp2_with fail
  go_ret
  exact ⟨rfl, HB7.out⟩
end Go.Proofs.Ytbffclcjhcbejaa
