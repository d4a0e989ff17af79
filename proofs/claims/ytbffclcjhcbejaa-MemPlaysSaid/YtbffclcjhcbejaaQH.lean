/- Walk: play. Conditions: the two memories are alike. -/
import Derived.Test.YtbffclcjhcbejaaQG
import Derived.Test.YtbffclcjhcbejaaD
namespace Go.Proofs.Ytbffclcjhcbejaa
open Go.RowKit
def PlayPost (W : World) (bm bn : Nat) (rs : List Rng) (e : Ending) (w' : World) : Prop := e = .returned (.bool true) ∧ ∃ ms' ns', Two W bm bn ms' ns' w' ∧ Alike rs ms' ns'
set_option maxRecDepth 100000 in
set_option maxHeartbeats 4000000 in
theorem play_0 (W : World) (bm bn : Nat) (rs : List Rng) (ms ns : List Area) (a : Act') (cs : List Int) (w : World) (ht : Two W bm bn ms ns w) (hal : Alike rs ms ns) (ha : (0 ≤ a.at_ ∧ a.at_ ≤ 4294967295) ∧ 0 ≤ a.w ∧ a.w ≤ 4294967295) (hb : BSl W a.by_ cs) (hbl : cs.length ≤ 140737488351232) (hc : amongR a.kind 7 = 0) :
    Calls Try.prog 20 #[.pointer (some ⟨bm, 0, none⟩), .pointer (some ⟨bn, 0, none⟩), .agg (actArr a)] w (PlayPost W bm bn rs) := by
  obtain ⟨⟨b1, b2⟩, b3, b4⟩ := ha
  have HSW := Lib.hid hb
  obtain ⟨A, cap, hv, hcap, hmax, hcb, hcells⟩ := hb
  obtain ⟨kd, at_, n, v, by_⟩ := a
  dsimp only at b1 b2 b3 b4 hv hc HSW
  subst hv
  have HT1 : Hid (Two W bm bn ms ns (w.alloc (.cells #[.int .i64 kd, .int .u32 at_, .int .i64 n, .int .u32 v, .slice A cs.length cap] 35))) := ht.below ((Below.refl _ _).alloc (Nat.le_refl _) _)
  have HB1 : Hid (Blk (w.alloc (.cells #[.int .i64 kd, .int .u32 at_, .int .i64 n, .int .u32 v, .slice A cs.length cap] 35)) w.heap.size 35 #[.int .i64 kd, .int .u32 at_, .int .i64 n, .int .u32 v, .slice A cs.length cap]) := Blk.new w 35 _
  have HAL := Lib.hid hal
  have HL := Lib.hid hbl
  obtain ⟨L, hL⟩ : ∃ L, cs.length = L := ⟨_, rfl⟩
  rw [hL] at HT1 HB1 HSW hcap hbl
  unfold actArr
  dsimp only
  rw [hL]
  have HLL := Lib.hid hL
  unfold maxLen at hmax
  clear ht hal hcells hcb hL
  go_enter Try.func20, Try.ntmps20
  go_wp2_with fail
  refine (among_any kd 7 _ (Or.inl rfl)).mono ?_
  rintro e wq ⟨rfl, rfl⟩
  rw [hc]
  generalize w.alloc (.cells #[.int .i64 kd, .int .u32 at_, .int .i64 n, .int .u32 v, .slice A L cap] 35) = w1 at HT1 HB1 ⊢
  generalize w.heap.size = bx at HB1 ⊢
  have c1 : w1.cell? ⟨bx, 1, none⟩ = some (.int .u32 at_) := by rw [HB1.out.cell]; rfl
  have c2 : w1.cell? ⟨bx, 2, none⟩ = some (.int .i64 n) := by rw [HB1.out.cell]; rfl
  have c3 : w1.cell? ⟨bx, 3, none⟩ = some (.int .u32 v) := by rw [HB1.out.cell]; rfl
  have c4 : w1.cell? ⟨bx, 4, none⟩ = some (.slice A L cap) := by rw [HB1.out.cell]; rfl
  clear hc
  go_wp2_with fail
  refine (load_any bm ms at_ n _ HT1.out.mem b1 b2).mono ?_
  rintro e w2 ⟨rfl, hb2⟩
  have HT2 := Lib.hid (HT1.out.below hb2)
  have HB2 := Lib.hid (HB1.out.below hb2 HB1.out.lt)
  have d1 : w2.cell? ⟨bx, 1, none⟩ = some (.int .u32 at_) := by rw [HB2.out.cell]; rfl
  have d2 : w2.cell? ⟨bx, 2, none⟩ = some (.int .i64 n) := by rw [HB2.out.cell]; rfl
  clear hb2
  clear c1 c2 c3 c4
  go_wp2_with fail
  refine (rload_any bn ns at_ n _ HT2.out.ref b1 b2).mono ?_
  rintro e w3 ⟨rfl, hb3⟩
  have HT3 := Lib.hid (HT2.out.below hb3)
  have HB3 := Lib.hid (HB2.out.below hb3 HB2.out.lt)
  have d1 : w3.cell? ⟨bx, 1, none⟩ = some (.int .u32 at_) := by rw [HB3.out.cell]; rfl
  have d2 : w3.cell? ⟨bx, 2, none⟩ = some (.int .i64 n) := by rw [HB3.out.cell]; rfl
  clear hb3
  rw [loadR_key HAL.out.key]
  generalize loadR ms at_ n = R
  obtain ⟨x, y⟩ := R
  have q1 : (x == x) = true := by simp
  have q2 : (y == y) = true := by simp
  go_wp2_with fail
  go_ret
  exact ⟨rfl, ms, ns, HT3.out, HAL.out⟩
set_option maxRecDepth 100000 in
set_option maxHeartbeats 4000000 in
theorem play_2 (W : World) (bm bn : Nat) (rs : List Rng) (ms ns : List Area) (a : Act') (cs : List Int) (w : World) (ht : Two W bm bn ms ns w) (hal : Alike rs ms ns) (ha : (0 ≤ a.at_ ∧ a.at_ ≤ 4294967295) ∧ 0 ≤ a.w ∧ a.w ≤ 4294967295) (hb : BSl W a.by_ cs) (hbl : cs.length ≤ 140737488351232) (hc : amongR a.kind 7 = 2) :
    Calls Try.prog 20 #[.pointer (some ⟨bm, 0, none⟩), .pointer (some ⟨bn, 0, none⟩), .agg (actArr a)] w (PlayPost W bm bn rs) := by
  obtain ⟨⟨b1, b2⟩, b3, b4⟩ := ha
  have HSW := Lib.hid hb
  obtain ⟨A, cap, hv, hcap, hmax, hcb, hcells⟩ := hb
  obtain ⟨kd, at_, n, v, by_⟩ := a
  dsimp only at b1 b2 b3 b4 hv hc HSW
  subst hv
  have HT1 : Hid (Two W bm bn ms ns (w.alloc (.cells #[.int .i64 kd, .int .u32 at_, .int .i64 n, .int .u32 v, .slice A cs.length cap] 35))) := ht.below ((Below.refl _ _).alloc (Nat.le_refl _) _)
  have HB1 : Hid (Blk (w.alloc (.cells #[.int .i64 kd, .int .u32 at_, .int .i64 n, .int .u32 v, .slice A cs.length cap] 35)) w.heap.size 35 #[.int .i64 kd, .int .u32 at_, .int .i64 n, .int .u32 v, .slice A cs.length cap]) := Blk.new w 35 _
  have HAL := Lib.hid hal
  have HL := Lib.hid hbl
  obtain ⟨L, hL⟩ : ∃ L, cs.length = L := ⟨_, rfl⟩
  rw [hL] at HT1 HB1 HSW hcap hbl
  unfold actArr
  dsimp only
  rw [hL]
  have HLL := Lib.hid hL
  unfold maxLen at hmax
  clear ht hal hcells hcb hL
  go_enter Try.func20, Try.ntmps20
  go_wp2_with fail
  refine (among_any kd 7 _ (Or.inl rfl)).mono ?_
  rintro e wq ⟨rfl, rfl⟩
  rw [hc]
  generalize w.alloc (.cells #[.int .i64 kd, .int .u32 at_, .int .i64 n, .int .u32 v, .slice A L cap] 35) = w1 at HT1 HB1 ⊢
  generalize w.heap.size = bx at HB1 ⊢
  have c1 : w1.cell? ⟨bx, 1, none⟩ = some (.int .u32 at_) := by rw [HB1.out.cell]; rfl
  have c2 : w1.cell? ⟨bx, 2, none⟩ = some (.int .i64 n) := by rw [HB1.out.cell]; rfl
  have c3 : w1.cell? ⟨bx, 3, none⟩ = some (.int .u32 v) := by rw [HB1.out.cell]; rfl
  have c4 : w1.cell? ⟨bx, 4, none⟩ = some (.slice A L cap) := by rw [HB1.out.cell]; rfl
  clear hc
  go_wp2_with fail
  refine (fetch_any bm ms at_ _ HT1.out.mem b1 b2).mono ?_
  rintro e w2 ⟨rfl, hb2⟩
  have HT2 := Lib.hid (HT1.out.below hb2)
  have HB2 := Lib.hid (HB1.out.below hb2 HB1.out.lt)
  have d1 : w2.cell? ⟨bx, 1, none⟩ = some (.int .u32 at_) := by rw [HB2.out.cell]; rfl
  have d2 : w2.cell? ⟨bx, 2, none⟩ = some (.int .i64 n) := by rw [HB2.out.cell]; rfl
  clear hb2
  clear c1 c2 c3 c4
  go_wp2_with fail
  refine (rfetch_any bn ns at_ _ HT2.out.ref b1 b2).mono ?_
  rintro e w3 ⟨rfl, hb3⟩
  have HT3 := Lib.hid (HT2.out.below hb3)
  have HB3 := Lib.hid (HB2.out.below hb3 HB2.out.lt)
  have d1 : w3.cell? ⟨bx, 1, none⟩ = some (.int .u32 at_) := by rw [HB3.out.cell]; rfl
  have d2 : w3.cell? ⟨bx, 2, none⟩ = some (.int .i64 n) := by rw [HB3.out.cell]; rfl
  clear hb3
  rw [fetchR_key HAL.out.key]
  generalize fetchR ms at_ = R
  obtain ⟨x, y⟩ := R
  have q1 : (x == x) = true := by simp
  have q2 : (y == y) = true := by simp
  go_wp2_with fail
  go_ret
  exact ⟨rfl, ms, ns, HT3.out, HAL.out⟩
set_option maxRecDepth 100000 in
set_option maxHeartbeats 4000000 in
theorem play_5 (W : World) (bm bn : Nat) (rs : List Rng) (ms ns : List Area) (a : Act') (cs : List Int) (w : World) (ht : Two W bm bn ms ns w) (hal : Alike rs ms ns) (ha : (0 ≤ a.at_ ∧ a.at_ ≤ 4294967295) ∧ 0 ≤ a.w ∧ a.w ≤ 4294967295) (hb : BSl W a.by_ cs) (hbl : cs.length ≤ 140737488351232) (hc : amongR a.kind 7 = 5) :
    Calls Try.prog 20 #[.pointer (some ⟨bm, 0, none⟩), .pointer (some ⟨bn, 0, none⟩), .agg (actArr a)] w (PlayPost W bm bn rs) := by
  obtain ⟨⟨b1, b2⟩, b3, b4⟩ := ha
  have HSW := Lib.hid hb
  obtain ⟨A, cap, hv, hcap, hmax, hcb, hcells⟩ := hb
  obtain ⟨kd, at_, n, v, by_⟩ := a
  dsimp only at b1 b2 b3 b4 hv hc HSW
  subst hv
  have HT1 : Hid (Two W bm bn ms ns (w.alloc (.cells #[.int .i64 kd, .int .u32 at_, .int .i64 n, .int .u32 v, .slice A cs.length cap] 35))) := ht.below ((Below.refl _ _).alloc (Nat.le_refl _) _)
  have HB1 : Hid (Blk (w.alloc (.cells #[.int .i64 kd, .int .u32 at_, .int .i64 n, .int .u32 v, .slice A cs.length cap] 35)) w.heap.size 35 #[.int .i64 kd, .int .u32 at_, .int .i64 n, .int .u32 v, .slice A cs.length cap]) := Blk.new w 35 _
  have HAL := Lib.hid hal
  have HL := Lib.hid hbl
  obtain ⟨L, hL⟩ : ∃ L, cs.length = L := ⟨_, rfl⟩
  rw [hL] at HT1 HB1 HSW hcap hbl
  unfold actArr
  dsimp only
  rw [hL]
  have HLL := Lib.hid hL
  unfold maxLen at hmax
  clear ht hal hcells hcb hL
  go_enter Try.func20, Try.ntmps20
  go_wp2_with fail
  refine (among_any kd 7 _ (Or.inl rfl)).mono ?_
  rintro e wq ⟨rfl, rfl⟩
  rw [hc]
  generalize w.alloc (.cells #[.int .i64 kd, .int .u32 at_, .int .i64 n, .int .u32 v, .slice A L cap] 35) = w1 at HT1 HB1 ⊢
  generalize w.heap.size = bx at HB1 ⊢
  have c1 : w1.cell? ⟨bx, 1, none⟩ = some (.int .u32 at_) := by rw [HB1.out.cell]; rfl
  have c2 : w1.cell? ⟨bx, 2, none⟩ = some (.int .i64 n) := by rw [HB1.out.cell]; rfl
  have c3 : w1.cell? ⟨bx, 3, none⟩ = some (.int .u32 v) := by rw [HB1.out.cell]; rfl
  have c4 : w1.cell? ⟨bx, 4, none⟩ = some (.slice A L cap) := by rw [HB1.out.cell]; rfl
  clear hc
  go_wp2_with fail
  refine (of_any bm ms at_ _ HT1.out.mem b1 b2).mono ?_
  rintro e w2 ⟨rfl, hb2⟩
  have HT2 := Lib.hid (HT1.out.below hb2)
  have HB2 := Lib.hid (HB1.out.below hb2 HB1.out.lt)
  have d1 : w2.cell? ⟨bx, 1, none⟩ = some (.int .u32 at_) := by rw [HB2.out.cell]; rfl
  have d2 : w2.cell? ⟨bx, 2, none⟩ = some (.int .i64 n) := by rw [HB2.out.cell]; rfl
  clear hb2
  clear c1 c2 c3 c4
  go_wp2_with fail
  refine (rof_any bn ns at_ _ HT2.out.ref b1 b2).mono ?_
  rintro e w3 ⟨rfl, hb3⟩
  have HT3 := Lib.hid (HT2.out.below hb3)
  have HB3 := Lib.hid (HB2.out.below hb3 HB2.out.lt)
  have d1 : w3.cell? ⟨bx, 1, none⟩ = some (.int .u32 at_) := by rw [HB3.out.cell]; rfl
  have d2 : w3.cell? ⟨bx, 2, none⟩ = some (.int .i64 n) := by rw [HB3.out.cell]; rfl
  clear hb3
  rw [ofR_key HAL.out.key]
  generalize ofR ms at_ = R
  obtain ⟨x, y, z⟩ := R
  have q1 : (x.toList == x.toList) = true := by simp
  have q2 : (y == y) = true := by simp
  have q3 : (z == z) = true := by simp
  go_wp2_with fail
  go_ret
  exact ⟨rfl, ms, ns, HT3.out, HAL.out⟩
set_option maxRecDepth 100000 in
set_option maxHeartbeats 4000000 in
theorem play_6 (W : World) (bm bn : Nat) (rs : List Rng) (ms ns : List Area) (a : Act') (cs : List Int) (w : World) (ht : Two W bm bn ms ns w) (hal : Alike rs ms ns) (ha : (0 ≤ a.at_ ∧ a.at_ ≤ 4294967295) ∧ 0 ≤ a.w ∧ a.w ≤ 4294967295) (hb : BSl W a.by_ cs) (hbl : cs.length ≤ 140737488351232) (hc : amongR a.kind 7 = 6) :
    Calls Try.prog 20 #[.pointer (some ⟨bm, 0, none⟩), .pointer (some ⟨bn, 0, none⟩), .agg (actArr a)] w (PlayPost W bm bn rs) := by
  obtain ⟨⟨b1, b2⟩, b3, b4⟩ := ha
  have HSW := Lib.hid hb
  obtain ⟨A, cap, hv, hcap, hmax, hcb, hcells⟩ := hb
  obtain ⟨kd, at_, n, v, by_⟩ := a
  dsimp only at b1 b2 b3 b4 hv hc HSW
  subst hv
  have HT1 : Hid (Two W bm bn ms ns (w.alloc (.cells #[.int .i64 kd, .int .u32 at_, .int .i64 n, .int .u32 v, .slice A cs.length cap] 35))) := ht.below ((Below.refl _ _).alloc (Nat.le_refl _) _)
  have HB1 : Hid (Blk (w.alloc (.cells #[.int .i64 kd, .int .u32 at_, .int .i64 n, .int .u32 v, .slice A cs.length cap] 35)) w.heap.size 35 #[.int .i64 kd, .int .u32 at_, .int .i64 n, .int .u32 v, .slice A cs.length cap]) := Blk.new w 35 _
  have HAL := Lib.hid hal
  have HL := Lib.hid hbl
  obtain ⟨L, hL⟩ : ∃ L, cs.length = L := ⟨_, rfl⟩
  rw [hL] at HT1 HB1 HSW hcap hbl
  unfold actArr
  dsimp only
  rw [hL]
  have HLL := Lib.hid hL
  unfold maxLen at hmax
  clear ht hal hcells hcb hL
  go_enter Try.func20, Try.ntmps20
  go_wp2_with fail
  refine (among_any kd 7 _ (Or.inl rfl)).mono ?_
  rintro e wq ⟨rfl, rfl⟩
  rw [hc]
  generalize w.alloc (.cells #[.int .i64 kd, .int .u32 at_, .int .i64 n, .int .u32 v, .slice A L cap] 35) = w1 at HT1 HB1 ⊢
  generalize w.heap.size = bx at HB1 ⊢
  have c1 : w1.cell? ⟨bx, 1, none⟩ = some (.int .u32 at_) := by rw [HB1.out.cell]; rfl
  have c2 : w1.cell? ⟨bx, 2, none⟩ = some (.int .i64 n) := by rw [HB1.out.cell]; rfl
  have c3 : w1.cell? ⟨bx, 3, none⟩ = some (.int .u32 v) := by rw [HB1.out.cell]; rfl
  have c4 : w1.cell? ⟨bx, 4, none⟩ = some (.slice A L cap) := by rw [HB1.out.cell]; rfl
  clear hc
  go_wp2_with fail
  refine (mark_any bm ms _ HT1.out.mem).mono ?_
  rintro e w2 ⟨rfl, hm2, hk2, hr2⟩
  have HT2 := Lib.hid (HT1.out.m hm2 hk2 hr2)
  clear hm2 hk2 hr2 c1 c2 c3 c4
  go_wp2_with fail
  refine (rmark_any bn ns _ HT2.out.ref).mono ?_
  rintro e w3 ⟨rfl, ns', hn3, hkey, hk3, hr3, hw3⟩
  have HT3 := Lib.hid (HT2.out.rmark hn3 hk3 hr3 hw3)
  have HAL3 : Hid (Alike rs (ms.map markA) ns') := ⟨hkey.trans (markA_key HAL.out.key), (markA_ranges ms).trans HAL.out.rng⟩
  clear hn3 hkey hk3 hr3 hw3
  go_wp2_with fail
  go_ret
  exact ⟨rfl, _, _, HT3.out, HAL3.out⟩
end Go.Proofs.Ytbffclcjhcbejaa
namespace Go.Proofs.Ytbffclcjhcbejaa
open Go.RowKit
set_option maxRecDepth 100000 in
set_option maxHeartbeats 4000000 in
theorem play_1 (W : World) (bm bn : Nat) (rs : List Rng) (ms ns : List Area) (a : Act') (cs : List Int) (w : World) (ht : Two W bm bn ms ns w) (hal : Alike rs ms ns) (ha : (0 ≤ a.at_ ∧ a.at_ ≤ 4294967295) ∧ 0 ≤ a.w ∧ a.w ≤ 4294967295) (hb : BSl W a.by_ cs) (hbl : cs.length ≤ 140737488351232) (hc : amongR a.kind 7 = 1) :
    Calls Try.prog 20 #[.pointer (some ⟨bm, 0, none⟩), .pointer (some ⟨bn, 0, none⟩), .agg (actArr a)] w (PlayPost W bm bn rs) := by
  obtain ⟨⟨b1, b2⟩, b3, b4⟩ := ha
  have HSW := Lib.hid hb
  obtain ⟨A, cap, hv, hcap, hmax, hcb, hcells⟩ := hb
  obtain ⟨kd, at_, n, v, by_⟩ := a
  dsimp only at b1 b2 b3 b4 hv hc HSW
  subst hv
  have HT1 : Hid (Two W bm bn ms ns (w.alloc (.cells #[.int .i64 kd, .int .u32 at_, .int .i64 n, .int .u32 v, .slice A cs.length cap] 35))) := ht.below ((Below.refl _ _).alloc (Nat.le_refl _) _)
  have HB1 : Hid (Blk (w.alloc (.cells #[.int .i64 kd, .int .u32 at_, .int .i64 n, .int .u32 v, .slice A cs.length cap] 35)) w.heap.size 35 #[.int .i64 kd, .int .u32 at_, .int .i64 n, .int .u32 v, .slice A cs.length cap]) := Blk.new w 35 _
  have HAL := Lib.hid hal
  have HL := Lib.hid hbl
  obtain ⟨L, hL⟩ : ∃ L, cs.length = L := ⟨_, rfl⟩
  rw [hL] at HT1 HB1 HSW hcap hbl
  unfold actArr
  dsimp only
  rw [hL]
  have HLL := Lib.hid hL
  unfold maxLen at hmax
  clear ht hal hcells hcb hL
  go_enter Try.func20, Try.ntmps20
  go_wp2_with fail
  refine (among_any kd 7 _ (Or.inl rfl)).mono ?_
  rintro e wq ⟨rfl, rfl⟩
  rw [hc]
  generalize w.alloc (.cells #[.int .i64 kd, .int .u32 at_, .int .i64 n, .int .u32 v, .slice A L cap] 35) = w1 at HT1 HB1 ⊢
  generalize w.heap.size = bx at HB1 ⊢
  have c1 : w1.cell? ⟨bx, 1, none⟩ = some (.int .u32 at_) := by rw [HB1.out.cell]; rfl
  have c2 : w1.cell? ⟨bx, 2, none⟩ = some (.int .i64 n) := by rw [HB1.out.cell]; rfl
  have c3 : w1.cell? ⟨bx, 3, none⟩ = some (.int .u32 v) := by rw [HB1.out.cell]; rfl
  have c4 : w1.cell? ⟨bx, 4, none⟩ = some (.slice A L cap) := by rw [HB1.out.cell]; rfl
  clear hc
  have HTD := Lib.hid HT1.out.drew
  have HBD : Hid (Blk w1.drew bx 35 #[.int .i64 kd, .int .u32 at_, .int .i64 n, .int .u32 v, .slice A L cap]) := HB1.out
  go_wp2_with fail
  go_region_held3 (fun w' => w'.cell? ⟨bx, 1, none⟩ = some (.int .u32 at_) ∧ w'.cell? ⟨bx, 2, none⟩ = some (.int .i64 n) ∧ w'.cell? ⟨bx, 3, none⟩ = some (.int .u32 v)) (first | go_keep | exact ⟨t1, t2, t3⟩ | exact ⟨s1, s2, s3⟩)
    (first
      | (go_at_call 8; refine (store_any bm ms at_ n v _ HTD.out.mem b1 b2 b3 b4).mono ?_; rintro e w2 ⟨rfl, hm2, hk2, hr2⟩
         have HT2 := Lib.hid (HTD.out.m hm2 hk2 hr2)
         have HB2 : Hid (Blk w2 bx 35 #[.int .i64 kd, .int .u32 at_, .int .i64 n, .int .u32 v, .slice A L cap]) := HBD.out.keeps hk2 (fun e => by have := HTD.out.mem.rows_kind _ _ _ e HBD.out; cases this)
         have t1 : w2.cell? ⟨bx, 1, none⟩ = some (.int .u32 at_) := by rw [HB2.out.cell]; rfl
         have t2 : w2.cell? ⟨bx, 2, none⟩ = some (.int .i64 n) := by rw [HB2.out.cell]; rfl
         have t3 : w2.cell? ⟨bx, 3, none⟩ = some (.int .u32 v) := by rw [HB2.out.cell]; rfl
         clear hm2 hk2 hr2)
      | (go_at_call 39; refine (rstore_any bn ns at_ n v _ HT2.out.ref b1 b2 b3 b4).mono ?_; rintro e w3 ⟨rfl, hm3, hk3, hr3⟩
         have HT3 := Lib.hid (HT2.out.r hm3 hk3 hr3)
         have HB3 : Hid (Blk w3 bx 35 #[.int .i64 kd, .int .u32 at_, .int .i64 n, .int .u32 v, .slice A L cap]) := HB2.out.keeps hk3 (fun e => by have := HT2.out.ref.rows_kind _ _ _ e HB2.out; cases this)
         have s1 : w3.cell? ⟨bx, 1, none⟩ = some (.int .u32 at_) := by rw [HB3.out.cell]; rfl
         have s2 : w3.cell? ⟨bx, 2, none⟩ = some (.int .i64 n) := by rw [HB3.out.cell]; rfl
         have s3 : w3.cell? ⟨bx, 3, none⟩ = some (.int .u32 v) := by rw [HB3.out.cell]; rfl
         clear hm3 hk3 hr3))
  have HAL3 : Hid (Alike rs (storeR ms at_ n v).2 (storeR ns at_ n v).2) := ⟨(storeR_key HAL.out.key at_ n v).2, (storeR_r ms at_ n v).trans HAL.out.rng⟩
  have q1 := (storeR_key HAL.out.key at_ n v).1
  generalize (storeR ns at_ n v).1 = x at q1 ⊢
  generalize (storeR ms at_ n v).1 = y at q1 ⊢
  subst q1
  have q2 : (x == x) = true := by simp
  go_wp2_with fail
  go_ret
  exact ⟨ret_bool (by simp), _, _, HT3.out, HAL3.out⟩
end Go.Proofs.Ytbffclcjhcbejaa
namespace Go.Proofs.Ytbffclcjhcbejaa
open Go.RowKit
theorem readR_len (ms : List Area) (at_ n : Int) : (readR ms at_ n).1.length ≤ 16777216 := by
  unfold readR
  split
  · simp
  · split
    · simp
    · split
      · simp
      · split
        · simp
        · unfold cut
          rw [List.length_take]
          omega
theorem readR_bytes {w : World} {bm : Nat} {ms : List Area} (h : MemAt w bm ms) (at_ n : Int) : isBytes (readR ms at_ n).1 := by
  unfold readR
  split
  · exact fun x hx => by cases hx
  · split
    · exact fun x hx => by cases hx
    · split
      · exact fun x hx => by cases hx
      · split
        · exact fun x hx => by cases hx
        · rename_i a hf
          exact cut_bytes (h.each a (findA_spec hf).1).bx
set_option maxRecDepth 100000 in
set_option maxHeartbeats 4000000 in
theorem play_3 (W : World) (bm bn : Nat) (rs : List Rng) (ms ns : List Area) (a : Act') (cs : List Int) (w : World) (ht : Two W bm bn ms ns w) (hal : Alike rs ms ns) (ha : (0 ≤ a.at_ ∧ a.at_ ≤ 4294967295) ∧ 0 ≤ a.w ∧ a.w ≤ 4294967295) (hb : BSl W a.by_ cs) (hbl : cs.length ≤ 140737488351232) (hc : amongR a.kind 7 = 3) :
    Calls Try.prog 20 #[.pointer (some ⟨bm, 0, none⟩), .pointer (some ⟨bn, 0, none⟩), .agg (actArr a)] w (PlayPost W bm bn rs) := by
  obtain ⟨⟨b1, b2⟩, b3, b4⟩ := ha
  have HSW := Lib.hid hb
  obtain ⟨A, cap, hv, hcap, hmax, hcb, hcells⟩ := hb
  obtain ⟨kd, at_, n, v, by_⟩ := a
  dsimp only at b1 b2 b3 b4 hv hc HSW
  subst hv
  have HT1 : Hid (Two W bm bn ms ns (w.alloc (.cells #[.int .i64 kd, .int .u32 at_, .int .i64 n, .int .u32 v, .slice A cs.length cap] 35))) := ht.below ((Below.refl _ _).alloc (Nat.le_refl _) _)
  have HB1 : Hid (Blk (w.alloc (.cells #[.int .i64 kd, .int .u32 at_, .int .i64 n, .int .u32 v, .slice A cs.length cap] 35)) w.heap.size 35 #[.int .i64 kd, .int .u32 at_, .int .i64 n, .int .u32 v, .slice A cs.length cap]) := Blk.new w 35 _
  have HAL := Lib.hid hal
  have HL := Lib.hid hbl
  obtain ⟨L, hL⟩ : ∃ L, cs.length = L := ⟨_, rfl⟩
  rw [hL] at HT1 HB1 HSW hcap hbl
  unfold actArr
  dsimp only
  rw [hL]
  have HLL := Lib.hid hL
  unfold maxLen at hmax
  clear ht hal hcells hcb hL
  go_enter Try.func20, Try.ntmps20
  go_wp2_with fail
  refine (among_any kd 7 _ (Or.inl rfl)).mono ?_
  rintro e wq ⟨rfl, rfl⟩
  rw [hc]
  generalize w.alloc (.cells #[.int .i64 kd, .int .u32 at_, .int .i64 n, .int .u32 v, .slice A L cap] 35) = w1 at HT1 HB1 ⊢
  generalize w.heap.size = bx at HB1 ⊢
  have c1 : w1.cell? ⟨bx, 1, none⟩ = some (.int .u32 at_) := by rw [HB1.out.cell]; rfl
  have c2 : w1.cell? ⟨bx, 2, none⟩ = some (.int .i64 n) := by rw [HB1.out.cell]; rfl
  have c3 : w1.cell? ⟨bx, 3, none⟩ = some (.int .u32 v) := by rw [HB1.out.cell]; rfl
  have c4 : w1.cell? ⟨bx, 4, none⟩ = some (.slice A L cap) := by rw [HB1.out.cell]; rfl
  clear hc
  have HSZ := Lib.hid HT1.out.bel.size
  go_wp2_with fail
  refine (read_any bm ms at_ n _ HT1.out.mem b1 b2).mono ?_
  rintro e w2 ⟨v2, rfl, ho2, hb2⟩
  have HT2 := Lib.hid (HT1.out.below hb2)
  have HB2 := Lib.hid (HB1.out.below hb2 HB1.out.lt)
  have HX2 := Lib.hid hb2
  have HBX := Lib.hid (readR_bytes HT1.out.mem at_ n)
  have d1 : w2.cell? ⟨bx, 1, none⟩ = some (.int .u32 at_) := by rw [HB2.out.cell]; rfl
  have d2 : w2.cell? ⟨bx, 2, none⟩ = some (.int .i64 n) := by rw [HB2.out.cell]; rfl
  have HL2 := Lib.hid (readR_len ms at_ n)
  generalize hR : readR ms at_ n = R at *
  have HR := Lib.hid hR
  obtain ⟨xs, er⟩ := R
  dsimp only at ho2 HBX HL2
  obtain ⟨Av, capv, rfl, hcv, hmv⟩ := slice_form ho2
  have HO2 := Lib.hid ho2
  clear hb2 ho2 c1 c2 c3 c4 hR
  dsimp only
  go_wp2_with fail
  refine (rread_any bn ns at_ n _ HT2.out.ref b1 b2).mono ?_
  rw [readR_key HAL.out.key, HR.out]
  rintro e w3 ⟨v3, rfl, ho3, hb3⟩
  have HT3 := Lib.hid (HT2.out.below hb3)
  have HX3 := Lib.hid (HX2.out.trans (hb3.mono HX2.out.size))
  have HO3 := Lib.hid (ownsRow_keeps HO2.out (keeps_of_below (fun _ => False) hb3) (fun _ _ e => e))
  dsimp only at ho3
  obtain ⟨Aw, capw, rfl, _⟩ := slice_form ho3
  have HY3 := Lib.hid ho3
  clear hb3 ho3 d1 d2
  dsimp only
  go_wp2_with fail
  refine (same_any _ _ xs xs _ (owns_sl HO3.out HBX.out) (owns_sl HY3.out HBX.out)).mono ?_
  rintro e w4 ⟨rfl, rfl⟩
  have q1 : decide (xs = xs) = true := by simp
  rw [q1]
  have q2 : (er == er) = true := by simp
  obtain ⟨M, hM⟩ : ∃ M, xs.length = M := ⟨_, rfl⟩
  rw [hM] at HO3 hcv ⊢
  have HMX := Lib.hid hM
  have hM2 : M ≤ 16777216 := by rw [← hM]; exact HL2.out
  unfold maxLen at hmv
  clear hM
  go_wp2_with fail
  go_loopw [20] (fun i wr => ∃ k : Nat, k ≤ M ∧ i = .int .i64 k ∧ Hid (Below w1.heap.size w1 wr ∧ ∃ ys, wr.ownsRow w1.heap.size 5 1 (.slice Av M capv) M ys)) (fun i _ => M - (intOf i).toNat)
  case atStart => exact ⟨0, Nat.zero_le _, rfl, HX3.out, _, HO3.out⟩
  case round =>
    obtain ⟨k, hk, rfl, HR⟩ := hrel
    by_cases hlt : k < M
    · obtain ⟨ys, hys⟩ := HR.out.2
      obtain ⟨g, rfl⟩ : ∃ g, Av = some ⟨g, 0, none⟩ := by
        rcases hys.2 with ⟨_, h0⟩ | ⟨g, cap', cur, hv, _⟩
        · omega
        · cases hv; exact ⟨g, rfl⟩
      obtain ⟨p1, p2, p3, p4, p5, p6⟩ := own_parts hys
      have hyl : ys.length = M := by have := hys.1; omega
      have z0 := p5 k ys[k] (List.getElem?_eq_getElem (by omega))
      have z1 := p6 k
      obtain ⟨old, hold⟩ : ∃ old, ys[k]'(by omega) = old := ⟨_, rfl⟩
      rw [hold] at z0
      have HNX : Hid (Below w1.heap.size w1 (wr.setCell ⟨g, k, none⟩ (.int .u8 77)) ∧ ∃ ys, (wr.setCell ⟨g, k, none⟩ (.int .u8 77)).ownsRow w1.heap.size 5 1 (.slice (some ⟨g, 0, none⟩) M capv) M ys) :=
        ⟨((keeps_of_below (fun _ => False) HR.out.1).setCell (p := ⟨g, k, none⟩) (Or.inl p1) _).below, _, own_set hys (by omega) _⟩
      have e5 : (0 : Int) ≤ (k : Int) := by omega
      have e6 : (k : Int) < ((M : Nat) : Int) := by omega
      clear hys p1 p2 p3 p4 p5 p6 hyl hold
      go_wp2_with fail
      go_roundw
      case rel => exact ⟨k + 1, by omega, by go_num, HNX.out⟩
      case measure => simp [intOf]; omega
    · have HTF := Lib.hid (HT1.out.below HR.out.1)
      go_wp2_with fail
      go_ret
      exact ⟨rfl, ms, ns, HTF.out, HAL.out⟩
end Go.Proofs.Ytbffclcjhcbejaa
namespace Go.Proofs.Ytbffclcjhcbejaa
open Go.RowKit
theorem same_self (v v' : Value) (xs : List Int) (w : World) (h : BSl w v xs) (h' : BSl w v' xs) : Calls Try.prog 42 #[v, v'] w fun e w' => e = .returned (.bool true) ∧ w' = w := by
  refine (same_any v v' xs xs w h h').mono ?_
  rintro e w' ⟨rfl, rfl⟩
  simp
theorem Two.keep {W wr w' : World} {bm bn : Nat} {ms ns : List Area} {F : Nat → Prop} (h : Two W bm bn ms ns wr) (hk : Keeps F wr w') (hT : ∀ g t cs, F g → Blk wr g t cs → t = 5) (hm : ∀ g ∈ rowsOf ms, ¬ F g) (hn : ∀ g ∈ rowsOf ns, ¬ F g) (hW : ∀ g, F g → W.heap.size ≤ g) : Two W bm bn ms ns w' := by
  refine ⟨h.mem.keeps hk hT hm, h.ref.keeps hk (fun g t cs hg hb => by obtain rfl := hT g t cs hg hb; decide) hn, h.apart, h.mrows, h.nrows, fun g hg => h.was g ?_, ?_⟩
  · rwa [wasBlk_keeps h.ref hk (fun e => ?_)] at hg
    obtain ⟨_, _, _, hb, _⟩ := h.ref.top
    have := hT _ _ _ e hb
    cases this
  · exact ((keeps_of_below (fun _ => False) h.bel).trans hk (fun i hi e => by have := hW i e; omega)).below
set_option maxRecDepth 100000 in
set_option maxHeartbeats 4000000 in
theorem play_4 (W : World) (bm bn : Nat) (rs : List Rng) (ms ns : List Area) (a : Act') (cs : List Int) (w : World) (ht : Two W bm bn ms ns w) (hal : Alike rs ms ns) (ha : (0 ≤ a.at_ ∧ a.at_ ≤ 4294967295) ∧ 0 ≤ a.w ∧ a.w ≤ 4294967295) (hb : BSl W a.by_ cs) (hbl : cs.length ≤ 140737488351232) (hc : amongR a.kind 7 = 4) :
    Calls Try.prog 20 #[.pointer (some ⟨bm, 0, none⟩), .pointer (some ⟨bn, 0, none⟩), .agg (actArr a)] w (PlayPost W bm bn rs) := by
  obtain ⟨⟨b1, b2⟩, b3, b4⟩ := ha
  have HSW := Lib.hid hb
  obtain ⟨A, cap, hv, hcap, hmax, hcb, hcells⟩ := hb
  obtain ⟨kd, at_, n, v, by_⟩ := a
  dsimp only at b1 b2 b3 b4 hv hc HSW
  subst hv
  have HT1 : Hid (Two W bm bn ms ns (w.alloc (.cells #[.int .i64 kd, .int .u32 at_, .int .i64 n, .int .u32 v, .slice A cs.length cap] 35))) := ht.below ((Below.refl _ _).alloc (Nat.le_refl _) _)
  have HB1 : Hid (Blk (w.alloc (.cells #[.int .i64 kd, .int .u32 at_, .int .i64 n, .int .u32 v, .slice A cs.length cap] 35)) w.heap.size 35 #[.int .i64 kd, .int .u32 at_, .int .i64 n, .int .u32 v, .slice A cs.length cap]) := Blk.new w 35 _
  have HAL := Lib.hid hal
  have HL := Lib.hid hbl
  obtain ⟨L, hL⟩ : ∃ L, cs.length = L := ⟨_, rfl⟩
  rw [hL] at HT1 HB1 HSW hcap hbl
  unfold actArr
  dsimp only
  rw [hL]
  have HLL := Lib.hid hL
  unfold maxLen at hmax
  clear ht hal hcells hcb hL
  go_enter Try.func20, Try.ntmps20
  go_wp2_with fail
  refine (among_any kd 7 _ (Or.inl rfl)).mono ?_
  rintro e wq ⟨rfl, rfl⟩
  rw [hc]
  generalize w.alloc (.cells #[.int .i64 kd, .int .u32 at_, .int .i64 n, .int .u32 v, .slice A L cap] 35) = w1 at HT1 HB1 ⊢
  generalize w.heap.size = bx at HB1 ⊢
  have c1 : w1.cell? ⟨bx, 1, none⟩ = some (.int .u32 at_) := by rw [HB1.out.cell]; rfl
  have c2 : w1.cell? ⟨bx, 2, none⟩ = some (.int .i64 n) := by rw [HB1.out.cell]; rfl
  have c3 : w1.cell? ⟨bx, 3, none⟩ = some (.int .u32 v) := by rw [HB1.out.cell]; rfl
  have c4 : w1.cell? ⟨bx, 4, none⟩ = some (.slice A L cap) := by rw [HB1.out.cell]; rfl
  clear hc
  have HSW1 := Lib.hid (HSW.out.below HT1.out.bel)
  have HAP : Hid (cs ≠ [] → ∀ (b : Addr) (n c : Nat), Value.slice A L cap = .slice (some b) n c → b.block ∉ rowsOf ns) := fun hne b n c e hg => by
    obtain ⟨A', cap', e1, _, _, _, h4⟩ := HSW.out
    cases e1
    obtain ⟨b', off, e2, hlt, _⟩ := h4 hne
    rw [e2] at e
    cases e
    have := HT1.out.nrows _ hg
    dsimp only at this
    omega
  go_wp2_with fail
  refine (bytes43 _ cs _ HSW1.out HL.out).mono ?_
  rintro e w2 ⟨v2, rfl, ho2, hb2⟩
  have HT2 := Lib.hid ((HT1.out.below hb2).drew)
  have HB2 : Hid (Blk w2.drew bx 35 #[.int .i64 kd, .int .u32 at_, .int .i64 n, .int .u32 v, .slice A L cap]) := (HB1.out.below hb2 HB1.out.lt).drew
  have d1 : w2.drew.cell? ⟨bx, 1, none⟩ = some (.int .u32 at_) := by rw [HB2.out.cell]; rfl
  have d4 : w2.drew.cell? ⟨bx, 4, none⟩ = some (.slice A L cap) := by rw [HB2.out.cell]; rfl
  rw [HLL.out] at ho2
  obtain ⟨Av, capv, rfl, hcv, hmv⟩ := slice_form ho2
  have HO2 : Hid (w2.drew.ownsRow w1.heap.size 5 1 (.slice Av L capv) L (cs.map (Value.int .u8))) := ho2
  obtain ⟨X, hX⟩ : ∃ X, (fillR ms at_ cs).1 = X := ⟨_, rfl⟩
  have HX1 := Lib.hid hX
  have HX2 := Lib.hid ((fillR_key HAL.out.key at_ cs).1.trans hX)
  have HNM : Hid (∀ g, (Value.slice Av L capv).ownBlock = some g → w1.heap.size ≤ g) := fun g hg => (HO2.out.lt g hg).1
  have HM1 : Hid (∀ g ∈ rowsOf ms, ¬ (Value.slice Av L capv).ownBlock = some g) := fun g hg e => by have := HNM.out g e; have := HT1.out.mem.row_lt hg; omega
  have HN1 : Hid (∀ g ∈ rowsOf ns, ¬ (Value.slice Av L capv).ownBlock = some g) := fun g hg e => by have := HNM.out g e; have := HT1.out.ref.row_lt hg; omega
  have q1 : (X == X) = true := by simp
  have HCB : Hid (isBytes cs) := by obtain ⟨_, _, _, _, _, hcb, _⟩ := HSW.out; exact hcb
  unfold maxLen at hmv
  clear hb2 ho2 c1 c2 c3 c4 hX
  go_wp2_with fail
  go_region_held3 (fun w' => w'.cell? ⟨bx, 1, none⟩ = some (.int .u32 at_) ∧ w'.cell? ⟨bx, 4, none⟩ = some (.slice A L cap)) (first | go_keep | exact ⟨t1, t2⟩ | exact ⟨s1, s2⟩)
    (first
      | (go_at_call 19; refine (fill_any bm ms at_ (.slice Av L capv) cs _ HT2.out.mem b1 b2 (by rw [← HLL.out]; exact owns_sl (by rw [HLL.out]; exact HO2.out) HCB.out)).mono ?_; rintro e w3 ⟨rfl, hm3, hk3, hr3⟩
         rw [HX1.out]
         have HT3 := Lib.hid (HT2.out.m hm3 hk3 hr3)
         have HRM := Lib.hid hr3
         have HB3 : Hid (Blk w3 bx 35 #[.int .i64 kd, .int .u32 at_, .int .i64 n, .int .u32 v, .slice A L cap]) := HB2.out.keeps hk3 (fun e => by have := HT2.out.mem.rows_kind _ _ _ e HB2.out; cases this)
         have HO3 := Lib.hid (ownsRow_keeps HO2.out hk3 (fun g hg e => HM1.out g e hg))
         have t1 : w3.cell? ⟨bx, 1, none⟩ = some (.int .u32 at_) := by rw [HB3.out.cell]; rfl
         have t2 : w3.cell? ⟨bx, 4, none⟩ = some (.slice A L cap) := by rw [HB3.out.cell]; rfl
         clear hm3 hk3 hr3)
      | (go_at_call 44; refine (rfill_any bn ns at_ (.slice A L cap) cs _ HT3.out.ref b1 b2 (HSW.out.below HT3.out.bel) HAP.out).mono ?_; rintro e w4 ⟨rfl, hm4, hk4, hr4⟩
         rw [HX2.out]
         have HT4 := Lib.hid (HT3.out.r hm4 hk4 hr4)
         have HRN := Lib.hid hr4
         have HB4 : Hid (Blk w4 bx 35 #[.int .i64 kd, .int .u32 at_, .int .i64 n, .int .u32 v, .slice A L cap]) := HB3.out.keeps hk4 (fun e => by have := HT3.out.ref.rows_kind _ _ _ e HB3.out; cases this)
         have HO4 := Lib.hid (ownsRow_keeps HO3.out hk4 (fun g hg e => HN1.out g e hg))
         have s1 : w4.cell? ⟨bx, 1, none⟩ = some (.int .u32 at_) := by rw [HB4.out.cell]; rfl
         have s2 : w4.cell? ⟨bx, 4, none⟩ = some (.slice A L cap) := by rw [HB4.out.cell]; rfl
         clear hm4 hk4 hr4)
      | (go_at_call 42; refine (same_self (.slice Av L capv) (.slice A L cap) cs _ (by rw [← HLL.out]; exact owns_sl (by rw [HLL.out]; exact HO4.out) HCB.out) (HSW.out.below HT4.out.bel)).mono ?_; rintro e w5 ⟨rfl, rfl⟩))
  have HAL4 : Hid (Alike rs (fillR ms at_ cs).2 (fillR ns at_ cs).2) := ⟨(fillR_key HAL.out.key at_ cs).2, (fillR_r ms at_ cs).trans HAL.out.rng⟩
  have HTL := HT4
  generalize hws : w5 = wl at HT4 HO4 ⊢
  clear hws
  go_wp2_with fail
  go_loopw [23] (fun i wr => ∃ k : Nat, k ≤ L ∧ i = .int .i64 k ∧ Hid (Keeps (fun g => (Value.slice Av L capv).ownBlock = some g) wl wr ∧ ∃ ys, wr.ownsRow w1.heap.size 5 1 (.slice Av L capv) L ys)) (fun i _ => L - (intOf i).toNat)
  case atStart => exact ⟨0, Nat.zero_le _, rfl, Keeps.refl _ _, _, HO4.out⟩
  case round =>
    obtain ⟨k, hk, rfl, HR⟩ := hrel
    by_cases hlt : k < L
    · obtain ⟨ys, hys⟩ := HR.out.2
      obtain ⟨g, rfl⟩ : ∃ g, Av = some ⟨g, 0, none⟩ := by
        rcases hys.2 with ⟨_, h0⟩ | ⟨g, cap', cur, hv, _⟩
        · omega
        · cases hv; exact ⟨g, rfl⟩
      obtain ⟨p1, p2, p3, p4, p5, p6⟩ := own_parts hys
      have hyl : ys.length = L := by have := hys.1; omega
      have z0 := p5 k ys[k] (List.getElem?_eq_getElem (by omega))
      have z1 := p6 k
      obtain ⟨old, hold⟩ : ∃ old, ys[k]'(by omega) = old := ⟨_, rfl⟩
      rw [hold] at z0
      have HNX : Hid (Keeps (fun x => (Value.slice (some ⟨g, 0, none⟩) L capv).ownBlock = some x) wl (wr.setCell ⟨g, k, none⟩ (.int .u8 78)) ∧ ∃ ys, (wr.setCell ⟨g, k, none⟩ (.int .u8 78)).ownsRow w1.heap.size 5 1 (.slice (some ⟨g, 0, none⟩) L capv) L ys) :=
        ⟨HR.out.1.setCell (p := ⟨g, k, none⟩) (Or.inr rfl) _, _, own_set hys (by omega) _⟩
      have e5 : (0 : Int) ≤ (k : Int) := by omega
      have e6 : (k : Int) < ((L : Nat) : Int) := by omega
      clear hys p1 p2 p3 p4 p5 p6 hyl hold
      go_wp2_with fail
      go_roundw
      case rel => exact ⟨k + 1, by omega, by go_num, HNX.out⟩
      case measure => simp [intOf]; omega
    · have HTF : Hid (Two W bm bn (fillR ms at_ cs).2 (fillR ns at_ cs).2 wr) := HT4.out.keep HR.out.1 (fun g t c hg hb => by
        obtain ⟨c2, hc2⟩ := owns_kind HO4.out hg
        exact hb.kind hc2) (fun g hg => HM1.out g (by rw [← HRM.out]; exact hg)) (fun g hg => HN1.out g (by rw [← HRN.out]; exact hg)) (fun g hg => Nat.le_trans HT1.out.bel.size (HNM.out g hg))
      go_wp2_with fail
      go_ret
      exact ⟨rfl, _, _, HTF.out, HAL4.out⟩
theorem play_any (W : World) (bm bn : Nat) (rs : List Rng) (ms ns : List Area) (a : Act') (cs : List Int) (w : World) (ht : Two W bm bn ms ns w) (hal : Alike rs ms ns) (ha : (0 ≤ a.at_ ∧ a.at_ ≤ 4294967295) ∧ 0 ≤ a.w ∧ a.w ≤ 4294967295) (hb : BSl W a.by_ cs) (hbl : cs.length ≤ 140737488351232) :
    Calls Try.prog 20 #[.pointer (some ⟨bm, 0, none⟩), .pointer (some ⟨bn, 0, none⟩), .agg (actArr a)] w (PlayPost W bm bn rs) := by
  obtain ⟨h0, h1⟩ := amongR_lt a.kind 7 (Or.inl rfl)
  rcases (show amongR a.kind 7 = 0 ∨ amongR a.kind 7 = 1 ∨ amongR a.kind 7 = 2 ∨ amongR a.kind 7 = 3 ∨ amongR a.kind 7 = 4 ∨ amongR a.kind 7 = 5 ∨ amongR a.kind 7 = 6 by omega) with hc | hc | hc | hc | hc | hc | hc
  · exact play_0 W bm bn rs ms ns a cs w ht hal ha hb hbl hc
  · exact play_1 W bm bn rs ms ns a cs w ht hal ha hb hbl hc
  · exact play_2 W bm bn rs ms ns a cs w ht hal ha hb hbl hc
  · exact play_3 W bm bn rs ms ns a cs w ht hal ha hb hbl hc
  · exact play_4 W bm bn rs ms ns a cs w ht hal ha hb hbl hc
  · exact play_5 W bm bn rs ms ns a cs w ht hal ha hb hbl hc
  · exact play_6 W bm bn rs ms ns a cs w ht hal ha hb hbl hc
end Go.Proofs.Ytbffclcjhcbejaa
