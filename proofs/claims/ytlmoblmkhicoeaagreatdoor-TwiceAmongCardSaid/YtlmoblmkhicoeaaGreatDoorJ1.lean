/- Walks: apart. Conditions: the exits are right. -/
import Derived.Test.YtlmoblmkhicoeaaGreatDoorP1
set_option linter.unusedVariables false
set_option linter.unusedSimpArgs false
namespace Go.Proofs.YtlmoblmkhicoeaaGreatDoor
open Go.RowKit
def fnv (F : Fn) (sv bv : Value) : Value := .agg #[.string F.nm, .int .i64 F.ps, .int .i64 F.rs, sv, bv]
def fnA (F : Fn) (sv bv : Value) : Array Value := #[.string F.nm, .int .i64 F.ps, .int .i64 F.rs, sv, bv]
def ledT (l : List Int) (bs : List Bl) : List Int := bs.foldl (fun l b => (exT b.x).foldl ledS l) l
theorem ledT_step {l : List Int} {bs : List Bl} {k : Nat} (hk : k < bs.length) : ledT l (bs.take (k + 1)) = (exT bs[k].x).foldl ledS (ledT l (bs.take k)) := by
  rw [List.take_succ_eq_append_getElem hk, ledT, List.foldl_append]; rfl
theorem fold_step {ts : List Int} {l : List Int} {j : Nat} (hj : j < ts.length) : (ts.take (j + 1)).foldl ledS l = ledS ((ts.take j).foldl ledS l) ts[j] := by
  rw [List.take_succ_eq_append_getElem hj, List.foldl_append]; rfl
structure ApW (w : World) (F : Fn) (sv bv : Value) (n : Nat) (l : List Int) (m : Int) (W : World) : Prop where
  r : IRow W (w.heap.size + 1) l
  ln : l.length = n
  p : Blk W (w.heap.size + 1 + 1) 34 #[.slice (some ⟨w.heap.size + 1, 0, none⟩) n n]
  hi : ∀ v ∈ l, 0 ≤ v ∧ v ≤ m
  be : Below w.heap.size w W
  bx : Blk W w.heap.size 25 (fnA F sv bv)
theorem ApW.next {w W W' : World} {F : Fn} {sv bv : Value} {n : Nat} {l : List Int} {m : Int} (h : ApW w F sv bv n l m W) (hb : Below W.heap.size W W') : ApW w F sv bv n l m W' :=
  ⟨h.r.below hb, h.ln, h.p.below hb h.p.lt, h.hi, h.be.trans (below_of_le hb h.be.size), h.bx.below hb h.bx.lt⟩
theorem blk_irow {W : World} {g : Nat} {t : TypeId} {cs : Array Value} {l : List Int} (h : IRow W g l) (h2 : Blk W g t cs) : t = 3 := by
  obtain ⟨cs', hb, _⟩ := h.b
  exact Blk.kind h2 hb
theorem Below.setC {B : Nat} {w W : World} (h : Below B w W) {g j : Nat} (hg : B ≤ g) (u : Value) : Below B w (W.setCell ⟨g, j, none⟩ u) :=
  ⟨h.os, h.tape, h.output, by rw [World.size_setCell]; exact h.size, fun k hk => (Below.heap_setCell W ⟨g, j, none⟩ u k (show k ≠ g by omega)).trans (h.block k hk)⟩
theorem ApW.bump {w W : World} {F : Fn} {sv bv : Value} {n : Nat} {l : List Int} {m : Int} (h : ApW w F sv bv n l m W) {j : Nat} (hj : j < n) {q : Int} (hq : l.getD j 0 = q) {u : Int} (hu : u = q + 1) : ApW w F sv bv n (ledS l (j : Int)) (m + 1) (W.setCell ⟨w.heap.size + 1, j, none⟩ (.int .i64 u)) := by
  have hl : j < l.length := by rw [h.ln]; exact hj
  have hs : ledS l (j : Int) = l.set j u := by
    unfold ledS
    rw [show ((j : Int)).toNat = j by omega, hq, hu]
  have hq2 : l[j] = q := by rw [← hq]; simp [hl]
  refine ⟨by rw [hs]; exact h.r.set_ j _, by rw [hs, List.length_set]; exact h.ln, h.p.far (by show w.heap.size + 1 + 1 ≠ w.heap.size + 1; omega) _, ?_, Below.setC h.be (by omega) _, h.bx.far (by show w.heap.size ≠ w.heap.size + 1; omega) _⟩
  intro v hv
  rw [hs] at hv
  have := h.hi l[j] (List.getElem_mem hl)
  rcases List.mem_or_eq_of_mem_set hv with h1 | h1
  · have := h.hi v h1; omega
  · omega
theorem ApW.val {w W : World} {F : Fn} {sv bv : Value} {n : Nat} {l : List Int} {m : Int} (h : ApW w F sv bv n l m W) {j : Nat} (hj : j < n) : ∃ q, l.getD j 0 = q ∧ 0 ≤ q ∧ q ≤ m ∧ W.cell? ⟨w.heap.size + 1, j, none⟩ = some (.int .i64 q) ∧ W.frozen? ⟨w.heap.size + 1, j, none⟩ = false := by
  have hl : j < l.length := by rw [h.ln]; exact hj
  have := h.hi l[j] (List.getElem_mem hl)
  exact ⟨l[j], by simp [hl], this.1, this.2, h.r.cell j hl, h.r.frozen j⟩
theorem ApW.le {w W : World} {F : Fn} {sv bv : Value} {n : Nat} {l : List Int} {m m' : Int} (h : ApW w F sv bv n l m W) (hm : m ≤ m') : ApW w F sv bv n l m' W :=
  ⟨h.r, h.ln, h.p, fun v hv => by have := h.hi v hv; omega, h.be, h.bx⟩
theorem ints_set {W : World} {v : Value} {l : List Int} (h : Ints W v l) {g j : Nat} (hv : ∀ k, v.ownBlock = some k → k ≠ g) (u : Value) : Ints (W.setCell ⟨g, j, none⟩ u) v l :=
  Ints.keeps h ((Keeps.refl (fun k => k = g) W).setCell (p := ⟨g, j, none⟩) (Or.inr rfl) u) hv
set_option maxRecDepth 100000 in
set_option maxHeartbeats 4000000 in
theorem apart_any (F : Fn) (sv bv : Value) (w : World) (hb : BlsAt w bv F.bl) (hn : F.bl.length ≤ 4096) (hx : ∀ b ∈ F.bl, exB F.rs F.bl.length b.x = true) :
    Calls Tryz.prog 76 #[fnv F sv bv] w fun e w' => e = .returned (.bool (apartB F.bl)) ∧ Below w.heap.size w w' := by
  obtain ⟨A, c, rfl, h1, h2⟩ := hb.form
  unfold maxLen at h2
  have HB := Lib.hid hb
  have HX := Lib.hid hx
  have hmk := fun w => make_ints F.bl.length (by omega) w
  have hst : ApW w F sv (.slice A F.bl.length c) F.bl.length (List.replicate F.bl.length 0) 0 (((w.alloc (.cells (fnA F sv (.slice A F.bl.length c)) 25)).alloc (.cells (Array.replicate F.bl.length (.int .i64 0)) 3)).alloc (.cells #[.slice (some ⟨w.heap.size + 1, 0, none⟩) F.bl.length F.bl.length] 34)) :=
    ⟨⟨_, (blk_at (by simp [World.size_alloc]) _ _).alloc _, by simp [iv]⟩, by simp, blk_at (by simp [World.size_alloc]) _ _, fun v hv => by rw [List.eq_of_mem_replicate hv]; omega, below3 _ _ _ _, ((Blk.new w 25 _).alloc _).alloc _⟩
  have HST := Lib.hid hst
  clear hb hx hst
  unfold fnv
  unfold fnA at HST
  go_enter Tryz.func76, Tryz.ntmps76
  go_wp2
  go_loopw [17] (fun i wr => ∃ k : Nat, k ≤ F.bl.length ∧ i = .int .i64 k ∧ Hid (ApW w F sv (.slice A F.bl.length c) F.bl.length (ledT (List.replicate F.bl.length 0) (F.bl.take k)) (2 * k) wr)) (fun i _ => F.bl.length - (intOf i).toNat)
  case atStart => exact ⟨0, Nat.zero_le _, rfl, HST.out⟩
  case round =>
    obtain ⟨k, hk, rfl, HW⟩ := hrel
    by_cases hlt : k < F.bl.length
    · obtain ⟨g, off, cap', ea, h3, h4, hg, hc⟩ := (BlsAt.below HB.out HW.out.be).open_ (Nat.lt_of_le_of_lt (Nat.zero_le _) hlt)
      cases ea
      obtain ⟨ov, hcc⟩ := hc k hlt
      obtain ⟨c0, c1, c2, c3, c4, c5, car⟩ := hcc
      obtain ⟨Ao, co, rfl, -, -⟩ := car.form
      obtain ⟨b, hbk⟩ : ∃ b, F.bl[k] = b := ⟨_, rfl⟩
      have HE := Lib.hid (fun w => exits_any b.x w)
      have hto := exB_to (HX.out F.bl[k] (List.getElem_mem hlt))
      have hstep := ledT_step (l := List.replicate F.bl.length 0) hlt
      rw [hbk] at c0 c1 c2 c3 c4 c5 hto hstep
      have HTO := Lib.hid hto
      have HSTEP := Lib.hid hstep
      have HLEN := Lib.hid (exT_len b.x)
      unfold exv at HE
      clear car hc hbk hto hstep
      go_wp2_with fail
      refine (HE.out _).mono ?_
      rintro e w1 ⟨⟨v1, v2, rfl, -, ⟨hv2, hf2⟩⟩, hb1⟩
      obtain ⟨A2, cc2, rfl, k1, k2⟩ := hv2.form
      unfold maxLen at k2
      have HV2 := Lib.hid hv2
      have HF2 := Lib.hid hf2
      have HW1 := Lib.hid ((HW.out.next (below1 wr _)).next hb1)
      have HWR := Lib.hid HW.out.be.size
      obtain ⟨ts, hts⟩ : ∃ ts, exT b.x = ts := ⟨_, rfl⟩
      rw [hts] at HV2 HTO HSTEP HLEN k1
      rw [hts]
      have HNE := Lib.hid (show ∀ q, (Value.slice A2 ts.length cc2).ownBlock = some q → q ≠ w.heap.size + 1 from fun q hq => by
        have h5 := hf2 q (by rw [← hq, ← hts])
        have h6 := HW.out.r.lt
        have h7 := size_le1 wr (.cells #[Value.slice Ao b.os.length co, Value.int IntKind.i64 b.x.k, Value.int IntKind.i64 b.x.a, Value.int IntKind.i64 b.x.d, Value.int IntKind.i64 b.x.t, Value.int IntKind.i64 b.x.e] 45)
        omega)
      rw [hts] at hv2
      clear hf2 hb1 c0 c1 c2 c3 c4 c5 HE HW hts HF2
      obtain ⟨l0, hl0⟩ : ∃ l0, ledT (List.replicate F.bl.length 0) (F.bl.take k) = l0 := ⟨_, rfl⟩
      rw [hl0] at HW1 HSTEP
      clear hl0
      go_wp2
      go_loopw [29] (fun i wr => ∃ j : Nat, j ≤ ts.length ∧ i = .int .i64 j ∧ Hid (ApW w F sv (.slice (some ⟨g, off, none⟩) F.bl.length c) F.bl.length ((ts.take j).foldl ledS l0) (2 * k + j) wr ∧ Ints wr (.slice A2 ts.length cc2) ts)) (fun i _ => ts.length - (intOf i).toNat)
      case atStart => exact ⟨0, Nat.zero_le _, rfl, by simpa using HW1.out, HV2.out⟩
      case round =>
        obtain ⟨j, hj, rfl, HW⟩ := hrel
        by_cases hjt : j < ts.length
        · obtain ⟨g2, off2, cap2, ea, h5, h6, hg2, hc2⟩ := HW.out.2.open_ (Nat.lt_of_le_of_lt (Nat.zero_le _) hjt)
          cases ea
          have c0 := hc2 j hjt
          have htt := HTO.out ts[j] (List.getElem_mem hjt)
          have hfs := fold_step (l := l0) hjt
          obtain ⟨t, ht⟩ : ∃ t : Nat, ts[j] = (t : Int) := ⟨ts[j].toNat, by omega⟩
          rw [ht] at c0 htt hfs
          have htn : t < F.bl.length := by omega
          obtain ⟨q, hq, q0, q1, cq, fq⟩ := HW.out.1.val htn
          have hqb : q ≤ 10000 := by have := HLEN.out; omega
          have hp : wr.cell? ⟨w.heap.size + 1 + 1, 0, none⟩ = some (.slice (some ⟨w.heap.size + 1, 0, none⟩) F.bl.length F.bl.length) := (HW.out.1.p.cell 0).trans rfl
          have HN := Lib.hid (And.intro (HW.out.1.bump htn hq rfl) (ints_set (j := t) HW.out.2 HNE.out (.int .i64 (q + 1))))
          have HFS := Lib.hid hfs
          clear hc2 htt hfs ht hq HW
          go_wp2
          go_roundw
          case rel => exact ⟨j + 1, by omega, by go_num, by rw [HFS.out]; exact HN.out.1.le (by omega), HN.out.2⟩
          case measure => simp [intOf]; omega
        · have hje : j = ts.length := by omega
          subst hje
          have HW3 := Lib.hid HW.out.1
          rw [List.take_length, ← HSTEP.out] at HW3
          have HW4 := Lib.hid (HW3.out.le (m' := 2 * ((k + 1 : Nat) : Int)) (by have := HLEN.out; omega))
          clear HW HW3
          go_wp2
          go_roundw
          case rel => exact ⟨k + 1, by omega, by go_num, HW4.out⟩
          case measure => simp [intOf]; omega
    · have hke : k = F.bl.length := by omega
      subst hke
      have HL := Lib.hid HW.out.ln
      have HR := Lib.hid HW.out.r
      rw [List.take_length] at HL HR
      have hp : wr.cell? ⟨w.heap.size + 1 + 1, 0, none⟩ = some (.slice (some ⟨w.heap.size + 1, 0, none⟩) F.bl.length F.bl.length) := (HW.out.p.cell 0).trans rfl
      have hb4 : wr.cell? ⟨w.heap.size, 4, none⟩ = some (.slice A F.bl.length c) := (HW.out.bx.cell 4).trans rfl
      have HT := Lib.hid (ap1_any (w.heap.size + 1 + 1) (w.heap.size + 1) F.bl.length _ F.bl wr HL.out hp HR.out (fun b hb hk4 => by have := (exB_set (HX.out b hb) hk4).1; omega))
      have HC := Lib.hid (containsB_any F.bl (.slice A F.bl.length c) 97 #[.pointer (some ⟨w.heap.size + 1 + 1, 0, none⟩)] _ wr enters_ap1 (HB.out.below HW.out.be) HT.out)
      have HBE := Lib.hid HW.out.be
      clear HW HT HL HR
      go_wp2_with fail
      refine HC.out.mono ?_
      rintro e w1 ⟨rfl, hb1⟩
      go_wp2
      go_ret
      exact ⟨ret_bool rfl, HBE.out.trans (below_of_le hb1 HBE.out.size)⟩
end Go.Proofs.YtlmoblmkhicoeaaGreatDoor
