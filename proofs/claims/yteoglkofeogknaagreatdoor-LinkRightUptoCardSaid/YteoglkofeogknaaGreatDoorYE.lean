/- Walks: emu.Check where all is right. Conditions: what each theorem states. -/
import Derived.Test.YteoglkofeogknaaGreatDoorY3
import Derived.Deep.CutRange
set_option linter.unusedVariables false
set_option linter.unusedSimpArgs false
namespace Go.Proofs.YteoglkofeogknaaGreatDoor
open Go.RowKit
/-- Does a fill of so many bytes lie in a range? -/
def inB (at_ : Int) (nb : Nat) (o : Rng) : Bool := decide (o.fr ≤ at_) && decide ((nb : Int) ≤ o.sz) && decide (at_ - o.fr ≤ o.sz - (nb : Int))
set_option maxRecDepth 100000 in
set_option maxHeartbeats 1000000 in
theorem eclosure_any (bf : Nat) (at_ : Int) (A : Option Addr) (nb cb : Nat) (o : Rng) (w : World) (hb : Blk w bf 46 #[.int .i64 at_, .slice A nb cb]) (h0 : 0 ≤ at_ ∧ at_ ≤ 4294967296) (h1 : nb ≤ 1048576) (ho : o.Ok) :
    Calls Tryz.prog 23 #[.agg #[.string o.nm, .int .i64 o.fr, .int .i64 o.sz, .bool o.wr, .bool o.ex], .pointer (some ⟨bf, 0, none⟩)] w
      fun e w' => e = .returned (.bool (inB at_ nb o)) ∧ Below w.heap.size w w' := by
  obtain ⟨p, hp⟩ : ∃ p, w.heap.size = p := ⟨_, rfl⟩
  obtain ⟨W4, hW4⟩ : ∃ W4, w.alloc (.cells #[.string o.nm, .int .i64 o.fr, .int .i64 o.sz, .bool o.wr, .bool o.ex] 48) = W4 := ⟨_, rfl⟩
  have hb4 : Below w.heap.size w W4 := by rw [← hW4]; exact (Below.refl _ _).alloc (Nat.le_refl _) _
  have HPB : Hid (Blk W4 p 48 #[.string o.nm, .int .i64 o.fr, .int .i64 o.sz, .bool o.wr, .bool o.ex]) := by rw [← hW4, ← hp]; exact Blk.new w _ _
  have HFB := Lib.hid (hb.below hb4 hb.lt)
  rw [hp] at hb4
  have HB4 := Lib.hid hb4
  obtain ⟨o0, o1, o2, o3, o4⟩ := ho
  have e1 : IntKind.i64.wrap (at_ - o.fr) = at_ - o.fr := IntWalk.i64_in _ (by omega)
  have e2 : IntKind.i64.wrap (o.sz - (nb : Int)) = o.sz - (nb : Int) := IntWalk.i64_in _ (by omega)
  obtain ⟨r, hr⟩ : ∃ r, inB at_ nb o = r := ⟨_, rfl⟩
  have HR := Lib.hid hr
  rw [hr]
  clear hr hb hb4
  go_enter Tryz.func23, Tryz.ntmps23
  go_upto_region 1 with fail
  have f0 : W4.cell? ⟨bf, 0, none⟩ = some (.int .i64 at_) := by rw [HFB.out.cell]; rfl
  have f1 : W4.cell? ⟨bf, 1, none⟩ = some (.slice A nb cb) := by rw [HFB.out.cell]; rfl
  have c1 : W4.cell? ⟨p, 1, none⟩ = some (.int .i64 o.fr) := by rw [HPB.out.cell]; rfl
  have c2 : W4.cell? ⟨p, 2, none⟩ = some (.int .i64 o.sz) := by rw [HPB.out.cell]; rfl
  by_cases q1 : o.fr ≤ at_
  · by_cases q2 : (nb : Int) ≤ o.sz
    · by_cases q3 : at_ - o.fr ≤ o.sz - (nb : Int)
      · go_wp2_with fail
        go_ret
        exact ⟨ret_bool (by rw [← HR.out]; unfold inB; simp [q1, q2, q3] <;> omega), by first | exact HB4.out | (rw [hp]; exact HB4.out)⟩
      · go_wp2_with fail
        go_ret
        exact ⟨ret_bool (by rw [← HR.out]; unfold inB; simp [q1, q2, q3] <;> omega), by first | exact HB4.out | (rw [hp]; exact HB4.out)⟩
    · go_wp2_with fail
      go_ret
      exact ⟨ret_bool (by rw [← HR.out]; unfold inB; simp [q1, q2] <;> omega), by first | exact HB4.out | (rw [hp]; exact HB4.out)⟩
  · go_wp2_with fail
    go_ret
    exact ⟨ret_bool (by rw [← HR.out]; unfold inB; simp [q1] <;> omega), by first | exact HB4.out | (rw [hp]; exact HB4.out)⟩
set_option maxRecDepth 100000 in
set_option maxHeartbeats 1000000 in
theorem eindex_any (g off n cap br : Nat) (at_ : Int) (Ab : Option Addr) (nb cb : Nat) (rs : List Rng) (w : World) (hn : n ≤ rs.length) (hn2 : n ≤ cap) (hcap : cap ≤ maxLen) (hg : g < w.heap.size) (hc : RCells w g off rs) (hb : Blk w br 46 #[.int .i64 at_, .slice Ab nb cb]) (hr : (0 ≤ at_ ∧ at_ ≤ 4294967296) ∧ nb ≤ 1048576) (ho : ∀ o ∈ rs.take n, o.Ok) (hl : rs.length ≤ 16) :
    Calls Tryz.prog 46 #[.slice (some ⟨g, off, none⟩) n cap, .func (.func 23) #[] #[.pointer (some ⟨br, 0, none⟩)]] w
      fun e w' => ∃ i : Int, e = .returned (.int .i64 i) ∧ decide (0 ≤ i) = (rs.take n).any (inB at_ nb) ∧ Below w.heap.size w w' := by
  unfold maxLen at hcap
  have HC := Lib.hid hc
  have HB := Lib.hid hb
  have HR := Lib.hid hr
  have HO := Lib.hid ho
  clear hc hb hr ho
  go_enter Tryz.func46, Tryz.ntmps46
  go_wp2
  go_loopw [8] (fun i wr => ∃ k : Nat, k ≤ n ∧ i = .int .i64 k ∧ Hid ((rs.take k).any (inB at_ nb) = false) ∧ Below w.heap.size w wr) (fun i _ => n - (intOf i).toNat)
  case atStart => exact ⟨0, Nat.zero_le _, rfl, rfl, Below.refl _ _⟩
  case round =>
    obtain ⟨k, hk, rfl, HF, hbel⟩ := hrel
    have HBel := Lib.hid hbel
    clear hbel
    by_cases hlt : k < n
    · have hkl : k < rs.length := by omega
      obtain ⟨c0, c1, c2, c3, c4⟩ := (HC.out.below HBel.out hg).five hkl
      have hbr := HB.out.below HBel.out HB.out.lt
      have hok : (rs[k]).Ok := HO.out _ (List.mem_take_iff_getElem.2 ⟨k, by omega, rfl⟩)
      have HBR := Lib.hid hbr
      have HOK := Lib.hid hok
      clear hbr hok
      go_wp2_with fail
      refine (eclosure_any br at_ Ab nb cb rs[k] _ HBR.out HR.out.1 HR.out.2 HOK.out).mono ?_
      rintro e w1 ⟨rfl, hb1⟩
      have HB1 := Lib.hid (HBel.out.trans (hb1.mono HBel.out.size))
      clear hb1 c0 c1 c2 c3 c4
      cases hcl : inB at_ nb rs[k] with
      | true =>
        have HT := Lib.hid (anyR_hit (n := n) hkl hlt hcl)
        clear hcl
        go_wp2
        go_ret
        exact ⟨k, rfl, by rw [HT.out]; simp, HB1.out⟩
      | false =>
        have HT := Lib.hid (anyR_step hkl HF.out hcl)
        clear hcl
        go_wp2
        go_roundw
        case rel => exact ⟨k + 1, by omega, by go_num, HT.out, HB1.out⟩
        case measure => simp [intOf]; omega
    · have hkn : k = n := by omega
      have HKN := Lib.hid hkn
      clear hkn
      go_wp2
      go_ret
      exact ⟨-1, rfl, by rw [← HKN.out, HF.out]; rfl, HBel.out⟩
set_option maxRecDepth 100000 in
set_option maxHeartbeats 400000 in
theorem econtains_any (g off n cap br : Nat) (at_ : Int) (Ab : Option Addr) (nb cb : Nat) (rs : List Rng) (w : World) (hn : n ≤ rs.length) (hn2 : n ≤ cap) (hcap : cap ≤ maxLen) (hg : g < w.heap.size) (hc : RCells w g off rs) (hb : Blk w br 46 #[.int .i64 at_, .slice Ab nb cb]) (hr : (0 ≤ at_ ∧ at_ ≤ 4294967296) ∧ nb ≤ 1048576) (ho : ∀ o ∈ rs.take n, o.Ok) (hl : rs.length ≤ 16) :
    Calls Tryz.prog 24 #[.slice (some ⟨g, off, none⟩) n cap, .func (.func 23) #[] #[.pointer (some ⟨br, 0, none⟩)]] w
      fun e w' => e = .returned (.bool ((rs.take n).any (inB at_ nb))) ∧ Below w.heap.size w w' := by
  have HI := Lib.hid (eindex_any g off n cap br at_ Ab nb cb rs w hn hn2 hcap hg hc hb hr ho hl)
  clear hc hb hr ho
  go_enter Tryz.func24, Tryz.ntmps24
  go_wp2_with fail
  refine HI.out.mono ?_
  rintro e w1 ⟨i, rfl, hd, hb1⟩
  have HD := Lib.hid hd
  have HB1 := Lib.hid hb1
  clear hd hb1
  go_wp2
  go_ret
  exact ⟨by rw [← HD.out]; rfl, HB1.out⟩
/-- A slice of fills reads as these. -/
def FillsAt (W : World) (v : Value) (fs : List (Int × List UInt8)) : Prop := ∃ A cap, v = .slice A fs.length cap ∧ fs.length ≤ cap ∧ cap ≤ maxLen ∧ (0 < fs.length → ∃ g off, A = some ⟨g, off, none⟩ ∧ g < W.heap.size ∧ ∀ k (h : k < fs.length), W.cell? ⟨g, off + k * 2, none⟩ = some (.int .i64 fs[k].1) ∧ ∃ b, W.cell? ⟨g, off + k * 2 + 1, none⟩ = some b ∧ Bys W b fs[k].2)
theorem FillsAt.below {W W' : World} {v : Value} {fs : List (Int × List UInt8)} (h : FillsAt W v fs) (hb : Below W.heap.size W W') : FillsAt W' v fs := by
  obtain ⟨A, cap, h1, h2, h3, h4⟩ := h
  refine ⟨A, cap, h1, h2, h3, fun hn => ?_⟩
  obtain ⟨g, off, e, hg, hc⟩ := h4 hn
  refine ⟨g, off, e, Nat.lt_of_lt_of_le hg hb.size, fun k hk => ?_⟩
  obtain ⟨c0, b, c1, c2⟩ := hc k hk
  exact ⟨(hb.cell (p := ⟨g, off + k * 2, none⟩) hg).trans c0, b, (hb.cell (p := ⟨g, off + k * 2 + 1, none⟩) hg).trans c1, RowOf.below c2 hb⟩
def sumZ (rs : List Rng) : Int := (rs.map fun r => r.sz).sum
theorem sumZ_snoc {l : List Rng} {i : Nat} (h : i < l.length) : sumZ (l.take (i + 1)) = sumZ (l.take i) + l[i].sz := by
  unfold sumZ
  rw [List.take_succ_eq_append_getElem h, List.map_append, List.sum_append]
  simp
theorem sumZ_le {l : List Rng} (h : ∀ r ∈ l, 0 ≤ r.sz) (i : Nat) : 0 ≤ sumZ (l.take i) ∧ sumZ (l.take i) ≤ sumZ l := by
  have e : sumZ l = sumZ (l.take i) + sumZ (l.drop i) := by unfold sumZ; rw [← List.sum_append, ← List.map_append, List.take_append_drop]
  have hn : ∀ l : List Rng, (∀ r ∈ l, 0 ≤ r.sz) → 0 ≤ sumZ l := fun l hl => by
    induction l with
    | nil => simp [sumZ]
    | cons x l ih =>
      have h1 := hl x List.mem_cons_self
      have h2 := ih (fun r hr => hl r (List.mem_cons_of_mem _ hr))
      unfold sumZ at h2 ⊢
      rw [List.map_cons, List.sum_cons]
      omega
  have h1 := hn (l.take i) (fun r hr => h r (List.mem_of_mem_take hr))
  have h2 := hn (l.drop i) (fun r hr => h r (List.mem_of_mem_drop hr))
  omega
set_option maxRecDepth 100000 in
set_option maxHeartbeats 4000000 in
theorem echeck_ok (vR vF : Value) (rs : List Rng) (fs : List (Int × List UInt8)) (en : Int) (w : World) (hR : RSlice w vR rs) (hF : FillsAt w vF fs) (hc : chkR rs = 0) (hl : fs.length ≤ 16) (hen : 0 ≤ en ∧ en < 4294967296) (hs : sumZ rs ≤ 1048576) (hok : ∀ r ∈ rs, r.Ok) (hrl : 0 < rs.length ∧ rs.length ≤ 16)
    (hf : ∀ f ∈ fs, 0 ≤ f.1 ∧ f.1 ≤ 4294967296 ∧ f.2.length ≤ 1048576 ∧ rs.any (inB f.1 f.2.length) = true) :
    Calls Tryz.prog 10 #[.agg #[vR, vF, .int .i64 en]] w fun e w' => e = .returned (.int .i64 0) ∧ Below w.heap.size w w' := by
  have HM := Lib.hid (fun W => mcheck_any vR rs W)
  rw [hc] at HM
  obtain ⟨p, hp⟩ : ∃ p, w.heap.size = p := ⟨_, rfl⟩
  have HP := Lib.hid hp
  obtain ⟨W4, hW4⟩ : ∃ W4, w.alloc (.cells #[vR, vF, .int .i64 en] 32) = W4 := ⟨_, rfl⟩
  have hb4 : Below w.heap.size w W4 := by rw [← hW4]; exact (Below.refl _ _).alloc (Nat.le_refl _) _
  have HPB : Hid (Blk W4 p 32 #[vR, vF, .int .i64 en]) := by rw [← hW4, ← hp]; exact Blk.new w _ _
  have HR := Lib.hid hR
  have HF := Lib.hid hF
  have HB4 := Lib.hid hb4
  have HOK := Lib.hid hok
  have HFF := Lib.hid hf
  obtain ⟨AR, cR, rfl, r1, r2, r3, r4⟩ := hR
  obtain ⟨AF, cF, rfl, f1, f2, f3⟩ := hF
  obtain ⟨NR, hNR⟩ : ∃ n, rs.length = n := ⟨_, rfl⟩
  obtain ⟨NF, hNF⟩ : ∃ n, fs.length = n := ⟨_, rfl⟩
  have HNR := Lib.hid hNR
  have HNF := Lib.hid hNF
  rw [hNR] at r1 hrl HM HPB HR hW4 ⊢
  rw [hNF] at f1 hl HPB HF hW4 ⊢
  clear hc hb4 hok hf r3 r4 f3 hNR hNF
  unfold maxLen at r2 f2
  have d0 : W4.cell? ⟨p, 0, none⟩ = some (.slice AR NR cR) := by rw [HPB.out.cell]; rfl
  have d1 : W4.cell? ⟨p, 1, none⟩ = some (.slice AF NF cF) := by rw [HPB.out.cell]; rfl
  have d2 : W4.cell? ⟨p, 2, none⟩ = some (.int .i64 en) := by rw [HPB.out.cell]; rfl
  go_enter Tryz.func10, Tryz.ntmps10
  go_wp2_with fail
  refine (HM.out W4 (HR.out.below (by rw [← HP.out] at *; exact HB4.out))).mono ?_
  rintro e w1 ⟨rfl, hb1⟩
  have HB1 : Hid (Below w.heap.size w w1) := Lib.hid (HB4.out.trans (hb1.mono HB4.out.size))
  have HPB1 := Lib.hid (HPB.out.below hb1 HPB.out.lt)
  have HPL : Hid (p < w1.heap.size) := Lib.hid HPB1.out.lt
  have d0 : w1.cell? ⟨p, 0, none⟩ = some (.slice AR NR cR) := by rw [HPB1.out.cell]; rfl
  have d1 : w1.cell? ⟨p, 1, none⟩ = some (.slice AF NF cF) := by rw [HPB1.out.cell]; rfl
  have d2 : w1.cell? ⟨p, 2, none⟩ = some (.int .i64 en) := by rw [HPB1.out.cell]; rfl
  clear hb1
  obtain ⟨hen1, hen2⟩ := hen
  go_wp2_with fail
  clear d0 d1 d2
  go_loopw [3, 32] (fun sv iv W => ∃ i : Nat, i ≤ NR ∧ iv = .int .i64 i ∧ sv = .int .i64 (sumZ (rs.take i)) ∧ Hid (Below w1.heap.size w1 W)) (fun sv iv _ => NR - (intOf iv).toNat)
  case atStart => exact ⟨0, Nat.zero_le _, rfl, rfl, Lib.hid (Below.refl _ _)⟩
  case round =>
    obtain ⟨i, hi, rfl, rfl, HB⟩ := hrel
    by_cases hlt : i < NR
    · as_aux_lemma =>
      obtain ⟨A', c', ea, _, _, _, hcc⟩ := HR.out
      injection ea with ea1 ea2 ea3
      subst ea1
      clear ea2 ea3
      have hil : i < rs.length := by rw [HNR.out]; exact hlt
      obtain ⟨g, off, rfl, hg, hc⟩ := hcc (by intro e; rw [e] at hil; simp at hil)
      have hw : Below w.heap.size w wr := HB1.out.trans (HB.out.mono HB1.out.size)
      obtain ⟨x0, x1, x2, x3, x4⟩ := ((hc.below (w' := wr) (by exact hw) hg).five hil)
      have hsn := sumZ_snoc hil
      have hle := sumZ_le (l := rs) (fun r hr => (HOK.out r hr).s0) (i + 1)
      have hle0 := sumZ_le (l := rs) (fun r hr => (HOK.out r hr).s0) i
      obtain ⟨r, hr⟩ : ∃ r, rs[i] = r := ⟨_, rfl⟩
      rw [hr] at x0 x1 x2 x3 x4 hsn
      obtain ⟨S, hS⟩ : ∃ S, sumZ (rs.take i) = S := ⟨_, rfl⟩
      rw [hS] at hsn hle0 ⊢
      have HSN := Lib.hid hsn
      have e3 : (i : Int) < (NR : Int) := by omega
      have e5 : (0 : Int) ≤ (i : Int) := by omega
      have e6 : IntKind.i64.wrap ((i : Int) + 1) = ((i + 1 : Nat) : Int) := by rw [IntWalk.i64_in _ (by omega)]; omega
      have e7 : IntKind.i64.wrap (S + r.sz) = S + r.sz := IntWalk.i64_in _ (by omega)
      have HB3 : Hid (Below w1.heap.size w1 (wr.alloc (.cells #[.string r.nm, .int .i64 r.fr, .int .i64 r.sz, .bool r.wr, .bool r.ex] 48))) := Lib.hid (HB.out.alloc HB.out.size _)
      clear hS hsn hle hc hcc hr
      go_wp2_with fail
      go_roundw
      case rel => exact ⟨i + 1, by omega, by go_num, by rw [HSN.out], HB3⟩
      case measure => simp [intOf]; omega
    · have hiN : i = NR := by omega
      subst hiN
      rw [List.take_of_length_le (by rw [HNR.out]; exact Nat.le_refl _)]
      obtain ⟨S, hS⟩ : ∃ S, sumZ rs = S := ⟨_, rfl⟩
      rw [hS] at hs ⊢
      clear hS
      have HPB2 := Lib.hid (HPB1.out.below HB.out HPB1.out.lt)
      have HB2 := Lib.hid (HB1.out.trans (HB.out.mono HB1.out.size))
      have d1 : wr.cell? ⟨p, 1, none⟩ = some (.slice AF NF cF) := by rw [HPB2.out.cell]; rfl
      clear HB
      generalize wr = wz at *
      go_wp2_with fail
      clear d1
      go_loopw [46] (fun kv W => ∃ k : Nat, k ≤ NF ∧ kv = .int .i64 k ∧ Hid (Below wz.heap.size wz W)) (fun kv _ => NF - (intOf kv).toNat)
      case atStart => exact ⟨0, Nat.zero_le _, rfl, Lib.hid (Below.refl _ _)⟩
      case round =>
        obtain ⟨k, hk, rfl, HB⟩ := hrel
        by_cases hlt : k < NF
        · as_aux_lemma =>
          obtain ⟨A', c', ea, _, _, hcc⟩ := HF.out
          injection ea with ea1 ea2 ea3
          subst ea1
          clear ea2 ea3
          have hkl : k < fs.length := by rw [HNF.out]; exact hlt
          obtain ⟨g, off, rfl, hg, hc⟩ := hcc (by omega)
          obtain ⟨x0, bv, x1, hbv⟩ := hc k hkl
          have hw : Below w.heap.size w wr := HB2.out.trans (HB.out.mono HB2.out.size)
          replace x0 := (hw.cell (p := ⟨g, off + k * 2, none⟩) hg).trans x0
          replace x1 := (hw.cell (p := ⟨g, off + k * 2 + 1, none⟩) hg).trans x1
          obtain ⟨g0, g1, g2, g3⟩ := HFF.out fs[k] (List.getElem_mem hkl)
          obtain ⟨A2, c2, rfl, hc2, hc2m, _⟩ := hbv
          obtain ⟨at_, hat⟩ : ∃ z, fs[k].1 = z := ⟨_, rfl⟩
          obtain ⟨nb, hnb⟩ : ∃ z, fs[k].2.length = z := ⟨_, rfl⟩
          rw [hat] at x0 g0 g1 g3
          rw [hnb] at x1 g2 g3 hc2
          obtain ⟨A3, c3, ea, _, _, _, hcR⟩ := HR.out
          injection ea with ea1 ea2 ea3
          subst ea1
          clear ea2 ea3
          obtain ⟨gR, oR, rfl, hgR, hRR⟩ := hcR (by intro e; rw [e] at HNR; have := HNR.out; simp at this; omega)
          obtain ⟨s, hs⟩ : ∃ s, wr.heap.size = s := ⟨_, rfl⟩
          have hb3 : Below wr.heap.size wr (wr.alloc (.cells #[.int .i64 at_, .slice A2 nb c2] 46)) := (Below.refl _ _).alloc (Nat.le_refl _) _
          have hwf : Below w.heap.size w (wr.alloc (.cells #[.int .i64 at_, .slice A2 nb c2] 46)) := hw.trans (hb3.mono hw.size)
          have HCT := Lib.hid (econtains_any gR oR i cR s at_ A2 nb c2 rs (wr.alloc (.cells #[.int .i64 at_, .slice A2 nb c2] 46)) (by rw [HNR.out]; exact Nat.le_refl _) r1 (by unfold maxLen; omega) (Nat.lt_of_lt_of_le hgR hwf.size) (RCells.below hRR hwf hgR) (by rw [← hs]; exact Blk.new wr _ _) ⟨⟨g0, g1⟩, g2⟩ (fun o ho => HOK.out o (List.mem_of_mem_take ho)) (by rw [HNR.out]; exact hrl.2))
          rw [List.take_of_length_le (by rw [HNR.out]; exact Nat.le_refl _), g3] at HCT
          have p0 : (wr.alloc (.cells #[.int .i64 at_, .slice A2 nb c2] 46)).cell? ⟨p, 0, none⟩ = some (.slice (some ⟨gR, oR, none⟩) i cR) := by
            rw [((HPB2.out.below HB.out HPB2.out.lt).below hb3 (Nat.lt_of_lt_of_le HPB2.out.lt HB.out.size)).cell]; rfl
          have e3 : (k : Int) < (NF : Int) := by omega
          have e5 : (0 : Int) ≤ (k : Int) := by omega
          have e6 : IntKind.i64.wrap ((k : Int) + 1) = ((k + 1 : Nat) : Int) := by rw [IntWalk.i64_in _ (by omega)]; omega
          have HB3 : Hid (Below wz.heap.size wz (wr.alloc (.cells #[.int .i64 at_, .slice A2 nb c2] 46))) := Lib.hid (HB.out.alloc HB.out.size _)
          clear hb3 hwf hw hc hcc hRR hcR hat hnb g3
          by_cases h0 : 0 < nb
          · have h0' : (0 : Int) < (nb : Int) := by omega
            have h0'' : ¬ at_ < 0 := by omega
            go_wp2_with fail
            refine HCT.out.mono ?_
            rintro e w9 ⟨rfl, hb9⟩
            have HB9 := Lib.hid (HB3.out.trans (hb9.mono HB3.out.size))
            clear hb9
            go_wp2_with fail
            go_roundw
            case rel => exact ⟨k + 1, by omega, by go_num, HB9⟩
            case measure => simp [intOf]; omega
          · have h0' : nb = 0 := by omega
            subst h0'
            go_wp2_with fail
            go_roundw
            case rel => exact ⟨k + 1, by omega, by go_num, HB3⟩
            case measure => simp [intOf]; omega
        · have hkN : k = NF := by omega
          subst hkN
          have HBF := Lib.hid (HB2.out.trans (HB.out.mono HB2.out.size))
          clear HB
          go_wp2_with fail
          go_ret
          exact ⟨rfl, by first | exact HBF.out | (rw [← HP.out]; exact HBF.out)⟩
end Go.Proofs.YteoglkofeogknaaGreatDoor
