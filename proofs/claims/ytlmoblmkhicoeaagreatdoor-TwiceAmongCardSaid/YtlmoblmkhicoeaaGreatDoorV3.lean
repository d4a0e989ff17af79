/- Walks: twice.Analyze. Conditions: the tables; small parts. -/
import Derived.Test.YtlmoblmkhicoeaaGreatDoorV2
set_option linter.unusedVariables false
set_option linter.unusedSimpArgs false
namespace Go.Proofs.YtlmoblmkhicoeaaGreatDoor
open Go.RowKit
theorem kept_mem {F : Fn} {b : Nat} {r : Int} (h : r ∈ keptF F b) : r ∈ (liveIn F).getD (blk F b).x.e.toNat [] ∧ r ≠ (blk F b).x.d := by
  have := List.mem_filter.1 h
  exact ⟨this.1, by simpa using this.2⟩
theorem getD_mem_ {l : List (List Int)} {k : Nat} {r : Int} (h : r ∈ l.getD k []) : l.getD k [] ∈ l := by
  rcases Nat.lt_or_ge k l.length with h1 | h1
  · have e : l.getD k [] = l[k] := by simp [h1]
    rw [e]; exact List.getElem_mem h1
  · have e : l.getD k [] = [] := by simp [h1]
    rw [e] at h; simp at h
theorem OwnT.other {W W' : World} {B q : Nat} {v : Value} {l : List Tw} {t : TypeId} {cs : Array Value} (h : OwnT W B v l) (hk : Keeps (fun k => k = q) W W') (hq : Blk W q t cs) (ht : t ≠ 3) (hv : ∀ g, v.ownBlock = some g → ¬ g = q) : OwnT W' B v l := by
  obtain ⟨vs, h1, h2, h3⟩ := h
  exact ⟨vs, h1, ownsRow_keeps h2 hk hv, fun i a b => ⟨(h3 i a b).1.keeps hk (RRow.ne hq ht (h3 i a b).1), (h3 i a b).2.keeps hk (RRow.ne hq ht (h3 i a b).2)⟩⟩
set_option maxRecDepth 100000 in
set_option maxHeartbeats 8000000 in
theorem analyze_any (F : Fn) (sv bv : Value) (w : World) (h : FnIn w F sv bv) (ht : TzAt w) :
    Calls Tryz.prog 8 #[fnv F sv bv] w fun e w' => (fnB F = false ∧ e = .returned (.tuple #[.slice none 0 0, errV F]) ∨ fnB F = true ∧ ∃ v, e = .returned (.tuple #[v, .int .i64 0]) ∧ OwnT w' w.heap.size v (anL F) ∧ ∀ l ∈ liveIn F, l.length ≤ 4096 ∧ ∀ r ∈ l, 0 ≤ r ∧ r < F.rs) ∧ Below w.heap.size w w' := by
  obtain ⟨A, c, rfl, h1, h2⟩ := h.bl.form
  obtain ⟨As, cs, rfl, -, -⟩ := RowOf.form h.sl
  unfold maxLen at h2
  have hb1 := below1 w (.cells #[.string F.nm, .int .i64 F.ps, .int .i64 F.rs, .slice As F.sl.length cs, .slice A F.bl.length c] 25)
  have HBX := Lib.hid hb1
  have HLK := Lib.hid (looked_any F (.slice As F.sl.length cs) (.slice A F.bl.length c) _ (h.below hb1) (ht.below hb1))
  have HE := Lib.hid (show fnB F = false → errV F = .int .i64 180 from fun hb => by rw [errV, hb]; rfl)
  unfold fnv at HLK
  unfold fnv
  clear h ht hb1
  go_enter Tryz.func8, Tryz.ntmps8
  go_wp2_with fail
  refine HLK.out.mono ?_
  rintro e w1 ⟨⟨hf0, rfl⟩ | ⟨hf, gp, rv, tov, inv, ouv, rfl, hp⟩, hb1⟩
  · have HN := Lib.hid (And.intro hf0 (HBX.out.trans (below_of_le hb1 HBX.out.size)))
    rw [HE.out hf0]
    clear hf0 hb1
    go_wp2_with fail
    refine bodyPost_ret (v := .tuple #[.slice none 0 0, .int .i64 180]) (by simp [results, Tryz.results8, go_sem]) rfl ⟨Or.inl ⟨HN.out.1, by rw [HE.out HN.out.1]⟩, HN.out.2⟩
  · have HF := Lib.hid hf
    have hn2 := (fnB_ok hf).b2
    have hr1 := (fnB_ok hf).r1
    have hr0 := (fnB_ok hf).rs0
    have HP := Lib.hid hp
    have HB1 := Lib.hid (HBX.out.trans (below_of_le hb1 HBX.out.size))
    have p4 : w1.cell? ⟨gp, 4, none⟩ = some (.slice A F.bl.length c) := (hp.pb.cell 4).trans rfl
    have HIS := Lib.hid (fun (k : Nat) (hk : k < F.bl.length) W (hW : Below w1.heap.size w1 W) => isSet_any gp F _ _ rv tov inv ouv k hk W (HP.out.below hW))
    have HKE := Lib.hid (fun (k : Nat) (hk : k < F.bl.length) (h4 : (blk F k).x.k = 4) W (hW : Below w1.heap.size w1 W) => kept_any gp F _ _ rv tov inv ouv k hk h4 W (HP.out.below hW) (fun l hl => (hp.ll l hl).1))
    have HBT := Lib.hid (fun (k : Nat) (hk : k < F.bl.length) (h4 : (blk F k).x.k = 4) W (hW : Below w1.heap.size w1 W) => between_any gp F _ _ rv tov inv ouv k hk h4 W (HP.out.below hW))
    obtain ⟨R, hR⟩ : ∃ R, F.rs.toNat = R := ⟨_, rfl⟩
    have HR := Lib.hid (And.intro hR (show F.rs = (R : Int) by omega))
    have hRl : R ≤ 4096 := by omega
    rw [hR] at HBT
    have HKM := Lib.hid (show ∀ k, ∀ r ∈ keptF F k, 0 ≤ r ∧ r < (R : Int) from fun k r hr => by
      have h5 := (kept_mem hr).1
      have h6 := (hp.ll _ (getD_mem_ h5)).2 r h5
      rw [HR.out.2] at h6
      exact h6)
    have HKL := Lib.hid (show ∀ k, (keptF F k).length ≤ 4096 from fun k => by
      refine Nat.le_trans (List.length_filter_le _ _) ?_
      rcases Nat.lt_or_ge (blk F k).x.e.toNat (liveIn F).length with h7 | h7
      · have e : (liveIn F).getD (blk F k).x.e.toNat [] = (liveIn F)[(blk F k).x.e.toNat] := by simp [h7]
        rw [e]; exact (hp.ll _ (List.getElem_mem h7)).1
      · have e : (liveIn F).getD (blk F k).x.e.toNat [] = [] := by simp [h7]
        rw [e]; simp)
    have HLL := Lib.hid hp.ll
    clear hb1 hp hf hR hr0 hr1
    go_wp2_with fail
    go_loopw [26, 6] (fun i ov wr => ∃ k : Nat, k ≤ F.bl.length ∧ i = .int .i64 k ∧ Hid (OwnT wr w1.heap.size ov (anN F k) ∧ Below w1.heap.size w1 wr)) (fun i _ _ => F.bl.length - (intOf i).toNat)
    case atStart => exact ⟨0, Nat.zero_le _, rfl, OwnT.nil _ _, Below.refl _ _⟩
    case round =>
      clear p4
      obtain ⟨k, hk, rfl, HW⟩ := hrel
      by_cases hlt : k < F.bl.length
      · have HI := Lib.hid (HIS.out k hlt wr HW.out.2)
        go_wp2_with fail
        refine HI.out.mono ?_
        rintro e w2 ⟨rfl, hb2⟩
        have hw2 : OwnT w2 w1.heap.size u6 (anN F k) ∧ Below w1.heap.size w1 w2 := ⟨HW.out.1.below hb2, HW.out.2.trans (below_of_le hb2 HW.out.2.size)⟩
        have HW2 := Lib.hid hw2
        clear hb2 HW hw2 HI
        obtain ⟨sb, hsb⟩ : ∃ sb, setF F k = sb := ⟨_, rfl⟩
        rw [hsb]
        cases sb with
        | false =>
          have HN := Lib.hid (show anN F (k + 1) = anN F k from by rw [anN, hsb]; rfl)
          clear hsb
          go_wp2_with fail
          go_roundw
          case rel => exact ⟨k + 1, by omega, by go_num, by rw [HN.out]; exact HW2.out⟩
          case measure => simp [intOf]; omega
        | true =>
          have h4 : (blk F k).x.k = 4 := by
            have := (Bool.and_eq_true _ _ ▸ hsb).2
            exact eq_of_beq this
          have HN := Lib.hid (show anN F (k + 1) = anN F k ++ [⟨k, keptF F k, riskF F k⟩] from by rw [anN, hsb]; rfl)
          have HK2 := Lib.hid (HKE.out k hlt h4 w2 HW2.out.2)
          have HB2 := Lib.hid (HBT.out k hlt h4)
          have hkm := HKM.out k
          have hkl := HKL.out k
          have HRF := Lib.hid (show riskF F k = (keptF F k).filter (fun r => (btL F k).getD r.toNat false) from rfl)
          obtain ⟨kl, hkle⟩ : ∃ kl, keptF F k = kl := ⟨_, rfl⟩
          rw [hkle] at HN HK2 hkm hkl HRF
          have HKM2 := Lib.hid hkm
          obtain ⟨rl, hrl⟩ : ∃ rl, riskF F k = rl := ⟨_, rfl⟩
          rw [hrl] at HN HRF
          obtain ⟨bl, hbl⟩ : ∃ bl, btL F k = bl := ⟨_, rfl⟩
          rw [hbl] at HB2 HRF
          clear hsb hkle hrl hbl hkm
          go_wp2_with fail
          refine HK2.out.mono ?_
          rintro e w3 ⟨⟨kv, rfl, hko⟩, hb3⟩
          obtain ⟨Ak, ck, rfl, k1, k2⟩ := hko.form
          unfold maxLen at k2
          have hs3 := hb3.size
          have hB3 := HW2.out.2.trans (below_of_le hb3 HW2.out.2.size)
          have hal := below1 w3 (.cells #[.int .i64 (k : Int), .slice Ak kl.length ck, .slice none 0 0] 55)
          obtain ⟨gT, hgT⟩ : ∃ gT, w3.heap.size = gT := ⟨_, rfl⟩
          have H3 := Lib.hid (show Blk (w3.alloc (.cells #[.int .i64 (k : Int), .slice Ak kl.length ck, .slice none 0 0] 55)) gT 55 #[.int .i64 (k : Int), .slice Ak kl.length ck, .slice none 0 0] ∧ OwnI (w3.alloc (.cells #[.int .i64 (k : Int), .slice Ak kl.length ck, .slice none 0 0] 55)) w1.heap.size (.slice Ak kl.length ck) kl ∧ OwnT (w3.alloc (.cells #[.int .i64 (k : Int), .slice Ak kl.length ck, .slice none 0 0] 55)) w1.heap.size u6 (anN F k) ∧ Below w1.heap.size w1 (w3.alloc (.cells #[.int .i64 (k : Int), .slice Ak kl.length ck, .slice none 0 0] 55)) from
            ⟨by rw [← hgT]; exact Blk.new _ _ _, (hko.below hal).lower HW2.out.2.size, (HW2.out.1.below hb3).below hal, hB3.trans (below_of_le hal hB3.size)⟩)
          have HLT := Lib.hid (show (∀ g, u6.ownBlock = some g → g < gT) ∧ w1.heap.size ≤ gT ∧ (∀ g, (Value.slice Ak kl.length ck).ownBlock = some g → g < gT) from ⟨fun g hg => by rw [← hgT]; exact ((HW2.out.1.below hb3).lt g hg).2, by rw [← hgT]; exact hB3.size, fun g hg => by rw [← hgT]; exact hko.lt g hg⟩)
          clear hko hb3 hB3 hal HK2 HW2
          go_wp2_with fail
          refine (HB2.out _ H3.out.2.2.2).mono ?_
          rintro e w4 ⟨⟨gb, rfl, hgb, hbr, hbl⟩, hb4⟩
          try rw [hgT]
          have H4 := Lib.hid (show Blk w4 gT 55 #[.int .i64 (k : Int), .slice Ak kl.length ck, .slice none 0 0] ∧ OwnI w4 w1.heap.size (.slice Ak kl.length ck) kl ∧ OwnT w4 w1.heap.size u6 (anN F k) ∧ Below w1.heap.size w1 w4 ∧ BRow w4 gb bl ∧ bl.length = R from
            ⟨H3.out.1.below hb4 H3.out.1.lt, H3.out.2.1.below hb4, H3.out.2.2.1.below hb4, H3.out.2.2.2.trans (below_of_le hb4 H3.out.2.2.2.size), hbr, hbl⟩)
          have c1 : w4.cell? ⟨gT, 1, none⟩ = some (.slice Ak kl.length ck) := (H4.out.1.cell 1).trans rfl
          have H5 := Lib.hid (show ∃ A' n' c', Blk w4 gT 55 #[.int .i64 (k : Int), .slice Ak kl.length ck, .slice A' n' c'] ∧ OwnI w4 w4.heap.size (.slice A' n' c') ((kl.take 0).filter (fun r => bl.getD r.toNat false)) ∧ Keeps (fun q => q = gT) w4 w4 from ⟨none, 0, 0, H4.out.1, by simp [OwnI.nil], Keeps.refl _ _⟩)
          clear hgb hbr hbl hb4 HB2 H3 hgT hs3
          go_wp2_with fail
          go_loopw [44] (fun i wr => ∃ j : Nat, j ≤ kl.length ∧ i = .int .i64 j ∧ Hid (∃ A' n' c', Blk wr gT 55 #[.int .i64 (k : Int), .slice Ak kl.length ck, .slice A' n' c'] ∧ OwnI wr w4.heap.size (.slice A' n' c') ((kl.take j).filter (fun r => bl.getD r.toNat false)) ∧ Keeps (fun q => q = gT) w4 wr)) (fun i _ => kl.length - (intOf i).toNat)
          case atStart => exact ⟨0, Nat.zero_le _, rfl, H5.out⟩
          case round =>
            clear H5 c1
            obtain ⟨j, hj, rfl, HQ⟩ := hrel
            obtain ⟨A', n', c', q1, q2, q3⟩ := HQ.out
            by_cases hjt : j < kl.length
            · have hmem := List.getElem_mem hjt
              have hkr := HKM2.out kl[j] hmem
              obtain ⟨gl, ol, cl', ea, m1, m2, mg, mc⟩ := H4.out.2.1.ints.open_ (Nat.lt_of_le_of_lt (Nat.zero_le _) hjt)
              cases ea
              have hglT : gl ≠ gT := by have := HLT.out.2.2 gl rfl; omega
              have c0 := (q3.cell (p := ⟨gl, ol + j, none⟩) mg hglT).trans (mc j hjt)
              have hfs := filt_step (q := fun r => bl.getD r.toNat false) hjt
              obtain ⟨r, hr⟩ : ∃ r : Nat, kl[j] = (r : Int) := ⟨kl[j].toNat, by omega⟩
              rw [hr] at c0 hkr hfs
              have hrR : r < R := by omega
              obtain ⟨cbb, hcbb, -⟩ := H4.out.2.2.2.2.1.b
              have hgbT : gb ≠ gT := fun e => absurd (Blk.kind hcbb (e ▸ H4.out.1)) (by decide)
              obtain ⟨bb, hbb, d0⟩ := (H4.out.2.2.2.2.1.keeps q3 hgbT).val r (by rw [H4.out.2.2.2.2.2]; exact hrR)
              have e2 : (fun r : Int => bl.getD r.toNat false) (r : Int) = bb := by show bl.getD ((r : Int)).toNat false = bb; rw [show ((r : Int)).toNat = r by omega]; exact hbb
              have e3 : ((kl.take (j + 1)).filter (fun r => bl.getD r.toNat false)) = (kl.take j).filter (fun r => bl.getD r.toNat false) ++ (if bb = true then [(r : Int)] else []) := by
                rw [hfs]; simp only [show bl.getD ((r : Int)).toNat false = bb from e2]
              have f2 := q1.frozen 2
              have c2' : wr.cell? ⟨gT, 2, none⟩ = some (.slice A' n' c') := (q1.cell 2).trans rfl
              have hlen : ((kl.take j).filter (fun r => bl.getD r.toNat false)).length ≤ 4096 := Nat.le_trans (List.length_filter_le _ _) (by rw [List.length_take]; omega)
              cases bb with
              | false =>
                have HN2 := Lib.hid (show ∃ A' n' c', Blk wr gT 55 #[.int .i64 (k : Int), .slice (some ⟨gl, ol, none⟩) kl.length ck, .slice A' n' c'] ∧ OwnI wr w4.heap.size (.slice A' n' c') ((kl.take (j + 1)).filter (fun r => bl.getD r.toNat false)) ∧ Keeps (fun q => q = gT) w4 wr from ⟨A', n', c', q1, by rw [e3, if_neg (by decide), List.append_nil]; exact q2, q3⟩)
                clear hmem mc hfs hr hcbb hbb e2 e3 q1 q2 q3 HQ hlen
                go_wp2_with fail
                go_roundw
                case rel => exact ⟨j + 1, by omega, by go_num, HN2.out⟩
                case measure => simp [intOf]; omega
              | true =>
                obtain ⟨v', W', hap, how, hkp⟩ := q2.push q3.size (by omega) (r : Int) 34
                obtain ⟨A7, c7, rfl, -, -⟩ := how.form
                have hne7 : ∀ q, (Value.slice A' n' c').ownBlock = some q → ¬ q = gT := RRow.ne q1 (by decide) q2
                have q1' := q1.keeps hkp (fun e => hne7 gT e rfl)
                have hk4 : Keeps (fun q => q = gT) w4 W' := q3.trans hkp (fun i hi e => by have := q2.ge i e; omega)
                have g2 := q1'.frozen 2
                have d2 : W'.cell? ⟨gT, 2, none⟩ = some (.slice A' n' c') := (q1'.cell 2).trans rfl
                have hkc : Keeps (fun q => q = gT) W' (W'.setCell ⟨gT, 2, none⟩ (.slice A7 ((kl.take j).filter (fun r => bl.getD r.toNat false) ++ [(r : Int)]).length c7)) := (Keeps.refl (fun q => q = gT) W').setCell (p := ⟨gT, 2, none⟩) (Or.inr rfl) _
                have how2 := how.keeps hkc (RRow.ne q1' (by decide) how)
                have hrw : (kl.take (j + 1)).filter (fun r => bl.getD r.toNat false) = (kl.take j).filter (fun r => bl.getD r.toNat false) ++ [(r : Int)] := by rw [e3, if_pos rfl]
                obtain ⟨fl, hfl⟩ : ∃ fl, (kl.take j).filter (fun r => bl.getD r.toNat false) ++ [(r : Int)] = fl := ⟨_, rfl⟩
                rw [hfl] at hrw how2 hkc hap
                have HN2 := Lib.hid (show ∃ A' n' c', Blk (W'.setCell ⟨gT, 2, none⟩ (.slice A7 fl.length c7)) gT 55 #[.int .i64 (k : Int), .slice (some ⟨gl, ol, none⟩) kl.length ck, .slice A' n' c'] ∧ OwnI (W'.setCell ⟨gT, 2, none⟩ (.slice A7 fl.length c7)) w4.heap.size (.slice A' n' c') ((kl.take (j + 1)).filter (fun r => bl.getD r.toNat false)) ∧ Keeps (fun q => q = gT) w4 (W'.setCell ⟨gT, 2, none⟩ (.slice A7 fl.length c7)) from
                  ⟨A7, fl.length, c7, q1'.set_ 2 _, by rw [hrw]; exact how2, hk4.trans hkc (fun _ _ e => e)⟩)
                have HAP := Lib.hid hap
                clear hmem mc hfs hr hcbb hbb e2 e3 q1 q2 q3 HQ hlen hap how hkp hne7 q1' hk4 hkc how2 hrw hfl
                go_wp2_with (at_builtin; refine wpList_append_eq rfl (.tmp 53) (.tmp 55) 34 rfl rfl rfl HAP.out ?_)
                go_roundw
                case rel => exact ⟨j + 1, by omega, by go_num, HN2.out⟩
                case measure => simp [intOf]; omega
            · have hje : j = kl.length := by omega
              subst hje
              rw [List.take_length, ← HRF.out] at q2
              have hto : OwnT wr w1.heap.size u6 (anN F k) := H4.out.2.2.1.other q3 H4.out.1 (by decide) (fun g hg => by have := HLT.out.1 g hg; omega)
              have hkv : OwnI wr w1.heap.size (.slice Ak kl.length ck) kl := H4.out.2.1.keeps q3 (RRow.ne H4.out.1 (by decide) H4.out.2.1)
              have hb4 : Below w1.heap.size w1 wr := H4.out.2.2.2.1.trans (q3.toBelow H4.out.2.2.2.1.size (fun q hq e => by have := HLT.out.2.1; omega))
              obtain ⟨v', W', hap, how, hkp⟩ := OwnT.push (x := ⟨k, kl, rl⟩) hto hkv (q2.lower H4.out.2.2.2.1.size) hb4.size (by have := anN_len F k; omega) 35
              have HAP := Lib.hid hap
              have HN2 := Lib.hid (show OwnT W' w1.heap.size v' (anN F (k + 1)) ∧ Below w1.heap.size w1 W' from ⟨by rw [HN.out]; exact how, hb4.trans (hkp.toBelow hb4.size (fun q hq e => by have := (hto.lt q e).1; omega))⟩)
              have c0 : wr.cell? ⟨gT, 0, none⟩ = some (.int .i64 (k : Int)) := (q1.cell 0).trans rfl
              have c1 : wr.cell? ⟨gT, 1, none⟩ = some (.slice Ak kl.length ck) := (q1.cell 1).trans rfl
              have c2' : wr.cell? ⟨gT, 2, none⟩ = some (.slice A' n' c') := (q1.cell 2).trans rfl
              clear q1 q2 q3 HQ hto hkv hb4 hap how hkp
              go_wp2_with (at_builtin; refine wpList_append_eq rfl (.tmp 59) (.tmp 61) 35 rfl rfl rfl HAP.out ?_)
              go_roundw
              case rel => exact ⟨k + 1, by omega, by go_num, HN2.out⟩
              case measure => simp [intOf]; omega
      · have hke : k = F.bl.length := by omega
        subst hke
        obtain ⟨A5, c5, rfl, -, -⟩ := HW.out.1.form
        have HN := Lib.hid (show OwnT wr w.heap.size (.slice A5 (anN F F.bl.length).length c5) (anL F) ∧ Below w.heap.size w wr from ⟨HW.out.1.lower HB1.out.size, HB1.out.trans (below_of_le HW.out.2 HB1.out.size)⟩)
        obtain ⟨ml, hml⟩ : ∃ ml, (anN F F.bl.length).length = ml := ⟨_, rfl⟩
        rw [hml] at HN ⊢
        clear HW hml
        go_wp2_with fail
        refine bodyPost_ret (v := .tuple #[.slice A5 ml c5, .int .i64 0]) (by simp [results, Tryz.results8, go_sem]) rfl ⟨Or.inr ⟨HF.out, _, rfl, HN.out.1, HLL.out⟩, HN.out.2⟩
end Go.Proofs.YtlmoblmkhicoeaaGreatDoor
