/- Walks: the law's helpers: Has, SameInts, constant. No conditions beyond what they state. Walks: the law's small function. No conditions. -/
import Derived.Test.YtlmoblmkhicoeaaGreatDoorV7
set_option linter.unusedVariables false
set_option linter.unusedSimpArgs false
namespace Go.Proofs.YtlmoblmkhicoeaaGreatDoor
open Go.RowKit
theorem contains_step {l : List Int} {x : Int} {k : Nat} (hk : k < l.length) (h : (l.take k).contains x = false) (h2 : (l[k] == x) = false) : (l.take (k + 1)).contains x = false := by
  rw [List.take_succ_eq_append_getElem hk, List.contains_append, h]
  have : (x == l[k]) = false := by rw [Bool.eq_false_iff] at h2 ⊢; simp at h2 ⊢; exact fun e => h2 e.symm
  simp [this]
  exact fun e => by rw [e] at this; simp at this
set_option maxRecDepth 100000 in
set_option maxHeartbeats 1000000 in
theorem has_any (l : List Int) (v : Value) (x : Int) (w : World) (h : Ints w v l) (hl : l.length ≤ 2097152) :
    Calls Tryz.prog 13 #[v, .int .i64 x] w fun e w' => e = .returned (.bool (l.contains x)) ∧ Below w.heap.size w w' := by
  obtain ⟨A, c, rfl, h1, h2⟩ := h.form
  unfold maxLen at h2
  have HL := Lib.hid h
  clear h
  go_enter Tryz.func13, Tryz.ntmps13
  go_wp2_with fail
  go_loopw [5] (fun i wr => ∃ k : Nat, k ≤ l.length ∧ i = .int .i64 k ∧ Hid ((l.take k).contains x = false) ∧ Hid (Below w.heap.size w wr)) (fun i _ => l.length - (intOf i).toNat)
  case atStart => exact ⟨0, Nat.zero_le _, rfl, rfl, Below.refl _ _⟩
  case round =>
    obtain ⟨k, hk, rfl, HF, HB⟩ := hrel
    by_cases hlt : k < l.length
    · obtain ⟨g, off, cap, ea, h3, h4, hg, hc⟩ := (HL.out.below HB.out).open_ (Nat.lt_of_le_of_lt (Nat.zero_le _) hlt)
      cases ea
      have c0 := hc k hlt
      have hcs := contains_step (x := x) hlt HF.out
      have hyes : (l[k] == x) = true → l.contains x = true := fun h => by
        have e : l[k] = x := eq_of_beq h
        rw [← e]; simp
      obtain ⟨y, hy⟩ : ∃ y, l[k] = y := ⟨_, rfl⟩
      rw [hy] at c0 hcs hyes
      have HY := Lib.hid hyes
      have HC := Lib.hid hcs
      clear hc hy hcs hyes
      cases hyx : (y == x) with
      | true =>
        have HN := Lib.hid (HY.out hyx)
        go_wp2_with fail
        go_ret
        exact ⟨ret_bool HN.out.symm, HB.out⟩
      | false =>
        have HN := Lib.hid (HC.out hyx)
        go_wp2_with fail
        go_roundw
        case rel => exact ⟨k + 1, by omega, by go_num, HN.out, HB.out⟩
        case measure => simp [intOf]; omega
    · have hke : k = l.length := by omega
      subst hke
      have hn := HF.out
      rw [List.take_length] at hn
      have HN := Lib.hid hn
      clear HF hn
      go_wp2_with fail
      go_ret
      exact ⟨ret_bool HN.out.symm, HB.out⟩
theorem take_eq_step {l m : List Int} {k : Nat} (hk : k < l.length) (hm : k < m.length) (h : l.take k = m.take k) (h2 : l[k] = m[k]) : l.take (k + 1) = m.take (k + 1) := by
  rw [List.take_succ_eq_append_getElem hk, List.take_succ_eq_append_getElem hm, h, h2]
set_option maxRecDepth 100000 in
set_option maxHeartbeats 2000000 in
theorem same_any (l m : List Int) (v u : Value) (w : World) (h : Ints w v l) (h' : Ints w u m) (he : l = m) (hl : l.length ≤ 2097152) :
    Calls Tryz.prog 15 #[v, u] w fun e w' => e = .returned (.bool true) ∧ Below w.heap.size w w' := by
  subst he
  obtain ⟨A, c, rfl, h1, h2⟩ := h.form
  obtain ⟨A', c', rfl, h1', h2'⟩ := h'.form
  unfold maxLen at h2 h2'
  have HL := Lib.hid (And.intro h h')
  clear h h'
  go_enter Tryz.func15, Tryz.ntmps15
  go_wp2_with fail
  go_loopw [5] (fun i wr => ∃ k : Nat, k ≤ l.length ∧ i = .int .i64 k ∧ Hid (Below w.heap.size w wr)) (fun i _ => l.length - (intOf i).toNat)
  case atStart => exact ⟨0, Nat.zero_le _, rfl, Below.refl _ _⟩
  case round =>
    obtain ⟨k, hk, rfl, HB⟩ := hrel
    by_cases hlt : k < l.length
    · obtain ⟨g, off, cap, ea, h3, h4, hg, hc⟩ := (HL.out.1.below HB.out).open_ (Nat.lt_of_le_of_lt (Nat.zero_le _) hlt)
      cases ea
      obtain ⟨g', off', cap', ea', h3', h4', hg', hc'⟩ := (HL.out.2.below HB.out).open_ (Nat.lt_of_le_of_lt (Nat.zero_le _) hlt)
      cases ea'
      have c0 := hc k hlt
      have d0 := hc' k hlt
      have c0' := fun q => (show (wr.drewN q).cell? ⟨g, off + k, none⟩ = _ from c0)
      have d0' := fun q => (show (wr.drewN q).cell? ⟨g', off' + k, none⟩ = _ from d0)
      obtain ⟨y, hy⟩ : ∃ y, l[k] = y := ⟨_, rfl⟩
      rw [hy] at c0 d0 c0' d0'
      have HN := Lib.hid (fun q => below_dN HB.out q)
      clear hc hc' hy HB
      go_wp2_with fail
      go_quiet (fail)
      go_wp2_with fail
      go_roundw
      case rel => exact ⟨k + 1, by omega, by go_num, HN.out _⟩
      case measure => simp [intOf]; omega
    · have hke : k = l.length := by omega
      subst hke
      go_wp2_with fail
      go_ret
      exact ⟨rfl, HB.out⟩
def opC (d n : Int) : Op := ⟨1, d, -1, -1, n, ⟨#[]⟩, []⟩
set_option maxHeartbeats 1000000 in
theorem const22_any (d n : Int) (w : World) :
    Calls Tryz.prog 33 #[.int .i64 d, .int .i64 n] w fun e w' => e = .returned (opv (opC d n) (.slice none 0 0)) ∧ Below w.heap.size w w' := by
  have hX := Blk.new w 75 #[.int .i64 1, .int .i64 d, .int .i64 (-1), .int .i64 (-1), .int .i64 n, .string ⟨#[]⟩, .slice none 0 0]
  have c0 := (hX.cell 0).trans rfl
  have c1 := (hX.cell 1).trans rfl
  have c2 := (hX.cell 2).trans rfl
  have c3 := (hX.cell 3).trans rfl
  have c4 := (hX.cell 4).trans rfl
  have c5 := (hX.cell 5).trans rfl
  have c6 := (hX.cell 6).trans rfl
  clear hX
  go_enter Tryz.func33, Tryz.ntmps33
  go_wp2_with fail
  refine bodyPost_ret (v := opv (opC d n) (.slice none 0 0)) (by simp [results, Tryz.results33, go_sem, c0, c1, c2, c3, c4, c5, c6, opv, opC]) rfl ⟨rfl, below1 _ _⟩
end Go.Proofs.YtlmoblmkhicoeaaGreatDoor
namespace Go.Proofs.YtlmoblmkhicoeaaGreatDoor
open Go.RowKit
def opN0 (k d a b : Int) : Op := ⟨k, d, a, b, 0, ⟨#[]⟩, []⟩
/-- The chapter's example. -/
def Fs : Fn := ⟨⟨#[102]⟩, 1, 6, [], [⟨[opC 1 1, opC 2 2], ⟨4, 0, 3, 1, 2⟩⟩, ⟨[opC 1 5, opN0 28 (-1) 4 (-1)], ⟨3, 3, -1, 0, 0⟩⟩, ⟨[opN0 3 5 1 2], ⟨3, 5, -1, 0, 0⟩⟩]⟩
theorem ops_blk {W : World} {g n : Nat} {os : List Op} {cs : Array Value} (h : Blk W g 75 cs) (hc : cs.toList = (os.zip (List.replicate os.length (.slice none 0 0))).flatMap opc) (ha : ∀ o ∈ os, o.ar = []) (hn : os.length = n) (hm : n ≤ maxLen) : OpsAt W (.slice (some ⟨g, 0, none⟩) n n) os := by
  subst hn
  refine ⟨List.replicate os.length (.slice none 0 0), by simp, ⟨_, _, rfl, Nat.le_refl _, hm, fun _ => ⟨g, 0, rfl, h.lt, fun j u hj => ?_⟩⟩, fun i a b => ?_⟩
  · rw [Nat.zero_add, h.cell, ← Array.getElem?_toList, hc]; exact hj
  · rw [List.getElem_replicate, ha _ (List.getElem_mem a)]; exact ints_nil _
theorem bls_small {W : World} {gA gB gC g : Nat} {cs : Array Value} (h : Blk W g 45 cs) (hA : OpsAt W (.slice (some ⟨gA, 0, none⟩) 2 2) [opC 1 1, opC 2 2]) (hB : OpsAt W (.slice (some ⟨gB, 0, none⟩) 2 2) [opC 1 5, opN0 28 (-1) 4 (-1)]) (hC : OpsAt W (.slice (some ⟨gC, 0, none⟩) 1 1) [opN0 3 5 1 2])
    (hc : cs.toList = (Fs.bl.zip [.slice (some ⟨gA, 0, none⟩) 2 2, .slice (some ⟨gB, 0, none⟩) 2 2, .slice (some ⟨gC, 0, none⟩) 1 1]).flatMap blc) : BlsAt W (.slice (some ⟨g, 0, none⟩) 3 3) Fs.bl := by
  refine ⟨[.slice (some ⟨gA, 0, none⟩) 2 2, .slice (some ⟨gB, 0, none⟩) 2 2, .slice (some ⟨gC, 0, none⟩) 1 1], rfl, ⟨_, _, rfl, Nat.le_refl _, by decide, fun _ => ⟨g, 0, rfl, h.lt, fun j u hj => ?_⟩⟩, fun i a b => ?_⟩
  · rw [Nat.zero_add, h.cell, ← Array.getElem?_toList, hc]; exact hj
  · match i, a, b with
    | 0, _, _ => exact hA
    | 1, _, _ => exact hB
    | 2, _, _ => exact hC
    | n + 3, a, _ => exact absurd a (by simp [Fs])
theorem small_end {w W4 : World} {gA gB gC gD g : Nat} (hX : Blk W4 g 25 #[.string ⟨#[]⟩, .int .i64 0, .int .i64 0, .slice none 0 0, .slice none 0 0]) (bA : Blk W4 gA 75 #[.int .i64 1, .int .i64 1, .int .i64 (-1), .int .i64 (-1), .int .i64 1, .string ⟨#[]⟩, .slice none 0 0, .int .i64 1, .int .i64 2, .int .i64 (-1), .int .i64 (-1), .int .i64 2, .string ⟨#[]⟩, .slice none 0 0]) (bB : Blk W4 gB 75 #[.int .i64 1, .int .i64 1, .int .i64 (-1), .int .i64 (-1), .int .i64 5, .string ⟨#[]⟩, .slice none 0 0, .int .i64 28, .int .i64 (-1), .int .i64 4, .int .i64 (-1), .int .i64 0, .string ⟨#[]⟩, .slice none 0 0]) (bC : Blk W4 gC 75 #[.int .i64 3, .int .i64 5, .int .i64 1, .int .i64 2, .int .i64 0, .string ⟨#[]⟩, .slice none 0 0]) (bD : Blk W4 gD 45 #[.slice (some ⟨gA, 0, none⟩) 2 2, .int .i64 4, .int .i64 0, .int .i64 3, .int .i64 1, .int .i64 2, .slice (some ⟨gB, 0, none⟩) 2 2, .int .i64 3, .int .i64 3, .int .i64 (-1), .int .i64 0, .int .i64 0, .slice (some ⟨gC, 0, none⟩) 1 1, .int .i64 3, .int .i64 5, .int .i64 (-1), .int .i64 0, .int .i64 0]) (hb : Below w.heap.size w W4) (hg : w.heap.size ≤ g) :
    ∃ W5, W5 = ((((W4.setCell ⟨g, 0, none⟩ (.string ⟨#[102]⟩)).setCell ⟨g, 1, none⟩ (.int .i64 1)).setCell ⟨g, 2, none⟩ (.int .i64 6)).setCell ⟨g, 3, none⟩ (.slice none 0 0)).setCell ⟨g, 4, none⟩ (.slice (some ⟨gD, 0, none⟩) 3 3) ∧ Blk W5 g 25 #[.string ⟨#[102]⟩, .int .i64 1, .int .i64 6, .slice none 0 0, .slice (some ⟨gD, 0, none⟩) 3 3] ∧ BlsAt W5 (.slice (some ⟨gD, 0, none⟩) 3 3) Fs.bl ∧ Below w.heap.size w W5 := by
  refine ⟨_, rfl, ((((hX.set_ 0 _).set_ 1 _).set_ 2 _).set_ 3 _).set_ 4 _, ?_, below_far (below_far (below_far (below_far (below_far hb hg _) hg _) hg _) hg _) hg _⟩
  have hk : Keeps (fun q => q = g) W4 (((((W4.setCell ⟨g, 0, none⟩ (.string ⟨#[102]⟩)).setCell ⟨g, 1, none⟩ (.int .i64 1)).setCell ⟨g, 2, none⟩ (.int .i64 6)).setCell ⟨g, 3, none⟩ (.slice none 0 0)).setCell ⟨g, 4, none⟩ (.slice (some ⟨gD, 0, none⟩) 3 3)) :=
    (((((Keeps.refl (fun q => q = g) W4).setCell (p := ⟨g, 0, none⟩) (Or.inr rfl) _).setCell (p := ⟨g, 1, none⟩) (Or.inr rfl) _).setCell (p := ⟨g, 2, none⟩) (Or.inr rfl) _).setCell (p := ⟨g, 3, none⟩) (Or.inr rfl) _).setCell (p := ⟨g, 4, none⟩) (Or.inr rfl) _
  have hne : ∀ {q : Nat} {t : TypeId} {cs : Array Value}, Blk W4 q t cs → t ≠ 25 → ¬ q = g := fun hq ht e => ht (Blk.kind hq (e ▸ hX))
  exact bls_small (bD.keeps hk (hne bD (by decide))) (ops_blk (bA.keeps hk (hne bA (by decide))) rfl (fun o ho => by simp [opC] at ho; rcases ho with rfl | rfl <;> rfl) rfl (by decide)) (ops_blk (bB.keeps hk (hne bB (by decide))) rfl (fun o ho => by simp [opC, opN0] at ho; rcases ho with rfl | rfl <;> rfl) rfl (by decide)) (ops_blk (bC.keeps hk (hne bC (by decide))) rfl (fun o ho => by simp [opN0] at ho; rcases ho with rfl; rfl) rfl (by decide)) rfl
set_option maxRecDepth 100000 in
set_option maxHeartbeats 4000000 in
theorem small_any (w : World) :
    Calls Tryz.prog 14 #[] w fun e w' => (∃ bv, e = .returned (fnv Fs (.slice none 0 0) bv) ∧ BlsAt w' bv Fs.bl) ∧ Below w.heap.size w w' := by
  have HC := Lib.hid (fun d n w => const22_any d n w)
  unfold opv opC at HC
  go_enter Tryz.func14, Tryz.ntmps14
  go_wp2_with fail
  refine (HC.out 1 1 _).mono ?_
  rintro e w1 ⟨rfl, hb1⟩
  have H1 := Lib.hid (And.intro ((Blk.new w 25 #[.string ⟨#[]⟩, .int .i64 0, .int .i64 0, .slice none 0 0, .slice none 0 0]).below hb1 (Blk.new w _ _).lt) ((below1 w _).trans (below_of_le hb1 (below1 w _).size)))
  clear hb1
  go_wp2_with fail
  refine (HC.out 2 2 _).mono ?_
  rintro e w2 ⟨rfl, hb2⟩
  have hal := below1 w2 (.cells #[.int .i64 1, .int .i64 1, .int .i64 (-1), .int .i64 (-1), .int .i64 1, .string ⟨#[]⟩, .slice none 0 0, .int .i64 1, .int .i64 2, .int .i64 (-1), .int .i64 (-1), .int .i64 2, .string ⟨#[]⟩, .slice none 0 0] 75)
  have H2 := Lib.hid (show Blk w2 w.heap.size 25 #[.string ⟨#[]⟩, .int .i64 0, .int .i64 0, .slice none 0 0, .slice none 0 0] ∧ Below w.heap.size w w2 from ⟨H1.out.1.below hb2 H1.out.1.lt, H1.out.2.trans (below_of_le hb2 H1.out.2.size)⟩)
  clear hb2
  go_wp2_with fail
  refine (HC.out 1 5 _).mono ?_
  rintro e w3 ⟨rfl, hb3⟩
  have hb23 := hal.trans (below_of_le hb3 hal.size)
  have H3 := Lib.hid (show Blk w3 w.heap.size 25 #[.string ⟨#[]⟩, .int .i64 0, .int .i64 0, .slice none 0 0, .slice none 0 0] ∧ Below w.heap.size w w3 ∧ Blk w3 w2.heap.size 75 #[.int .i64 1, .int .i64 1, .int .i64 (-1), .int .i64 (-1), .int .i64 1, .string ⟨#[]⟩, .slice none 0 0, .int .i64 1, .int .i64 2, .int .i64 (-1), .int .i64 (-1), .int .i64 2, .string ⟨#[]⟩, .slice none 0 0] ∧ w.heap.size < w2.heap.size from ⟨H2.out.1.below hb23 H2.out.1.lt, H2.out.2.trans (below_of_le hb23 H2.out.2.size), (Blk.new w2 75 _).below hb3 (Blk.new w2 _ _).lt, H2.out.1.lt⟩)
  clear hb3 hal hb23 H1 H2
  obtain ⟨o2, ho2⟩ : ∃ o2, o2 = Obj.cells #[.int .i64 1, .int .i64 1, .int .i64 (-1), .int .i64 (-1), .int .i64 5, .string ⟨#[]⟩, .slice none 0 0, .int .i64 28, .int .i64 (-1), .int .i64 4, .int .i64 (-1), .int .i64 0, .string ⟨#[]⟩, .slice none 0 0] 75 := ⟨_, rfl⟩
  have hx : ∀ (o2 o3 o4 : Obj), Blk (((w3.alloc o2).alloc o3).alloc o4) w.heap.size 25 #[.string ⟨#[]⟩, .int .i64 0, .int .i64 0, .slice none 0 0, .slice none 0 0] := fun o2 o3 o4 => ((H3.out.1.alloc o2).alloc o3).alloc o4
  have k0 := fun o2 o3 o4 => ((hx o2 o3 o4).cell 0).trans rfl
  have k1 := fun o2 o3 o4 => ((hx o2 o3 o4).cell 1).trans rfl
  have k2 := fun o2 o3 o4 => ((hx o2 o3 o4).cell 2).trans rfl
  have k3 := fun o2 o3 o4 => ((hx o2 o3 o4).cell 3).trans rfl
  have k4 := fun o2 o3 o4 => ((hx o2 o3 o4).cell 4).trans rfl
  have f0 := fun o2 o3 o4 => (hx o2 o3 o4).frozen 0
  have f1 := fun o2 o3 o4 => (hx o2 o3 o4).frozen 1
  have f2 := fun o2 o3 o4 => (hx o2 o3 o4).frozen 2
  have f3 := fun o2 o3 o4 => (hx o2 o3 o4).frozen 3
  have f4 := fun o2 o3 o4 => (hx o2 o3 o4).frozen 4
  clear hx ho2 o2
  have hal2 : ∀ (o2 o3 o4 : Obj), Below w.heap.size w (((w3.alloc o2).alloc o3).alloc o4) := fun o2 o3 o4 => ((H3.out.2.1.alloc H3.out.2.1.size o2).alloc (by rw [World.size_alloc]; have := H3.out.2.1.size; omega) o3).alloc (by rw [World.size_alloc, World.size_alloc]; have := H3.out.2.1.size; omega) o4
  obtain ⟨W5, e5, b5, bl5, be5⟩ := small_end (w := w) (gA := w2.heap.size) (gB := w3.heap.size) (gC := w3.heap.size + 1) (gD := w3.heap.size + 1 + 1) (((H3.out.1.alloc _).alloc _).alloc _) (((H3.out.2.2.1.alloc _).alloc _).alloc _) (((Blk.new w3 75 #[.int .i64 1, .int .i64 1, .int .i64 (-1), .int .i64 (-1), .int .i64 5, .string ⟨#[]⟩, .slice none 0 0, .int .i64 28, .int .i64 (-1), .int .i64 4, .int .i64 (-1), .int .i64 0, .string ⟨#[]⟩, .slice none 0 0]).alloc (.cells #[.int .i64 3, .int .i64 5, .int .i64 1, .int .i64 2, .int .i64 0, .string ⟨#[]⟩, .slice none 0 0] 75)).alloc _) ((blk_at (w := w3.alloc _) (by simp [World.size_alloc]) 75 #[.int .i64 3, .int .i64 5, .int .i64 1, .int .i64 2, .int .i64 0, .string ⟨#[]⟩, .slice none 0 0]).alloc _) (blk_at (w := (w3.alloc _).alloc _) (by simp [World.size_alloc]) 45 #[.slice (some ⟨w2.heap.size, 0, none⟩) 2 2, .int .i64 4, .int .i64 0, .int .i64 3, .int .i64 1, .int .i64 2, .slice (some ⟨w3.heap.size, 0, none⟩) 2 2, .int .i64 3, .int .i64 3, .int .i64 (-1), .int .i64 0, .int .i64 0, .slice (some ⟨w3.heap.size + 1, 0, none⟩) 1 1, .int .i64 3, .int .i64 5, .int .i64 (-1), .int .i64 0, .int .i64 0]) (hal2 _ _ _) (Nat.le_refl _)
  have H5 := Lib.hid (And.intro bl5 be5)
  have HE5 := Lib.hid e5
  obtain ⟨x0, x1, x2, x3, x4⟩ := five b5
  clear b5 bl5 be5 e5 hal2
  go_wp2_with fail
  rw [← HE5.out]
  refine bodyPost_ret (v := fnv Fs (.slice none 0 0) (.slice (some ⟨w3.heap.size + 1 + 1, 0, none⟩) 3 3)) (by simp [results, Tryz.results14, go_sem, x0, x1, x2, x3, x4, fnv, Fs]) rfl ⟨⟨_, rfl, H5.out.1⟩, H5.out.2⟩
end Go.Proofs.YtlmoblmkhicoeaaGreatDoor
