/- Walks: among, ranges, Ranges, the document's Changed; the two memories side by side. Conditions: what the types grant. -/
import Derived.Test.YtbffclcjhcbejaaQF
import Derived.Laws.StructEq
namespace Go.Proofs.Ytbffclcjhcbejaa
open Go.RowKit
def amongR (n m : Int) : Int := n % 18446744073709551616 % m
theorem among_num (n m : Int) (hm : m = 7 ∨ m = 8) : wrap64 ((IntKind.u64.wrap n).tmod m) = amongR n m := by
  have hw : IntKind.u64.wrap n = n % 18446744073709551616 := rfl
  have h0 : 0 ≤ n % 18446744073709551616 := by omega
  rw [hw, Int.tmod_eq_emod_of_nonneg h0]
  unfold amongR
  rcases hm with rfl | rfl
  all_goals exact IntWalk.wrap64_in _ (by omega)
theorem amongR_lt (n m : Int) (hm : m = 7 ∨ m = 8) : 0 ≤ amongR n m ∧ amongR n m < m := by
  unfold amongR
  rcases hm with rfl | rfl <;> omega
set_option maxHeartbeats 400000 in
theorem among_any (n m : Int) (w : World) (hm : m = 7 ∨ m = 8) :
    Calls Try.prog 18 #[.int .i64 n, .int .i64 m] w fun e w' => e = .returned (.int .i64 (amongR n m)) ∧ w' = w := by
  have HE := Lib.hid (among_num n m hm)
  rcases hm with rfl | rfl
  all_goals
    go_enter Try.func18, Try.ntmps18
    go_wp2
    go_ret
    refine ⟨?_, rfl⟩
    rw [← HE.out]
    rfl
theorem fields30 : Try.prog.underlying 30 = some (.struct (Try.prog.fieldsOf 30)) := by kernel_rfl
theorem stood30 : Try.prog.stoodInHeld 30 = false := by kernel_rfl
theorem guard30 : Try.prog.eqGuardType Try.prog.depth 30 = false := by kernel_rfl
theorem neq30 (r : Rng) (w : World) : (binOp .neq 30 (.agg #[.string r.nm, .int .i64 r.fr, .int .i64 r.sz, .bool r.wr, .bool r.ex]) (.agg #[.string r.nm, .int .i64 r.fr, .int .i64 r.sz, .bool r.wr, .bool r.ex])).run Try.prog w = .ok (.bool false) w := by
  have u3 := Try.underlying3
  have a3 := Try.isAgg3
  have z3 := Try.sizeOf3
  rw [run_neq_struct, show (10000 : Nat) = 9999 + 1 from rfl, run_equalIn_agg w 9999 30 _ _ fields30 stood30]
  simp only [Program.fieldsOf, Try.underlying30]
  go_simp
set_option maxRecDepth 100000 in
set_option maxHeartbeats 1000000 in
/-- Two lists that read the same are the same. -/
theorem ranges_any (v v' : Value) (rs : List Rng) (w : World) (hv : RSlice w v rs) (hv' : RSlice w v' rs) :
    Calls Try.prog 17 #[v, v'] w fun e w' => e = .returned (.bool true) ∧ Below w.heap.size w w' := by
  obtain ⟨A, cap, rfl, hcap, hmax, _, hcells⟩ := hv
  obtain ⟨A', cap', rfl, hcap', hmax', _, hcells'⟩ := hv'
  have HC := Lib.hid hcells
  have HC' := Lib.hid hcells'
  have hgd := guard30
  clear hcells hcells'
  unfold maxLen at hmax hmax'
  obtain ⟨N, hN⟩ : ∃ N, rs.length = N := ⟨_, rfl⟩
  rw [hN] at hcap hcap' ⊢
  have HN := Lib.hid hN
  clear hN
  go_enter Try.func17, Try.ntmps17
  go_wp2_with fail
  go_loopw [5] (fun i wr => ∃ k : Nat, k ≤ N ∧ i = .int .i64 k ∧ Hid (∃ q, wr = w.drewN q)) (fun i _ => N - (intOf i).toNat)
  case atStart => exact ⟨0, Nat.zero_le _, rfl, 0, rfl⟩
  case round =>
    obtain ⟨k, hk, rfl, HQ⟩ := hrel
    obtain ⟨q, rfl⟩ := HQ.out
    clear HQ
    by_cases hlt : k < N
    · have hkl : k < rs.length := by rw [HN.out]; exact hlt
      obtain ⟨g, off, rfl, hg, hc⟩ := HC.out (by rintro rfl; simp at hkl)
      obtain ⟨g', off', rfl, hg', hc'⟩ := HC'.out (by rintro rfl; simp at hkl)
      obtain ⟨c0, c1, c2, c3, c4⟩ := hc.five hkl
      obtain ⟨d0, d1, d2, d3, d4⟩ := hc'.five hkl
      obtain ⟨r, hr⟩ : ∃ r, rs[k] = r := ⟨_, rfl⟩
      rw [hr] at c0 c1 c2 c3 c4 d0 d1 d2 d3 d4
      have hne := fun w => neq30 r w
      have e5 : (0 : Int) ≤ (k : Int) := by omega
      have e6 : (k : Int) < ((N : Nat) : Int) := by omega
      clear hc hc' hg hg' hr
      go_wp2_with fail
      go_quiet (fail)
      go_wp2_with fail
      go_roundw
      case rel => exact ⟨k + 1, by omega, by go_num, _, rfl⟩
      case measure => simp [intOf]; omega
    · go_wp2_with fail
      go_ret
      exact ⟨rfl, below_dN (Below.refl _ _) _⟩
def RangesPost (ms : List Area) (w : World) (e : Ending) (w' : World) : Prop :=
  ∃ v, e = .returned v ∧ w'.ownsRow w.heap.size 30 5 v ms.length ((ms.map (·.r)).flatMap Rng.cells) ∧ Below w.heap.size w w'
/-- Where the loop of Ranges stands. -/
structure RngL (w : World) (ms : List Area) (k : Nat) (out : Value) (wr : World) : Prop where
  row : wr.ownsRow w.heap.size 30 5 out k (((ms.take k).map (·.r)).flatMap Rng.cells)
  bel : Below w.heap.size w wr
theorem RngL.step {w wr : World} {ms : List Area} {k : Nat} {out : Value} {a : Area} (h : RngL w ms k out wr) (hk : ms[k]? = some a) (hl : ms.length ≤ 16) :
    ∃ v' w2, (Builtin.append_ #[22, 22] 22 #[out, .slice (some ⟨wr.heap.size, 0, none⟩) 1 1]).run Try.prog (wr.alloc (.cells #[.string a.r.nm, .int .i64 a.r.fr, .int .i64 a.r.sz, .bool a.r.wr, .bool a.r.ex] 30)) = .ok v' w2 ∧ RngL w ms (k + 1) v' w2 := by
  obtain ⟨hkl, hka⟩ := List.getElem?_eq_some_iff.1 hk
  obtain ⟨i0, hi, hz0, hz1, hz2⟩ := info_parts info30f
  have hb0 : Below wr.heap.size wr (wr.alloc (.cells #[.string a.r.nm, .int .i64 a.r.fr, .int .i64 a.r.sz, .bool a.r.wr, .bool a.r.ex] 30)) := (Below.refl _ _).alloc (Nat.le_refl _) _
  have hox := ownsRow_keeps h.row (keeps_of_below (fun _ => False) hb0) (fun _ _ e => e)
  obtain ⟨v', w2, hap, ho, hg, _⟩ := run_append_own (P := Try.prog) (wr.alloc (.cells #[.string a.r.nm, .int .i64 a.r.fr, .int .i64 a.r.sz, .bool a.r.wr, .bool a.r.ex] 30)) w.heap.size 22 22 30 i0 (.agg #[.string ⟨#[]⟩, .int .i64 0, .int .i64 0, .bool false, .bool false]) 5 40 Try.underlying22 hi hz0 hz1 hz2 rfl (by decide) out k _ hox
    ⟨wr.heap.size, 0, none⟩ 1 1 a.r.cells rfl (fun j u hj => by
      rw [addr_add, Nat.zero_add, (Blk.new wr 30 _).cell]
      simpa [Rng.cells] using hj) (fun u hu => by
      simp [Rng.cells] at hu
      rcases hu with rfl | rfl | rfl | rfl | rfl <;> rfl) (by unfold maxLen; omega) (by omega) (by have := h.bel.size; simp; omega)
  refine ⟨v', w2, hap, ?_, (h.bel.trans (hb0.mono h.bel.size)).grown hg (by have := h.bel.size; simp; omega) (fun g e => (h.row.lt g e).1)⟩
  rw [List.take_succ_eq_append_getElem hkl, hka, List.map_append, List.flatMap_append]
  simpa using ho
set_option maxRecDepth 100000 in
set_option maxHeartbeats 1000000 in
theorem mranges_any (bm : Nat) (ms : List Area) (w : World) (hm : MemAt w bm ms) : Calls Try.prog 23 #[.pointer (some ⟨bm, 0, none⟩)] w (RangesPost ms w) := by
  obtain ⟨lv, hlv, hown⟩ := hm.top
  have hc0 : w.cell? ⟨bm, 0, none⟩ = some lv := by rw [hlv.cell]; rfl
  have hfew := hm.few
  obtain ⟨A, cap, hlf, hcap, hmax⟩ := slice_form hown
  have HM := Lib.hid hm
  obtain ⟨N, hN⟩ : ∃ N, ms.length = N := ⟨_, rfl⟩
  have HPC := Lib.hid (ptr_cells hm hlv)
  rw [hN] at hfew hcap hlf
  have HN := Lib.hid hN
  have HS : Hid (RngL w ms 0 (.slice none 0 0) w) := ⟨World.ownsRow_nil _ _ _ _, Below.refl _ _⟩
  subst hlf
  clear hm hlv hown hN
  unfold maxLen at hmax
  go_enter Try.func23, Try.ntmps23
  go_wp2_with fail
  go_loopw [3, 11] (fun o i wr => ∃ k : Nat, k ≤ N ∧ i = .int .i64 k ∧ Hid (RngL w ms k o wr)) (fun _ i _ => N - (intOf i).toNat)
  case atStart => exact ⟨0, Nat.zero_le _, rfl, HS.out⟩
  case round =>
    obtain ⟨k, hk, rfl, HR⟩ := hrel
    by_cases hlt : k < N
    · have hkl : k < ms.length := by rw [HN.out]; exact hlt
      obtain ⟨g, cap', he, _, _, cur, hbg, hcur⟩ := HPC.out (by omega)
      rw [HN.out] at he
      cases he
      have hbg2 : Blk wr g 63 cur := hbg.below HR.out.bel hbg.lt
      have hc1 : wr.cell? ⟨g, k, none⟩ = some (ptrV ms[k].b) := by rw [hbg2.cell]; exact hcur k hkl
      have hka : ms[k]? = some ms[k] := List.getElem?_eq_getElem hkl
      have hA := (HM.out.each ms[k] (List.getElem_mem hkl)).keeps (keeps_of_below (fun _ => False) HR.out.bel) (fun e => e) (fun _ _ e => e)
      obtain ⟨a, hak⟩ : ∃ a, ms[k] = a := ⟨_, rfl⟩
      rw [hak] at hc1 hka hA
      unfold ptrV at hc1
      have c0 : wr.cell? ⟨a.b, 0, none⟩ = some (.string a.r.nm) := by rw [hA.blk.cell]; rfl
      have c1 : wr.cell? ⟨a.b, 1, none⟩ = some (.int .i64 a.r.fr) := by rw [hA.blk.cell]; rfl
      have c2 : wr.cell? ⟨a.b, 2, none⟩ = some (.int .i64 a.r.sz) := by rw [hA.blk.cell]; rfl
      have c3 : wr.cell? ⟨a.b, 3, none⟩ = some (.bool a.r.wr) := by rw [hA.blk.cell]; rfl
      have c4 : wr.cell? ⟨a.b, 4, none⟩ = some (.bool a.r.ex) := by rw [hA.blk.cell]; rfl
      obtain ⟨v', w2, hap, hnx⟩ := HR.out.step hka (by have := HN.out; omega)
      have HAP := Lib.hid hap
      have HNX := Lib.hid hnx
      clear hap hnx hka hak hA hbg hbg2 hcur
      have e5 : (0 : Int) ≤ (k : Int) := by omega
      have e6 : (k : Int) < ((N : Nat) : Int) := by omega
      go_wp2_with (at_builtin; refine wpList_append_eq rfl (.tmp 15) (.tmp 21) 22 rfl rfl rfl HAP.out ?_)
      go_roundw
      case rel => exact ⟨k + 1, by omega, by go_num, HNX.out⟩
      case measure => simp [intOf]; omega
    · have hkN : k = N := by omega
      have HFIN : Hid (∀ o, RngL w ms k o wr → RangesPost ms w (.returned o) wr) := fun o ho => by
        have h1 := ho.row
        rw [List.take_of_length_le (by rw [HN.out]; omega)] at h1
        exact ⟨o, rfl, by rw [HN.out, ← hkN]; exact h1, ho.bel⟩
      clear hkN
      go_wp2_with fail
      go_ret
      exact HFIN.out _ HR.out
end Go.Proofs.Ytbffclcjhcbejaa
namespace Go.Proofs.Ytbffclcjhcbejaa
open Go.RowKit
def rG (a : Area) (gs : List (Int × Int)) (j : Nat) : List (Int × Int) := (chgJ a j).foldl rput gs
def rAll (ns : List Area) : List (Int × Int) := (chgD ns).foldl rput []
theorem rG_same {a : Area} {gs : List (Int × Int)} {j : Nat} (h : a.xs.getD j 0 = a.ys.getD j 0) : rG a gs (j + 1) = rG a gs j := by
  unfold rG
  show (if a.xs.getD j 0 = a.ys.getD j 0 then chgJ a j else chgJ a j ++ [a.r.fr + (j : Int)]).foldl rput gs = _
  rw [if_pos h]
theorem rG_put {a : Area} {gs : List (Int × Int)} {j : Nat} (h : ¬ a.xs.getD j 0 = a.ys.getD j 0) : rG a gs (j + 1) = rput (rG a gs j) (a.r.fr + j) := by
  unfold rG
  show (if a.xs.getD j 0 = a.ys.getD j 0 then chgJ a j else chgJ a j ++ [a.r.fr + (j : Int)]).foldl rput gs = _
  rw [if_neg h, List.foldl_append]
  rfl
theorem rAll_snoc (ns : List Area) (a : Area) : rAll (ns ++ [a]) = rG a (rAll ns) a.xs.length := by
  unfold rAll rG chgD
  rw [List.flatMap_append, List.foldl_append]
  simp [chgA]
theorem rput_ok : ∀ {gs : List (Int × Int)} {p : Int}, GapOk gs → 16 ≤ p → p + 1 ≤ 4294967296 → GapOk (rput gs p)
  | [], p, _, h0, h1 => by
    intro x hx
    have e : x = (p, 1) := by simpa [rput] using hx
    subst e
    exact ⟨h0, by simp, h1⟩
  | (f, s) :: r, p, h, h0, h1 => by
    obtain ⟨a1, a2, a3⟩ := h (f, s) (by simp)
    dsimp only at a1 a2 a3
    have hr : GapOk r := fun x hx => h x (by simp [hx])
    by_cases c1 : f + s < p
    · have e : rput ((f, s) :: r) p = (f, s) :: rput r p := by rw [rput.eq_def]; dsimp only; rw [if_pos c1]
      rw [e]
      intro x hx
      rcases List.mem_cons.1 hx with rfl | hx
      · exact ⟨a1, a2, a3⟩
      · exact rput_ok hr h0 h1 x hx
    · by_cases c2 : f + s = p
      · cases r with
        | nil =>
          have e : rput [(f, s)] p = [(f, s + 1)] := by rw [rput.eq_def]; dsimp only; rw [if_neg c1, if_pos c2]
          rw [e]
          intro x hx
          obtain rfl := List.mem_singleton.1 hx
          exact ⟨a1, by dsimp only; omega, by dsimp only; omega⟩
        | cons g' r' =>
          obtain ⟨f', s'⟩ := g'
          obtain ⟨b1, b2, b3⟩ := h (f', s') (by simp)
          dsimp only at b1 b2 b3
          by_cases c3 : f' = p + 1
          · have e : rput ((f, s) :: (f', s') :: r') p = (f, s + 1 + s') :: r' := by rw [rput.eq_def]; dsimp only; rw [if_neg c1, if_pos c2, if_pos c3]
            rw [e]
            intro x hx
            rcases List.mem_cons.1 hx with rfl | hx
            · exact ⟨a1, by dsimp only; omega, by dsimp only; omega⟩
            · exact h x (by simp [hx])
          · have e : rput ((f, s) :: (f', s') :: r') p = (f, s + 1) :: (f', s') :: r' := by rw [rput.eq_def]; dsimp only; rw [if_neg c1, if_pos c2, if_neg c3]
            rw [e]
            intro x hx
            rcases List.mem_cons.1 hx with rfl | hx
            · exact ⟨a1, by dsimp only; omega, by dsimp only; omega⟩
            · exact hr x hx
      · by_cases c3 : f = p + 1
        · have e : rput ((f, s) :: r) p = (p, s + 1) :: r := by rw [rput.eq_def]; dsimp only; rw [if_neg c1, if_neg c2, if_pos c3]
          rw [e]
          intro x hx
          rcases List.mem_cons.1 hx with rfl | hx
          · exact ⟨h0, by dsimp only; omega, by dsimp only; omega⟩
          · exact hr x hx
        · have e : rput ((f, s) :: r) p = (p, 1) :: (f, s) :: r := by rw [rput.eq_def]; dsimp only; rw [if_neg c1, if_neg c2, if_neg c3]
          rw [e]
          intro x hx
          rcases List.mem_cons.1 hx with rfl | hx
          · exact ⟨h0, by simp, h1⟩
          · exact h x hx
theorem rput_len : ∀ (gs : List (Int × Int)) (p : Int), (rput gs p).length ≤ gs.length + 1
  | [], p => by simp [rput]
  | (f, s) :: r, p => by
    rw [rput.eq_def]
    dsimp only
    split
    · have := rput_len r p
      simpa using this
    · split
      · split
        · split <;> simp
        · simp
      · split <;> simp
theorem rG_ok {a : Area} {gs : List (Int × Int)} (h : GapOk gs) (ha : a.r.Ok) : ∀ j : Nat, (j : Int) ≤ a.r.sz → GapOk (rG a gs j)
  | 0, _ => h
  | j + 1, hj => by
    have ih := rG_ok h ha j (by omega)
    obtain ⟨f0, f1, s0, s1, fs⟩ := ha
    by_cases he : a.xs.getD j 0 = a.ys.getD j 0
    · rw [rG_same he]; exact ih
    · rw [rG_put he]; exact rput_ok ih (by omega) (by omega)
theorem rG_len (a : Area) (gs : List (Int × Int)) : ∀ j, (rG a gs j).length ≤ gs.length + j
  | 0 => by simp [rG, chgJ]
  | j + 1 => by
    have ih := rG_len a gs j
    by_cases he : a.xs.getD j 0 = a.ys.getD j 0
    · rw [rG_same he]; omega
    · rw [rG_put he]
      have := rput_len (rG a gs j) (a.r.fr + j)
      omega
/-- Where the loops stand. -/
structure RChgI (w : World) (gs : List (Int × Int)) (out : Value) (wr : World) : Prop where
  shape : ∃ g cap, out = .slice (some ⟨g, 0, none⟩) gs.length cap
  row : wr.ownsRow w.heap.size 40 2 out gs.length (flatG gs)
  bel : Below w.heap.size w wr
  ok : GapOk gs
theorem RChgI.drewN {w wr : World} {gs : List (Int × Int)} {out : Value} (h : RChgI w gs out wr) (q : Nat) : RChgI w gs out (wr.drewN q) := ⟨h.shape, ownsRow_dN h.row q, below_dN h.bel q, h.ok⟩
def RChgPost (ns : List Area) (w : World) (e : Ending) (w' : World) : Prop := ∃ v, e = .returned v ∧ w'.ownsRow w.heap.size 40 2 v (rAll ns).length (flatG (rAll ns)) ∧ Below w.heap.size w w'
theorem RChgI.put {w wr w' : World} {gs : List (Int × Int)} {out : Value} {p : Int} {e : Ending} (h : RChgI w gs out wr) (hp : PutPost w.heap.size (rput gs p) wr e w') (h0 : 16 ≤ p) (h1 : p + 1 ≤ 4294967296) : ∃ v, e = .returned v ∧ RChgI w (rput gs p) v w' := by
  obtain ⟨g', cap', rfl, ho, hk⟩ := hp
  exact ⟨_, rfl, ⟨g', cap', rfl⟩, ho, ((keeps_of_below (fun _ => False) h.bel).trans hk (fun i hi e => by omega)).below, rput_ok h.ok h0 h1⟩
set_option maxRecDepth 100000 in
set_option maxHeartbeats 8000000 in
theorem rchanged_any (bm : Nat) (ns : List Area) (w : World) (hm : RefAt w bm ns) : Calls Try.prog 22 #[.pointer (some ⟨bm, 0, none⟩)] w (RChgPost ns w) := by
  have hbs : ∀ w, (Instr.buildSlice 37 0 #[]).run Try.prog w = .ok (.slice (some ⟨w.heap.size, 0, none⟩) 0 0) (w.alloc (.cells #[] 40)) := fun _ => by kernel_rfl
  have HS : Hid (RChgI w [] (.slice (some ⟨w.heap.size, 0, none⟩) 0 0) (w.alloc (.cells #[] 40))) :=
    ⟨⟨_, _, rfl⟩, ⟨rfl, Or.inr ⟨w.heap.size, 0, #[], rfl, Nat.le_refl _, heap_alloc_new w _, Nat.le_refl _, Nat.zero_le _, rfl, rfl⟩⟩, (Below.refl _ _).alloc (Nat.le_refl _) _, fun x hx => by cases hx⟩
  by_cases hpos : 0 < ns.length
  · obtain ⟨gl, gn, gw, capl, capn, capw, ht⟩ := hm.open_ hpos
    obtain ⟨N, hN⟩ : ∃ N, ns.length = N := ⟨_, rfl⟩
    rw [hN] at ht hpos
    have hN16 : N ≤ 16 := by have := hm.few; omega
    have HN := Lib.hid hN
    have HT := Lib.hid ht
    have HM := Lib.hid hm
    have l1 := ht.l1
    have l2 := ht.l2
    have n1 := ht.n1
    have n2 := ht.n2
    have w1 := ht.w1
    have w2 := ht.w2
    unfold maxLen at l2 n2 w2
    have hbml := hm.lt
    clear ht hm hN
    go_enter Try.func22, Try.ntmps22
    go_wp2_with fail
    go_loopw [3, 4] (fun o i wr => ∃ k : Nat, k ≤ N ∧ i = .int .i64 k ∧ Hid (RChgI w (rAll (ns.take k)) o wr ∧ (rAll (ns.take k)).length ≤ 16777216 * k)) (fun _ i _ => N - (intOf i).toNat)
    case atStart => exact ⟨0, Nat.zero_le _, rfl, HS.out, by simp [rAll, chgD]⟩
    case round =>
      obtain ⟨k, hk, rfl, HR⟩ := hrel
      have c0 := (HR.out.1.bel.cell (p := ⟨bm, 0, none⟩) hbml).trans HT.out.c0
      by_cases hlt : k < N
      · have hkl : k < ns.length := by rw [HN.out]; exact hlt
        have hA := HM.out.each ns[k] (List.getElem_mem hkl)
        have hsn : rAll (ns.take (k + 1)) = rG ns[k] (rAll (ns.take k)) (ns[k]).xs.length := by rw [List.take_succ_eq_append_getElem hkl, rAll_snoc]
        have t1 := HT.out.now k hkl
        have t2 := HT.out.was k hkl
        have t3 : w.cell? ⟨gl, k * 5 + 1, none⟩ = some (.int .i64 ns[k].r.fr) := HT.out.rng k hkl 1 _ rfl
        obtain ⟨a, hak⟩ : ∃ a, ns[k] = a := ⟨_, rfl⟩
        rw [hak] at hA hsn t1 t2 t3
        have hglb : gl < w.heap.size := cell_lt (a := ⟨gl, k * 5 + 1, none⟩) t3
        have hgnb : gn < w.heap.size := cell_lt (a := ⟨gn, k, none⟩) t1
        have hgwb : gw < w.heap.size := cell_lt (a := ⟨gw, k, none⟩) t2
        obtain ⟨L, hL⟩ : ∃ L, a.xs.length = L := ⟨_, rfl⟩
        have hL24 : L ≤ 16777216 := by have := hA.lx; have := hA.ok.s1; omega
        have hLsz : (L : Int) = a.r.sz := by rw [← hL]; exact hA.lx
        have hLy : a.ys.length = L := by have := hA.lx; have := hA.ly; omega
        have hok := hA.ok
        have HOK := Lib.hid hok
        obtain ⟨f0, f1, s0, s1, fs⟩ := hok
        have HA := Lib.hid hA
        have HSN := Lib.hid hsn
        have HL := Lib.hid hL
        have HLY := Lib.hid hLy
        have T1 := Lib.hid t1
        have T2 := Lib.hid t2
        have T3 := Lib.hid t3
        obtain ⟨gs, hgs⟩ : ∃ gs, rAll (ns.take k) = gs := ⟨_, rfl⟩
        rw [hgs] at HR HSN
        clear hA hsn t1 t2 t3 hak hL hLy hgs
        obtain ⟨An, capb, hAn⟩ := brow_shape HA.out.now
        rw [HL.out] at hAn
        have HNV := Lib.hid hAn
        obtain ⟨Aw, capc, hAw⟩ := brow_shape HA.out.was
        rw [HLY.out] at hAw
        have HWV := Lib.hid hAw
        clear hAn hAw
        have e5 : (0 : Int) ≤ (k : Int) := by omega
        have e6 : (k : Int) < ((N : Nat) : Int) := by omega
        go_wp2_with fail
        obtain ⟨wo, hwo⟩ : ∃ wo : World, wo = wr := ⟨_, rfl⟩
        go_loopw [3, 5] (fun o i wi => ∃ j : Nat, j ≤ L ∧ i = .int .i64 j ∧ Hid (RChgI w (rG a gs j) o wi)) (fun _ i _ => L - (intOf i).toNat)
        case atStart => exact ⟨0, Nat.zero_le _, rfl, HR.out.1⟩
        case round =>
          obtain ⟨j, hj, rfl, HI⟩ := hrel
          have d1 := (HI.out.bel.cell (p := ⟨bm, 1, none⟩) hbml).trans HT.out.c1
          have d4 := (HI.out.bel.cell (p := ⟨gn, k, none⟩) hgnb).trans T1.out
          rw [HNV.out] at d4
          by_cases hlt2 : j < L
          · have d0 := (HI.out.bel.cell (p := ⟨bm, 0, none⟩) hbml).trans HT.out.c0
            have d2 := (HI.out.bel.cell (p := ⟨bm, 2, none⟩) hbml).trans HT.out.c2
            have d3 := (HI.out.bel.cell (p := ⟨gl, k * 5 + 1, none⟩) hglb).trans T3.out
            have d5 := (HI.out.bel.cell (p := ⟨gw, k, none⟩) hgwb).trans T2.out
            rw [HWV.out] at d5
            obtain ⟨g, capx, hx, hx1, hx2, hxg, hxc⟩ := brow_at HA.out.now (by rw [HL.out]; omega)
            rw [HNV.out, HL.out] at hx
            cases hx
            obtain ⟨g', capy, hy, hy1, hy2, hyg, hyc⟩ := brow_at HA.out.was (by rw [HLY.out]; omega)
            rw [HWV.out, HLY.out] at hy
            cases hy
            have q1 := hxc j (by rw [HL.out]; exact hlt2)
            have q2 := hyc j (by rw [HLY.out]; exact hlt2)
            have d6 := (HI.out.bel.cell (p := ⟨g, j, none⟩) (cell_lt q1)).trans q1
            have d7 := (HI.out.bel.cell (p := ⟨g', j, none⟩) (cell_lt q2)).trans q2
            have e7 : (0 : Int) ≤ (j : Int) := by omega
            have e8 : (j : Int) < ((L : Nat) : Int) := by omega
            have hlen : (rG a gs j).length ≤ 268435456 := by
              have h1 := rG_len a gs j
              have h2 := HR.out.2
              omega
            have hsame := rG_same (a := a) (gs := gs) (j := j)
            have hput := rG_put (a := a) (gs := gs) (j := j)
            obtain ⟨x, hx⟩ : ∃ x, a.xs.getD j 0 = x := ⟨_, rfl⟩
            obtain ⟨y, hy⟩ : ∃ y, a.ys.getD j 0 = y := ⟨_, rfl⟩
            rw [hx] at d6 hsame hput
            rw [hy] at d7 hsame hput
            obtain ⟨GS, hGS⟩ : ∃ GS, rG a gs j = GS := ⟨_, rfl⟩
            rw [hGS] at HI hsame hput hlen
            clear hGS hx hy hxc hyc q1 q2 hx1 hx2 hxg hy1 hy2 hyg
            by_cases hxy : x = y
            · have HS2 := Lib.hid (hsame hxy)
              clear hsame hput
              subst hxy
              have hb : (x == x) = true := by simp
              go_wp2_with fail
              go_quiet (fail)
              go_wp2_with fail
              go_roundw
              case rel => exact ⟨j + 1, by omega, by go_num, by rw [HS2.out]; exact HI.out.drewN _⟩
              case measure => simp [intOf]; omega
            · have HS2 := Lib.hid (hput hxy)
              have hb : (x == y) = false := by simpa using hxy
              clear hsame hput hxy
              have e1 : IntKind.i64.wrap (a.r.fr + (j : Int)) = a.r.fr + (j : Int) := IntWalk.i64_in _ (by omega)
              obtain ⟨go, capo, rfl⟩ := HI.out.shape
              have HP : Hid (∀ q, Calls Try.prog 48 #[.slice (some ⟨go, 0, none⟩) GS.length capo, .int .i64 (a.r.fr + (j : Int))] (wr.drewN q) (PutPost w.heap.size (rput GS (a.r.fr + (j : Int))) (wr.drewN q))) := fun q =>
                put_any w.heap.size go capo GS (a.r.fr + (j : Int)) (wr.drewN q) (HI.out.drewN q).row (HI.out.drewN q).bel.size HI.out.ok (by omega) (by omega) hlen
              clear hlen
              go_wp2_with fail
              go_quiet (fail)
              go_wp2_with fail
              refine (HP.out _).mono ?_
              intro e w5 hpp
              obtain ⟨v5, rfl, hi5⟩ := (HI.out.drewN _).put hpp (by omega) (by omega)
              have HI5 : Hid (RChgI w (rG a gs (j + 1)) v5 w5) := by show RChgI w (rG a gs (j + 1)) v5 w5; rw [HS2.out]; exact hi5
              clear hpp hi5
              go_wp2_with fail
              go_roundw
              case rel => exact ⟨j + 1, by omega, by go_num, HI5.out⟩
              case measure => simp [intOf]; omega
          · have hjL : j = L := by omega
            have HNX : Hid (∀ o, RChgI w (rG a gs j) o wr → RChgI w (rAll (ns.take (k + 1))) o wr ∧ (rAll (ns.take (k + 1))).length ≤ 16777216 * (k + 1)) := fun o h => by
              rw [HSN.out, HL.out, ← hjL]
              have h1 := rG_len a gs j
              have h2 := HR.out.2
              exact ⟨h, by omega⟩
            clear hjL
            go_wp2_with fail
            go_roundw
            case rel => exact ⟨k + 1, by omega, by go_num, HNX.out _ HI.out⟩
            case measure => simp [intOf]; omega
      · have HFIN : Hid (∀ o, RChgI w (rAll (ns.take k)) o wr → RChgPost ns w (.returned o) wr) := fun o h => by
          rw [List.take_of_length_le (by rw [HN.out]; omega)] at h
          exact ⟨o, rfl, h.row, h.bel⟩
        go_wp2_with fail
        go_ret
        exact HFIN.out _ HR.out.1
  · obtain rfl : ns = [] := by cases ns with | nil => rfl | cons => simp at hpos
    obtain ⟨A1, k1, A2, k2, A3, k3, c0, c1, c2⟩ := hm.none_
    have d0 : (w.alloc (.cells #[] 40)).cell? ⟨bm, 0, none⟩ = some (.slice A1 0 k1) := cell_al c0 _
    have HFIN : Hid (RChgPost [] w (.returned (.slice (some ⟨w.heap.size, 0, none⟩) 0 0)) (w.alloc (.cells #[] 40))) := ⟨_, rfl, HS.out.row, HS.out.bel⟩
    clear hm hpos
    go_enter Try.func22, Try.ntmps22
    go_wp2_with fail
    go_loop [3, 4] (fun o i => o = .slice (some ⟨w.heap.size, 0, none⟩) 0 0 ∧ i = .int .i64 0) (fun _ _ => 0)
    case atStart => exact ⟨rfl, rfl⟩
    case round =>
      obtain ⟨rfl, rfl⟩ := hrel
      go_wp2_with fail
      go_ret
      exact HFIN.out
end Go.Proofs.Ytbffclcjhcbejaa
namespace Go.Proofs.Ytbffclcjhcbejaa
open Go.RowKit
theorem has_key {a b : Area} (h : a.key = b.key) (at_ n : Int) : a.has at_ n = b.has at_ n := by
  unfold Area.key at h
  simp only [Prod.mk.injEq] at h
  unfold Area.has
  rw [h.1]
theorem findA_key : ∀ {ns ms : List Area} (at_ n : Int), ns.map Area.key = ms.map Area.key → (findA ns at_ n).map Area.key = (findA ms at_ n).map Area.key
  | [], [], _, _, _ => rfl
  | [], _ :: _, _, _, h => by simp at h
  | _ :: _, [], _, _, h => by simp at h
  | a :: ns, b :: ms, at_, n, h => by
    simp only [List.map_cons, List.cons.injEq] at h
    have ih := findA_key at_ n h.2
    unfold findA at ih ⊢
    rw [List.find?_cons, List.find?_cons, has_key h.1]
    cases b.has at_ n
    · exact ih
    · simpa using h.1
/-- Either nothing is found in both, or areas of one key. -/
theorem findA_two {ns ms : List Area} (h : ns.map Area.key = ms.map Area.key) (at_ n : Int) : (findA ns at_ n = none ∧ findA ms at_ n = none) ∨ ∃ a b, findA ns at_ n = some a ∧ findA ms at_ n = some b ∧ a.r = b.r ∧ a.xs = b.xs ∧ a.ys = b.ys := by
  have hk := findA_key at_ n h
  cases h1 : findA ns at_ n with
  | none =>
    rw [h1] at hk
    cases h2 : findA ms at_ n with
    | none => exact Or.inl ⟨rfl, rfl⟩
    | some b => rw [h2] at hk; cases hk
  | some a =>
    rw [h1] at hk
    cases h2 : findA ms at_ n with
    | none => rw [h2] at hk; cases hk
    | some b =>
      rw [h2] at hk
      have := Option.some.inj hk
      unfold Area.key at this
      simp only [Prod.mk.injEq] at this
      exact Or.inr ⟨a, b, rfl, rfl, this.1, this.2.1, this.2.2⟩
theorem accR_two {ns ms : List Area} (h : ns.map Area.key = ms.map Area.key) (at_ n : Int) : (∃ e, accR ns at_ n = (e, none) ∧ accR ms at_ n = (e, none)) ∨ ∃ e a b, accR ns at_ n = (e, some a) ∧ accR ms at_ n = (e, some b) ∧ a.r = b.r ∧ a.xs = b.xs ∧ a.ys = b.ys := by
  unfold accR
  by_cases c1 : n ≠ 1 ∧ n ≠ 2 ∧ n ≠ 4
  · rw [if_pos c1, if_pos c1]; exact Or.inl ⟨1, rfl, rfl⟩
  · rw [if_neg c1, if_neg c1]
    by_cases c2 : at_ % n ≠ 0
    · rw [if_pos c2, if_pos c2]; exact Or.inl ⟨31, rfl, rfl⟩
    · rw [if_neg c2, if_neg c2]
      rcases findA_two h at_ n with ⟨h1, h2⟩ | ⟨a, b, h1, h2, h3⟩
      · rw [h1, h2]; exact Or.inl ⟨30, rfl, rfl⟩
      · rw [h1, h2]; exact Or.inr ⟨0, a, b, rfl, rfl, h3⟩
theorem loadR_key {ns ms : List Area} (h : ns.map Area.key = ms.map Area.key) (at_ n : Int) : loadR ns at_ n = loadR ms at_ n := by
  unfold loadR
  rcases accR_two h at_ n with ⟨e, h1, h2⟩ | ⟨e, a, b, h1, h2, h3, h4, _⟩
  · rw [h1, h2]
  · rw [h1, h2]; dsimp only; rw [h3, h4]
theorem fetchR_key {ns ms : List Area} (h : ns.map Area.key = ms.map Area.key) (at_ : Int) : fetchR ns at_ = fetchR ms at_ := by
  unfold fetchR
  rcases accR_two h at_ 4 with ⟨e, h1, h2⟩ | ⟨e, a, b, h1, h2, h3, h4, _⟩
  · rw [h1, h2]
  · rw [h1, h2]; dsimp only; rw [h3, loadR_key h]
theorem readR_key {ns ms : List Area} (h : ns.map Area.key = ms.map Area.key) (at_ n : Int) : readR ns at_ n = readR ms at_ n := by
  unfold readR
  rcases findA_two h at_ n with ⟨h1, h2⟩ | ⟨a, b, h1, h2, h3, h4, _⟩
  · rw [h1, h2]
  · rw [h1, h2]; dsimp only; rw [h3, h4]
theorem ofR_key {ns ms : List Area} (h : ns.map Area.key = ms.map Area.key) (at_ : Int) : ofR ns at_ = ofR ms at_ := by
  unfold ofR
  rcases findA_two h at_ 1 with ⟨h1, h2⟩ | ⟨a, b, h1, h2, h3, h4, _⟩
  · rw [h1, h2]
  · rw [h1, h2]; dsimp only; rw [h3]
theorem updA_key {f : Area → Area} (hf : ∀ a b : Area, a.key = b.key → (f a).key = (f b).key) : ∀ {ns ms : List Area} (at_ n : Int), ns.map Area.key = ms.map Area.key → (updA ns at_ n f).map Area.key = (updA ms at_ n f).map Area.key
  | [], [], _, _, _ => rfl
  | [], _ :: _, _, _, h => by simp at h
  | _ :: _, [], _, _, h => by simp at h
  | a :: ns, b :: ms, at_, n, h => by
    simp only [List.map_cons, List.cons.injEq] at h
    have ih := updA_key hf at_ n h.2
    unfold updA
    rw [has_key h.1]
    cases b.has at_ n
    · simp [h.1, ih]
    · simp [hf a b h.1, h.2]
theorem updA_r {f : Area → Area} (hf : ∀ a : Area, (f a).r = a.r) : ∀ (ms : List Area) (at_ n : Int), (updA ms at_ n f).map (·.r) = ms.map (·.r)
  | [], _, _ => rfl
  | a :: ms, at_, n => by
    have ih := updA_r hf ms at_ n
    unfold updA
    cases a.has at_ n
    · simp [ih]
    · simp [hf a]
theorem putA_key {ns ms : List Area} (h : ns.map Area.key = ms.map Area.key) (at_ n : Int) (cs : List Int) : (putA ns at_ n cs).map Area.key = (putA ms at_ n cs).map Area.key := by
  unfold putA
  refine updA_key (fun a b hab => ?_) at_ n h
  unfold Area.key at hab ⊢
  simp only [Prod.mk.injEq] at hab
  simp [hab.1, hab.2.1, hab.2.2]
theorem putA_r (ms : List Area) (at_ n : Int) (cs : List Int) : (putA ms at_ n cs).map (·.r) = ms.map (·.r) := by
  unfold putA
  refine updA_r ?_ ms at_ n
  intro a
  rfl
theorem storeR_key {ns ms : List Area} (h : ns.map Area.key = ms.map Area.key) (at_ n v : Int) : (storeR ns at_ n v).1 = (storeR ms at_ n v).1 ∧ (storeR ns at_ n v).2.map Area.key = (storeR ms at_ n v).2.map Area.key := by
  unfold storeR
  rcases accR_two h at_ n with ⟨e, h1, h2⟩ | ⟨e, a, b, h1, h2, h3, h4, _⟩
  · rw [h1, h2]; exact ⟨rfl, h⟩
  · rw [h1, h2]
    dsimp only
    rw [h3]
    cases b.r.wr
    · exact ⟨rfl, h⟩
    · exact ⟨rfl, putA_key h at_ n _⟩
theorem storeR_r (ms : List Area) (at_ n v : Int) : (storeR ms at_ n v).2.map (·.r) = ms.map (·.r) := by
  unfold storeR
  split
  · split
    · exact putA_r ms at_ n _
    · rfl
  · rfl
theorem fillR_key {ns ms : List Area} (h : ns.map Area.key = ms.map Area.key) (at_ : Int) (cs : List Int) : (fillR ns at_ cs).1 = (fillR ms at_ cs).1 ∧ (fillR ns at_ cs).2.map Area.key = (fillR ms at_ cs).2.map Area.key := by
  unfold fillR
  by_cases c1 : 16777216 < cs.length
  · rw [if_pos c1, if_pos c1]; exact ⟨rfl, h⟩
  · rw [if_neg c1, if_neg c1]
    by_cases c2 : cs = []
    · rw [if_pos c2, if_pos c2]; exact ⟨rfl, h⟩
    · rw [if_neg c2, if_neg c2]
      rcases findA_two h at_ cs.length with ⟨h1, h2⟩ | ⟨a, b, h1, h2, h3, h4, _⟩
      · rw [h1, h2]; exact ⟨rfl, h⟩
      · rw [h1, h2]; exact ⟨rfl, putA_key h at_ _ cs⟩
theorem fillR_r (ms : List Area) (at_ : Int) (cs : List Int) : (fillR ms at_ cs).2.map (·.r) = ms.map (·.r) := by
  unfold fillR
  split
  · rfl
  · split
    · rfl
    · split
      · rfl
      · exact putA_r ms at_ _ cs
theorem markA_key {ns ms : List Area} (h : ns.map Area.key = ms.map Area.key) : (ns.map markA).map Area.key = (ms.map markA).map Area.key := by
  rw [List.map_map, List.map_map]
  have e : (Area.key ∘ markA) = (fun t : Rng × List Int × List Int => (t.1, t.2.1, t.2.1)) ∘ Area.key := rfl
  rw [e, ← List.map_map, ← List.map_map, h]
theorem RefAt.rows_kind {w : World} {bm : Nat} {ns : List Area} (h : RefAt w bm ns) (g : Nat) (t : TypeId) (cs : Array Value) (hg : g ∈ rowsOf ns) (hb : Blk w g t cs) : t = 5 := by
  obtain ⟨cur, hc⟩ := h.row_blk hg
  exact hb.kind hc
/-- Memory and the document's memory, apart, both made by the call. -/
structure Two (W : World) (bm bn : Nat) (ms ns : List Area) (wr : World) : Prop where
  mem : MemAt wr bm ms
  ref : RefAt wr bn ns
  apart : ∀ g ∈ rowsOf ms, g ∉ rowsOf ns
  mrows : ∀ g ∈ rowsOf ms, W.heap.size ≤ g
  nrows : ∀ g ∈ rowsOf ns, W.heap.size ≤ g
  was : ∀ g, wasBlk wr bn = some g → W.heap.size ≤ g
  bel : Below W.heap.size W wr
section
variable {W wr w' : World} {bm bn : Nat} {ms ns ms' ns' : List Area}
theorem Two.below (h : Two W bm bn ms ns wr) (hb : Below wr.heap.size wr w') : Two W bm bn ms ns w' :=
  ⟨h.mem.below hb, h.ref.below hb, h.apart, h.mrows, h.nrows, fun g hg => h.was g (by rwa [wasBlk_keeps h.ref (keeps_of_below (fun _ => False) hb) (fun e => e)] at hg), h.bel.trans (hb.mono h.bel.size)⟩
theorem Two.drew (h : Two W bm bn ms ns wr) : Two W bm bn ms ns wr.drew := h.below ((Below.refl _ _).drew)
theorem Two.m (h : Two W bm bn ms ns wr) (hm : MemAt w' bm ms') (hk : Keeps (· ∈ rowsOf ms) wr w') (hr : rowsOf ms' = rowsOf ms) : Two W bm bn ms' ns w' := by
  refine ⟨hm, h.ref.other h.mem hk (fun g hg hg2 => h.apart g hg2 hg), by rw [hr]; exact h.apart, by rw [hr]; exact h.mrows, h.nrows, fun g hg => h.was g ?_, ?_⟩
  · rwa [wasBlk_keeps h.ref hk (fun e => ?_)] at hg
    obtain ⟨_, _, _, hb, _⟩ := h.ref.top
    have := h.mem.rows_kind _ _ _ e hb
    cases this
  · exact ((keeps_of_below (fun _ => False) h.bel).trans hk (fun i hi e => by have := h.mrows i e; omega)).below
theorem Two.r (h : Two W bm bn ms ns wr) (hn : RefAt w' bn ns') (hk : Keeps (· ∈ rowsOf ns) wr w') (hr : rowsOf ns' = rowsOf ns) : Two W bm bn ms ns' w' := by
  refine ⟨h.mem.keeps hk (fun g t cs hg hb => h.ref.rows_kind g t cs hg hb) h.apart, hn, by rw [hr]; exact h.apart, h.mrows, by rw [hr]; exact h.nrows, fun g hg => h.was g ?_, ?_⟩
  · rwa [wasBlk_keeps h.ref hk (fun e => ?_)] at hg
    obtain ⟨_, _, _, hb, _⟩ := h.ref.top
    have := h.ref.rows_kind _ _ _ e hb
    cases this
  · exact ((keeps_of_below (fun _ => False) h.bel).trans hk (fun i hi e => by have := h.nrows i e; omega)).below
theorem Two.rmark (h : Two W bm bn ms ns wr) (hn : RefAt w' bn ns') (hk : Keeps (fun g => wasBlk wr bn = some g) wr w') (hr : ∀ g ∈ rowsOf ns', g ∈ rowsOf ns ∨ wr.heap.size ≤ g) (hw : wasBlk w' bn = wasBlk wr bn) : Two W bm bn ms ns' w' := by
  refine ⟨h.mem.keeps2 hk (fun g t cs hg hb => ?_) (fun g hg e => ?_), hn, fun g hg hg2 => ?_, h.mrows, fun g hg => ?_, fun g hg => h.was g (by rwa [hw] at hg), ?_⟩
  · obtain ⟨c, hc⟩ := h.ref.was_kind hg
    obtain rfl := hb.kind hc
    decide
  · obtain ⟨c, hc⟩ := h.ref.was_kind e
    have := h.mem.rows_kind _ _ _ hg hc
    cases this
  · rcases hr g hg2 with h1 | h1
    · exact h.apart g hg h1
    · have := h.mem.row_lt hg
      omega
  · rcases hr g hg with h1 | h1
    · exact h.nrows g h1
    · have := h.bel.size; omega
  · exact ((keeps_of_below (fun _ => False) h.bel).trans hk (fun i hi e => by have := h.was i e; omega)).below
end
/-- What the two memories' areas have in common. -/
structure Alike (rs : List Rng) (ms ns : List Area) : Prop where
  key : ns.map Area.key = ms.map Area.key
  rng : ms.map (·.r) = rs
end Go.Proofs.Ytbffclcjhcbejaa
