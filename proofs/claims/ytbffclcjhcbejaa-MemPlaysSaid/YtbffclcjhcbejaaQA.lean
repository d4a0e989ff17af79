/- Walks over the document's memory: in, access, Load, Fetch, Of. Conditions: RefAt, and what the types grant. -/
import Derived.Test.YtbffclcjhcbejaaM2
import Derived.Test.YtbffclcjhcbejaaL1
import Derived.Test.YtbffclcjhcbejaaL2
namespace Go.Proofs.Ytbffclcjhcbejaa
open Go.RowKit
structure RAreaAt (w : World) (a : Area) : Prop where
  now : BRow w a.now a.xs
  was : BRow w a.was a.ys
  lx : (a.xs.length : Int) = a.r.sz
  ly : (a.ys.length : Int) = a.r.sz
  bx : isBytes a.xs
  bY : isBytes a.ys
  ok : a.r.Ok
structure RefAt (w : World) (bm : Nat) (ns : List Area) : Prop where
  top : ∃ lv nv wv, Blk w bm 83 #[lv, nv, wv] ∧ w.ownsRow 0 30 5 lv ns.length (ns.flatMap fun a => a.r.cells) ∧ w.ownsRow 0 33 1 nv ns.length (ns.map (·.now)) ∧
    w.ownsRow 0 33 1 wv ns.length (ns.map (·.was)) ∧ ∀ g, nv.ownBlock = some g → wv.ownBlock ≠ some g
  each : ∀ a ∈ ns, RAreaAt w a
  apart : (rowsOf ns).Nodup
  few : ns.length ≤ 16
theorem RAreaAt.row_blk {w : World} {a : Area} (h : RAreaAt w a) {g : Nat} (hg : g ∈ a.rows) : ∃ cur, Blk w g 5 cur := by
  rcases List.mem_append.1 hg with hg | hg
  · exact h.now.blk_of hg
  · exact h.was.blk_of hg
theorem RAreaAt.keeps {w w' : World} {F : Nat → Prop} {a : Area} (h : RAreaAt w a) (k : Keeps F w w') (hF : ∀ g ∈ a.rows, ¬ F g) : RAreaAt w' a :=
  { h with
    now := h.now.keeps k fun g hg => hF g (List.mem_append_left _ hg)
    was := h.was.keeps k fun g hg => hF g (List.mem_append_right _ hg) }
theorem RefAt.row_blk {w : World} {bm : Nat} {ns : List Area} (h : RefAt w bm ns) {g : Nat} (hg : g ∈ rowsOf ns) : ∃ cur, Blk w g 5 cur := by
  obtain ⟨a, ha, hg⟩ := List.mem_flatMap.1 hg
  exact (h.each a ha).row_blk hg
theorem RefAt.row_lt {w : World} {bm : Nat} {ns : List Area} (h : RefAt w bm ns) {g : Nat} (hg : g ∈ rowsOf ns) : g < w.heap.size := (h.row_blk hg).elim fun _ hb => hb.lt
theorem owns_kind {w : World} {B size : Nat} {e : TypeId} {v : Value} {n g : Nat} {xs : List Value} (h : w.ownsRow B e size v n xs) (hg : v.ownBlock = some g) : ∃ cur, Blk w g e cur := by
  rcases h.2 with ⟨rfl, _⟩ | ⟨g', cap, cur, rfl, _, hh, _⟩
  · simp [Value.ownBlock] at hg
  · have : g' = g := by simpa [Value.ownBlock] using hg
    subst this
    exact ⟨cur, hh⟩
theorem Blk.kind {w : World} {g : Nat} {t t' : TypeId} {cs cs' : Array Value} (h : Blk w g t cs) (h' : Blk w g t' cs') : t = t' := by
  unfold Blk at h h'
  rw [h] at h'
  injection h' with h'
  injection h'
/-- The document's memory stays, if nothing but rows of bytes that are none of its own is turned. -/
theorem RefAt.keeps {w w' : World} {F : Nat → Prop} {bm : Nat} {ns : List Area} (h : RefAt w bm ns) (k : Keeps F w w')
    (hT : ∀ g t cs, F g → Blk w g t cs → t ≠ 83 ∧ t ≠ 30 ∧ t ≠ 33) (hF : ∀ g ∈ rowsOf ns, ¬ F g) : RefAt w' bm ns := by
  obtain ⟨lv, nv, wv, hb, hl, hn, hw, hd⟩ := h.top
  refine ⟨⟨lv, nv, wv, hb.keeps k (fun hf => (hT _ _ _ hf hb).1 rfl), ownsRow_keeps hl k (fun g hg hf => ?_), ownsRow_keeps hn k (fun g hg hf => ?_), ownsRow_keeps hw k (fun g hg hf => ?_), hd⟩, fun a ha => ?_, h.apart, h.few⟩
  · obtain ⟨cur, hc⟩ := owns_kind hl hg
    exact (hT _ _ _ hf hc).2.1 rfl
  · obtain ⟨cur, hc⟩ := owns_kind hn hg
    exact (hT _ _ _ hf hc).2.2 rfl
  · obtain ⟨cur, hc⟩ := owns_kind hw hg
    exact (hT _ _ _ hf hc).2.2 rfl
  · exact (h.each a ha).keeps k (fun g hg => hF g (List.mem_flatMap.2 ⟨a, ha, hg⟩))
theorem RefAt.below {w w' : World} {bm : Nat} {ns : List Area} (h : RefAt w bm ns) (hb : Below w.heap.size w w') : RefAt w' bm ns :=
  h.keeps (F := fun _ => False) (keeps_of_below _ hb) (fun _ _ _ hf => hf.elim) (fun _ _ hf => hf)
/-- Rows of a memory of the other kind are turned. -/
theorem RefAt.other {w w' : World} {b1 b2 : Nat} {ns ms : List Area} (h : RefAt w b1 ns) (h2 : MemAt w b2 ms) (k : Keeps (· ∈ rowsOf ms) w w') (hd : ∀ g ∈ rowsOf ns, g ∉ rowsOf ms) : RefAt w' b1 ns :=
  h.keeps k (fun g t cs hg hb => by obtain rfl := h2.rows_kind g t cs hg hb; decide) hd
/-- What lies where, for memory of one range at least. -/
structure RTop (w : World) (bm gl gn gw capl capn capw N : Nat) (ns : List Area) : Prop where
  c0 : w.cell? ⟨bm, 0, none⟩ = some (.slice (some ⟨gl, 0, none⟩) N capl)
  c1 : w.cell? ⟨bm, 1, none⟩ = some (.slice (some ⟨gn, 0, none⟩) N capn)
  c2 : w.cell? ⟨bm, 2, none⟩ = some (.slice (some ⟨gw, 0, none⟩) N capw)
  l1 : N ≤ capl
  l2 : capl ≤ maxLen
  n1 : N ≤ capn
  n2 : capn ≤ maxLen
  w1 : N ≤ capw
  w2 : capw ≤ maxLen
  rng : ∀ k (hk : k < ns.length) j u, (rngArr ns[k].r)[j]? = some u → w.cell? ⟨gl, k * 5 + j, none⟩ = some u
  now : ∀ k (hk : k < ns.length), w.cell? ⟨gn, k, none⟩ = some ns[k].now
  was : ∀ k (hk : k < ns.length), w.cell? ⟨gw, k, none⟩ = some ns[k].was
  len : ns.length = N
theorem flatMap_at {α β : Type} (f : α → List β) (c : Nat) (hc : ∀ x, (f x).length = c) : ∀ (l : List α) (k : Nat) (hk : k < l.length) (j : Nat), j < c → (l.flatMap f)[k * c + j]? = (f l[k])[j]?
  | x :: l, 0, _, j, hj => by
    rw [List.flatMap_cons, Nat.zero_mul, Nat.zero_add, List.getElem?_append_left (by rw [hc]; exact hj)]
    rfl
  | x :: l, k + 1, hk, j, hj => by
    rw [List.flatMap_cons, List.getElem?_append_right (by rw [hc, Nat.succ_mul]; omega), hc, show (k + 1) * c + j - c = k * c + j by rw [Nat.succ_mul]; omega,
      flatMap_at f c hc l k (by simpa using hk) j hj]
    rfl
theorem owns_open {w : World} {e : TypeId} {size : Nat} {v : Value} {n : Nat} {xs : List Value} (h : w.ownsRow 0 e size v n xs) (hn : 0 < n) :
    ∃ g cap, v = .slice (some ⟨g, 0, none⟩) n cap ∧ n ≤ cap ∧ cap ≤ maxLen ∧ ∀ j u, xs[j]? = some u → w.cell? ⟨g, j, none⟩ = some u := by
  have hh := h
  rcases h.2 with ⟨rfl, h0⟩ | ⟨g, cap, cur, rfl, _, hb, h1, h2, _⟩
  · omega
  · refine ⟨g, cap, rfl, h1, h2, fun j u hj => ?_⟩
    have := hh.cells (g := g) rfl j u hj
    rwa [addr_add, Nat.zero_add] at this
theorem RefAt.open_ {w : World} {bm : Nat} {ns : List Area} (h : RefAt w bm ns) (hpos : 0 < ns.length) : ∃ gl gn gw capl capn capw, RTop w bm gl gn gw capl capn capw ns.length ns := by
  obtain ⟨lv, nv, wv, hb, hl, hn, hw, hd⟩ := h.top
  obtain ⟨gl, capl, rfl, l1, l2, hcl⟩ := owns_open hl hpos
  obtain ⟨gn, capn, rfl, n1, n2, hcn⟩ := owns_open hn hpos
  obtain ⟨gw, capw, rfl, w1, w2, hcw⟩ := owns_open hw hpos
  refine ⟨gl, gn, gw, capl, capn, capw, ⟨by rw [hb.cell]; rfl, by rw [hb.cell]; rfl, by rw [hb.cell]; rfl, l1, l2, n1, n2, w1, w2, fun k hk j u hj => ?_, fun k hk => ?_, fun k hk => ?_, rfl⟩⟩
  · have hj5 : j < 5 := by
      rcases Nat.lt_or_ge j 5 with h | h
      · exact h
      · rw [Array.getElem?_eq_none (by simpa [rngArr] using h)] at hj; cases hj
    refine hcl _ _ ?_
    rw [flatMap_at (fun a : Area => a.r.cells) 5 (fun _ => rfl) ns k hk j hj5]
    simpa [rngArr, Rng.cells] using hj
  · exact hcn _ _ (by rw [List.getElem?_map, List.getElem?_eq_getElem hk]; rfl)
  · exact hcw _ _ (by rw [List.getElem?_map, List.getElem?_eq_getElem hk]; rfl)
/-- The three cells of memory of no range. -/
theorem RefAt.none_ {w : World} {bm : Nat} (h : RefAt w bm []) : ∃ A1 c1 A2 c2 A3 c3, w.cell? ⟨bm, 0, none⟩ = some (.slice A1 0 c1) ∧ w.cell? ⟨bm, 1, none⟩ = some (.slice A2 0 c2) ∧ w.cell? ⟨bm, 2, none⟩ = some (.slice A3 0 c3) := by
  obtain ⟨lv, nv, wv, hb, hl, hn, hw, hd⟩ := h.top
  obtain ⟨A1, k1, rfl, _⟩ := slice_form hl
  obtain ⟨A2, k2, rfl, _⟩ := slice_form hn
  obtain ⟨A3, k3, rfl, _⟩ := slice_form hw
  exact ⟨A1, k1, A2, k2, A3, k3, by rw [hb.cell]; rfl, by rw [hb.cell]; rfl, by rw [hb.cell]; rfl⟩
theorem RTop.drewN {w : World} {bm gl gn gw capl capn capw N : Nat} {ns : List Area} (h : RTop w bm gl gn gw capl capn capw N ns) (q : Nat) : RTop (w.drewN q) bm gl gn gw capl capn capw N ns :=
  ⟨h.c0, h.c1, h.c2, h.l1, h.l2, h.n1, h.n2, h.w1, h.w2, h.rng, h.now, h.was, h.len⟩
end Go.Proofs.Ytbffclcjhcbejaa
namespace Go.Proofs.Ytbffclcjhcbejaa
open Go.RowKit
/-- What 'in' answers. -/
def InRes (ns : List Area) (at_ n i k : Int) : Prop :=
  (i = -1 ∧ k = 0 ∧ findA ns at_ n = none) ∨
  ∃ (p : Nat) (a : Area), i = p ∧ ns[p]? = some a ∧ k = at_ - a.r.fr ∧ findA ns at_ n = some a ∧ a.has at_ n = true ∧ ∀ x ∈ ns.take p, x.has at_ n = false
theorem in_none {ns : List Area} {at_ n : Int} (h : ∀ x ∈ ns, x.has at_ n = false) : InRes ns at_ n (-1) 0 := by
  refine Or.inl ⟨rfl, rfl, ?_⟩
  unfold findA
  rw [List.find?_eq_none]
  intro x hx
  simp [h x hx]
theorem in_some {ns : List Area} {at_ n : Int} {p : Nat} {a : Area} (hp : ns[p]? = some a) (ha : a.has at_ n = true) (h : ∀ x ∈ ns.take p, x.has at_ n = false) : InRes ns at_ n p (at_ - a.r.fr) := by
  refine Or.inr ⟨p, a, rfl, hp, rfl, ?_, ha, h⟩
  obtain ⟨hl, rfl⟩ := List.getElem?_eq_some_iff.1 hp
  have e : ns = ns.take p ++ (ns[p] :: ns.drop (p + 1)) := by rw [← List.drop_eq_getElem_cons hl, List.take_append_drop]
  conv => lhs; rw [e]
  exact find_of ha h
theorem take_step {ns : List Area} {at_ n : Int} {p : Nat} {a : Area} (hp : ns[p]? = some a) (ha : a.has at_ n = false) (h : ∀ x ∈ ns.take p, x.has at_ n = false) : ∀ x ∈ ns.take (p + 1), x.has at_ n = false := by
  obtain ⟨hl, rfl⟩ := List.getElem?_eq_some_iff.1 hp
  intro x hx
  rw [List.take_succ_eq_append_getElem hl] at hx
  rcases List.mem_append.1 hx with hx | hx
  · exact h x hx
  · obtain rfl : x = ns[p] := by simpa using hx
    exact ha
set_option maxRecDepth 100000 in
set_option maxHeartbeats 4000000 in
theorem in_any (bm : Nat) (ns : List Area) (at_ n : Int) (w : World) (hm : RefAt w bm ns) (h0 : 0 ≤ at_) (h1 : at_ ≤ 4294967295) (h2 : 0 < n) (h3 : n ≤ 16777216) :
    Calls Try.prog 55 #[.pointer (some ⟨bm, 0, none⟩), .int .i64 at_, .int .i64 n] w fun e w' => (∃ i k, e = .returned (.tuple #[.int .i64 i, .int .i64 k]) ∧ InRes ns at_ n i k) ∧ Below w.heap.size w w' := by
  by_cases hpos : 0 < ns.length
  · obtain ⟨gl, gn, gw, capl, capn, capw, ht⟩ := hm.open_ hpos
    obtain ⟨N, hN⟩ : ∃ N, ns.length = N := ⟨_, rfl⟩
    rw [hN] at ht hpos
    have hN16 : N ≤ 16 := by have := hm.few; omega
    have HN := Lib.hid hN
    have HT := Lib.hid ht
    have HM := Lib.hid hm
    have c0 := ht.c0
    have l1 := ht.l1
    have l2 := ht.l2
    unfold maxLen at l2
    clear ht hm hN
    go_enter Try.func55, Try.ntmps55
    go_wp2_with fail
    go_loopw [8] (fun i wr => ∃ k : Nat, k ≤ N ∧ i = .int .i64 k ∧ Hid (∀ x ∈ ns.take k, x.has at_ n = false) ∧ Hid (∃ q, wr = w.drewN q)) (fun i _ => N - (intOf i).toNat)
    case atStart => exact ⟨0, Nat.zero_le _, rfl, (fun x hx => by simp at hx), 0, rfl⟩
    case round =>
      obtain ⟨k, hk, rfl, HF, HQ⟩ := hrel
      obtain ⟨q, rfl⟩ := HQ.out
      clear HQ
      by_cases hlt : k < N
      · have hkl : k < ns.length := by rw [HN.out]; exact hlt
        obtain ⟨a, hak⟩ : ∃ a, ns[k] = a := ⟨_, rfl⟩
        have r1 : w.cell? ⟨gl, k * 5 + 1, none⟩ = some (.int .i64 ns[k].r.fr) := HT.out.rng k hkl 1 _ rfl
        have r2 : w.cell? ⟨gl, k * 5 + 2, none⟩ = some (.int .i64 ns[k].r.sz) := HT.out.rng k hkl 2 _ rfl
        have hok := (HM.out.each ns[k] (List.getElem_mem hkl)).ok
        rw [hak] at r1 r2 hok
        have hp : ns[k]? = some a := by rw [List.getElem?_eq_getElem hkl, hak]
        obtain ⟨f0, f1, s0, s1, fs⟩ := hok
        have HP := Lib.hid hp
        clear hp hak
        have e1 : IntKind.i64.wrap (at_ + n) = at_ + n := IntWalk.i64_in _ (by omega)
        have e2 : IntKind.i64.wrap (a.r.fr + a.r.sz) = a.r.fr + a.r.sz := IntWalk.i64_in _ (by omega)
        have e5 : (0 : Int) ≤ (k : Int) := by omega
        have e6 : (k : Int) < ((N : Nat) : Int) := by omega
        by_cases d1 : a.r.fr ≤ at_
        · by_cases d2 : at_ + n ≤ a.r.fr + a.r.sz
          · have HI : Hid (InRes ns at_ n k (at_ - a.r.fr)) := in_some HP.out (by simp [Area.has, hasB, h2, d1, d2]) HF.out
            go_wp2_with fail
            go_quiet (fail)
            clear e1 e2
            go_wp2_with fail
            go_quiet (fail)
            go_wp2_with fail
            go_ret2
            exact ⟨⟨_, _, by go_num, HI.out⟩, below_dN (below_dN (below_dN (Below.refl _ _) _) _) _⟩
          · have d2' : decide (at_ + n ≤ a.r.fr + a.r.sz) = false := by simpa using d2
            have HS : Hid (∀ x ∈ ns.take (k + 1), x.has at_ n = false) := take_step HP.out (by simp [Area.has, hasB, d2]) HF.out
            go_wp2_with fail
            go_quiet (fail)
            clear e1 e2
            go_wp2_with fail
            go_roundw
            case rel => exact ⟨k + 1, by omega, by go_num, HS.out, _, rfl⟩
            case measure => simp [intOf]; omega
        · have d1' : decide (a.r.fr ≤ at_) = false := by simpa using d1
          have HS : Hid (∀ x ∈ ns.take (k + 1), x.has at_ n = false) := take_step HP.out (by simp [Area.has, hasB, d1]) HF.out
          go_wp2_with fail
          go_quiet (fail)
          clear e1 e2
          go_wp2_with fail
          go_roundw
          case rel => exact ⟨k + 1, by omega, by go_num, HS.out, _, rfl⟩
          case measure => simp [intOf]; omega
      · have HI : Hid (InRes ns at_ n (-1) 0) := in_none (by have := HF.out; rwa [List.take_of_length_le (by rw [HN.out]; omega)] at this)
        go_wp2_with fail
        go_ret2
        exact ⟨⟨_, _, rfl, HI.out⟩, below_dN (Below.refl _ _) _⟩
  · obtain rfl : ns = [] := by cases ns with | nil => rfl | cons => simp at hpos
    obtain ⟨A1, k1, A2, k2, A3, k3, c0, c1, c2⟩ := hm.none_
    have HI : Hid (InRes [] at_ n (-1) 0) := in_none (fun x hx => by cases hx)
    clear hm hpos
    go_enter Try.func55, Try.ntmps55
    go_wp2_with fail
    go_loop [8] (fun i => i = .int .i64 0) (fun _ => 0)
    case atStart => rfl
    case round =>
      subst hrel
      go_wp2_with fail
      go_ret2
      exact ⟨⟨_, _, rfl, HI.out⟩, Below.refl _ _⟩
end Go.Proofs.Ytbffclcjhcbejaa
namespace Go.Proofs.Ytbffclcjhcbejaa
open Go.RowKit
/-- What 'access' answers: the error, and where. -/
def RAcc (ns : List Area) (at_ n i k e : Int) : Prop :=
  (e ≠ 0 ∧ i = 0 ∧ k = 0 ∧ accR ns at_ n = (e, none)) ∨
  e = 0 ∧ ∃ (p : Nat) (a : Area), i = p ∧ ns[p]? = some a ∧ k = at_ - a.r.fr ∧ accR ns at_ n = (0, some a) ∧ a.has at_ n = true ∧ ∀ x ∈ ns.take p, x.has at_ n = false
def RAccPost (ns : List Area) (at_ n : Int) (w : World) (e : Ending) (w' : World) : Prop := (∃ i k er, e = .returned (.tuple #[.int .i64 i, .int .i64 k, .int .i64 er]) ∧ RAcc ns at_ n i k er) ∧ Below w.heap.size w w'
set_option maxRecDepth 100000 in
set_option maxHeartbeats 4000000 in
theorem raccess_num (bm : Nat) (ns : List Area) (at_ n : Int) (w : World) (hm : RefAt w bm ns) (h0 : 0 ≤ at_) (h1 : at_ ≤ 4294967295) (hn : n = 1 ∨ n = 2 ∨ n = 4) :
    Calls Try.prog 53 #[.pointer (some ⟨bm, 0, none⟩), .int .u32 at_, .int .i64 n] w (RAccPost ns at_ n w) := by
  have HM := Lib.hid hm
  clear hm
  have hfin : accR ns at_ n = (if at_ % n ≠ 0 then (31, none) else match findA ns at_ n with | none => (30, none) | some a => (0, some a) : Int × Option Area) := by
    unfold accR; rw [if_neg (by omega)]; rfl
  have HFIN := Lib.hid hfin
  clear hfin
  by_cases hz : at_ % n = 0
  · have hz' : (at_ % n != 0) = false := by simp [hz]
    have hfin2 : accR ns at_ n = (match findA ns at_ n with | none => (30, none) | some a => (0, some a) : Int × Option Area) := by rw [HFIN.out, if_neg (by simp [hz])]
    have HACC := Lib.hid hfin2
    clear hfin2 hz HFIN
    rcases hn with rfl | rfl | rfl
    all_goals
      go_enter Try.func53, Try.ntmps53
      go_wp2_with fail
      refine (in_any bm ns _ _ _ HM.out (by omega) (by omega) (by omega) (by omega)).mono ?_
      rintro e w1 ⟨⟨i, k, rfl, hin⟩, hb⟩
      have HB := Lib.hid hb
      clear hb
      rcases hin with ⟨rfl, rfl, hf⟩ | ⟨p, a, rfl, hp, rfl, hf, ha, hpre⟩
      · have HF := Lib.hid hf
        clear hf
        go_wp2_with fail
        go_ret3
        exact ⟨⟨_, _, _, rfl, Or.inl ⟨by decide, rfl, rfl, by rw [HACC.out, HF.out]⟩⟩, HB.out⟩
      · have HP := Lib.hid (And.intro hp (And.intro hf (And.intro ha hpre)))
        clear hp hf ha hpre
        go_wp2_with fail
        go_ret3
        exact ⟨⟨_, _, _, rfl, Or.inr ⟨rfl, p, a, rfl, HP.out.1, rfl, by rw [HACC.out, HP.out.2.1], HP.out.2.2.1, HP.out.2.2.2⟩⟩, HB.out⟩
  · have hz' : (at_ % n != 0) = true := by simp [hz]
    have hfin2 : accR ns at_ n = (31, none) := by rw [HFIN.out, if_pos hz]
    have HFIN2 := Lib.hid hfin2
    clear hfin2 HFIN
    rcases hn with rfl | rfl | rfl
    · omega
    all_goals
      clear hz
      go_enter Try.func53, Try.ntmps53
      go_wp2_with fail
      go_ret3
      exact ⟨⟨_, _, _, rfl, Or.inl ⟨by decide, rfl, rfl, HFIN2.out⟩⟩, Below.refl _ _⟩
set_option maxHeartbeats 400000 in
theorem raccess_bad (bm : Nat) (ns : List Area) (at_ n : Int) (w : World) (h1 : (n != 1) = true) (h2 : (n != 2) = true) (h3 : (n != 4) = true) :
    Calls Try.prog 53 #[.pointer (some ⟨bm, 0, none⟩), .int .u32 at_, .int .i64 n] w (RAccPost ns at_ n w) := by
  have hfin : accR ns at_ n = (1, none) := by unfold accR; rw [if_pos ⟨by simpa using h1, by simpa using h2, by simpa using h3⟩]
  have HFIN := Lib.hid hfin
  clear hfin
  go_enter Try.func53, Try.ntmps53
  go_wp2_with fail
  go_ret3
  exact ⟨⟨_, _, _, rfl, Or.inl ⟨by decide, rfl, rfl, HFIN.out⟩⟩, Below.refl _ _⟩
theorem raccess_any (bm : Nat) (ns : List Area) (at_ n : Int) (w : World) (hm : RefAt w bm ns) (h0 : 0 ≤ at_) (h1 : at_ ≤ 4294967295) :
    Calls Try.prog 53 #[.pointer (some ⟨bm, 0, none⟩), .int .u32 at_, .int .i64 n] w (RAccPost ns at_ n w) := by
  by_cases hn : n = 1 ∨ n = 2 ∨ n = 4
  · exact raccess_num bm ns at_ n w hm h0 h1 hn
  · exact raccess_bad bm ns at_ n w (by simp; omega) (by simp; omega) (by simp; omega)
/-- A byte of a row. -/
theorem brow_at {w : World} {v : Value} {xs : List Int} (h : BRow w v xs) (hne : 0 < xs.length) : ∃ g cap, v = .slice (some ⟨g, 0, none⟩) xs.length cap ∧ xs.length ≤ cap ∧ cap ≤ maxLen ∧ g ∈ rowBlk v xs ∧ ∀ j, j < xs.length → w.cell? ⟨g, j, none⟩ = some (.int .u8 (xs.getD j 0)) := by
  obtain ⟨A, cap, rfl, h1, h2, h3⟩ := h
  have hn : xs ≠ [] := by rintro rfl; simp at hne
  obtain ⟨g, cur, rfl, hb, hs, ht⟩ := h3 hn
  refine ⟨g, cap, rfl, h1, h2, by simp [rowBlk, hn, Value.ownBlock], fun j hj => ?_⟩
  rw [hb.cell, row_get ht j hj]
  simp [List.getD, hj]
end Go.Proofs.Ytbffclcjhcbejaa
namespace Go.Proofs.Ytbffclcjhcbejaa
open Go.RowKit
theorem cut_cons {xs : List Int} {k d : Nat} (hk : k < xs.length) : cut xs k (d + 1) = xs.getD k 0 :: cut xs (k + 1) d := by
  unfold cut
  rw [List.drop_eq_getElem_cons hk, List.take_succ_cons]
  simp [List.getD, hk]
theorem leW_cons (b : Int) (cs : List Int) : leW (b :: cs) = b + 256 * leW cs := rfl
theorem leW_small : ∀ {cs : List Int}, isBytes cs → cs.length ≤ 3 → 0 ≤ leW cs ∧ leW cs ≤ 16777215
  | [], _, _ => by simp [leW]
  | [a], h, _ => by have := h a (by simp); simp only [leW]; omega
  | [a, b], h, _ => by have := h a (by simp); have := h b (by simp); simp only [leW]; omega
  | [a, b, c], h, _ => by have := h a (by simp); have := h b (by simp); have := h c (by simp); simp only [leW]; omega
  | _ :: _ :: _ :: _ :: _, _, h => by simp at h
theorem getD_bytes {xs : List Int} (h : isBytes xs) (k : Nat) : 0 ≤ xs.getD k 0 ∧ xs.getD k 0 ≤ 255 := by
  by_cases hk : k < xs.length
  · have := h xs[k] (List.getElem_mem hk)
    simpa [List.getD, hk] using this
  · simp [List.getD, hk]
set_option maxRecDepth 100000 in
set_option maxHeartbeats 4000000 in
theorem rload_any (bm : Nat) (ns : List Area) (at_ n : Int) (w : World) (hm : RefAt w bm ns) (h0 : 0 ≤ at_) (h1 : at_ ≤ 4294967295) :
    Calls Try.prog 38 #[.pointer (some ⟨bm, 0, none⟩), .int .u32 at_, .int .i64 n] w fun e w' => e = .returned (.tuple #[.int .u32 (loadR ns at_ n).1, .int .i64 (loadR ns at_ n).2]) ∧ Below w.heap.size w w' := by
  have HM := Lib.hid hm
  clear hm
  go_enter Try.func38, Try.ntmps38
  go_wp2_with fail
  refine (raccess_any bm ns _ _ _ HM.out h0 h1).mono ?_
  rintro e w1 ⟨⟨i, k, er, rfl, hacc⟩, hb⟩
  have HM1 := Lib.hid (HM.out.below hb)
  have HB := Lib.hid hb
  clear hb
  rcases hacc with ⟨he, rfl, rfl, hac⟩ | ⟨rfl, p, a, rfl, hp, rfl, hac, ha, hpre⟩
  · have heb : (er != 0) = true := by simp [he]
    have HR : Hid (loadR ns at_ n = (0, er)) := by show loadR ns at_ n = _; unfold loadR; rw [hac]
    clear he hac
    go_wp2_with fail
    go_ret2
    exact ⟨by rw [HR.out]; rfl, HB.out⟩
  · obtain ⟨_, hn, _, hfa⟩ := accR_some hac
    obtain ⟨hpl, hpa⟩ := List.getElem?_eq_some_iff.1 hp
    have hA := HM1.out.each a (by rw [← hpa]; exact List.getElem_mem hpl)
    obtain ⟨gl, gn, gw, capl, capn, capw, ht⟩ := HM1.out.open_ (by omega)
    have hhas : 0 < n ∧ a.r.fr ≤ at_ ∧ at_ + n ≤ a.r.fr + a.r.sz := (findA_spec hfa).2
    obtain ⟨N, rfl⟩ : ∃ N : Nat, n = (N : Int) := ⟨n.toNat, by omega⟩
    obtain ⟨K, hK⟩ : ∃ K : Nat, at_ - a.r.fr = (K : Int) := ⟨(at_ - a.r.fr).toNat, by omega⟩
    have hlx := hA.lx
    have hKN : K + N ≤ a.xs.length := by omega
    have hN4 : N ≤ 4 := by omega
    have hN1 : 1 ≤ N := by omega
    have HR : Hid (loadR ns at_ (N : Int) = (leW (cut a.xs K N), 0)) := by show loadR ns at_ (N : Int) = _; unfold loadR; rw [hac]; dsimp only; rw [hK]; rfl
    obtain ⟨g, capb, hnow, hb1, hb2, _, hbytes⟩ := brow_at hA.now (by omega)
    have c1 := ht.c1
    have cn := ht.now p hpl
    rw [hpa, hnow] at cn
    have n1 := ht.n1
    have n2 := ht.n2
    have hbx := hA.bx
    obtain ⟨M, hM⟩ : ∃ M, ns.length = M := ⟨_, rfl⟩
    obtain ⟨L, hL⟩ : ∃ L, a.xs.length = L := ⟨_, rfl⟩
    rw [hM] at c1 n1 hpl
    rw [hL] at cn hb1 hKN
    have hM16 : M ≤ 16 := by have := HM1.out.few; omega
    have hL24 : L ≤ 16777216 := by have := hA.ok.s1; omega
    have HBY := Lib.hid hbytes
    have HBX := Lib.hid hbx
    have HL := Lib.hid hL
    rw [hK]
    unfold maxLen at n2 hb2
    clear hbytes hbx hp hpa hA ht hhas hfa hac ha hpre hlx hnow hK hM hL hn
    go_wp2_with fail
    have e1 : IntKind.i64.wrap ((N : Int) - 1) = (N : Int) - 1 := IntWalk.i64_in _ (by omega)
    go_loopw [11, 12] (fun o j wr => ∃ (d : Nat) (W : Int), d ≤ N ∧ j = .int .i64 ((N : Int) - 1 - d) ∧ o = .int .u32 W ∧ Hid (W = leW (cut a.xs (K + (N - d)) d)) ∧ Hid (∃ q, wr = w1.drewN q)) (fun _ j _ => (intOf j + 1).toNat)
    case atStart => exact ⟨0, 0, Nat.zero_le _, by go_num, rfl, by simp [Hid, cut, leW], 0, rfl⟩
    case round =>
      obtain ⟨d, W, hd, rfl, rfl, HW, HQ⟩ := hrel
      obtain ⟨q, rfl⟩ := HQ.out
      clear HQ
      by_cases hlt : d < N
      · have hk1 : K + (N - d - 1) < a.xs.length := by rw [HL.out]; omega
        have hby := HBY.out (K + (N - d - 1)) hk1
        have hx := getD_bytes HBX.out (K + (N - d - 1))
        have hstep : leW (cut a.xs (K + (N - (d + 1))) (d + 1)) = a.xs.getD (K + (N - d - 1)) 0 + 256 * W := by
          rw [show K + (N - (d + 1)) = K + (N - d - 1) by omega, cut_cons hk1, leW_cons, HW.out, show K + (N - d - 1) + 1 = K + (N - d) by omega]
        have hWb : 0 ≤ W ∧ W ≤ 16777215 := by rw [HW.out]; exact leW_small (cut_bytes HBX.out) (by rw [cut_length (by rw [HL.out]; omega)]; omega)
        obtain ⟨x, hxd⟩ : ∃ x, a.xs.getD (K + (N - d - 1)) 0 = x := ⟨_, rfl⟩
        rw [hxd] at hby hx hstep
        have HSTEP := Lib.hid hstep
        obtain ⟨hx0, hx1⟩ := hx
        obtain ⟨hW0, hW1⟩ := hWb
        clear hstep hxd hk1
        have e2 : IntKind.i64.wrap ((K : Int) + ((N : Int) - 1 - d)) = ((K + (N - d - 1) : Nat) : Int) := by rw [IntWalk.i64_in _ (by omega)]; omega
        have e3 : (0 : Int) ≤ (p : Int) := by omega
        have e4 : (p : Int) < ((M : Nat) : Int) := by omega
        obtain ⟨J, hJ⟩ : ∃ J : Nat, K + (N - d - 1) = J := ⟨_, rfl⟩
        rw [hJ] at e2 hby
        have e5 : (0 : Int) ≤ (J : Int) := by omega
        have e6 : (J : Int) < ((L : Nat) : Int) := by omega
        have e7 : (0 : Int) ≤ (N : Int) - 1 - d := by omega
        go_wp2_with fail
        go_roundw
        case rel =>
          refine ⟨d + 1, x + 256 * W, by omega, by go_num, ?_, HSTEP.out.symm, _, rfl⟩
          congr 1
          omega
        case measure => simp [intOf]; omega
      · go_wp2_with fail
        go_ret2
        refine ⟨?_, below_dN HB.out _⟩
        rw [HR.out]
        have hdN : d = N := by omega
        have := HW.out
        rw [hdN, Nat.sub_self, Nat.add_zero] at this
        rw [this]
        rfl
set_option maxRecDepth 100000 in
set_option maxHeartbeats 4000000 in
theorem rfetch_any (bm : Nat) (ns : List Area) (at_ : Int) (w : World) (hm : RefAt w bm ns) (h0 : 0 ≤ at_) (h1 : at_ ≤ 4294967295) :
    Calls Try.prog 40 #[.pointer (some ⟨bm, 0, none⟩), .int .u32 at_] w fun e w' => e = .returned (.tuple #[.int .u32 (fetchR ns at_).1, .int .i64 (fetchR ns at_).2]) ∧ Below w.heap.size w w' := by
  have HM := Lib.hid hm
  clear hm
  go_enter Try.func40, Try.ntmps40
  go_wp2_with fail
  refine (raccess_any bm ns _ _ _ HM.out h0 h1).mono ?_
  rintro e w1 ⟨⟨i, k, er, rfl, hacc⟩, hb⟩
  have HM1 := Lib.hid (HM.out.below hb)
  have HB := Lib.hid hb
  clear hb
  rcases hacc with ⟨he, rfl, rfl, hac⟩ | ⟨rfl, p, a, rfl, hp, rfl, hac, ha, hpre⟩
  · have heb : (er != 0) = true := by simp [he]
    have HR : Hid (fetchR ns at_ = (0, er)) := by show fetchR ns at_ = _; unfold fetchR; rw [hac]
    clear he hac
    go_wp2_with fail
    go_ret2
    exact ⟨by rw [HR.out]; rfl, HB.out⟩
  · obtain ⟨hpl, hpa⟩ := List.getElem?_eq_some_iff.1 hp
    obtain ⟨gl, gn, gw, capl, capn, capw, ht⟩ := HM1.out.open_ (by omega)
    have c0 := ht.c0
    have r4 : w1.cell? ⟨gl, p * 5 + 4, none⟩ = some (.bool ns[p].r.ex) := ht.rng p hpl 4 _ rfl
    rw [hpa] at r4
    have l1 := ht.l1
    have l2 := ht.l2
    unfold maxLen at l2
    obtain ⟨M, hM⟩ : ∃ M, ns.length = M := ⟨_, rfl⟩
    rw [hM] at c0 l1 hpl
    have hM16 : M ≤ 16 := by have := HM1.out.few; omega
    have e3 : (0 : Int) ≤ (p : Int) := by omega
    have e4 : (p : Int) < ((M : Nat) : Int) := by omega
    cases hex : a.r.ex with
    | false =>
      have HR : Hid (fetchR ns at_ = (0, 33)) := by show fetchR ns at_ = _; unfold fetchR; rw [hac]; dsimp only; rw [hex]; rfl
      rw [hex] at r4
      clear hac ha hpre hp hpa hM ht hex
      go_wp2_with fail
      go_ret2
      exact ⟨by rw [HR.out]; rfl, HB.out⟩
    | true =>
      have HR : Hid (fetchR ns at_ = loadR ns at_ 4) := by show fetchR ns at_ = _; unfold fetchR; rw [hac]; dsimp only; rw [hex]; rfl
      rw [hex] at r4
      clear hac ha hpre hp hpa hM ht hex
      go_wp2_with fail
      refine (rload_any bm ns _ _ _ HM1.out h0 h1).mono ?_
      rintro e w2 ⟨rfl, hb2⟩
      have HB2 := Lib.hid (HB.out.trans (hb2.mono HB.out.size))
      clear hb2
      go_wp2_with fail
      go_ret2
      exact ⟨by rw [HR.out]; rfl, HB2.out⟩
/-- Which range, and how far in it. -/
def ofR (ms : List Area) (at_ : Int) : ByteArray × Int × Int :=
  match findA ms at_ 1 with
  | none => (⟨#[]⟩, 0, 30)
  | some a => (a.r.nm, at_ - a.r.fr, 0)
set_option maxRecDepth 100000 in
set_option maxHeartbeats 4000000 in
theorem rof_any (bm : Nat) (ns : List Area) (at_ : Int) (w : World) (hm : RefAt w bm ns) (h0 : 0 ≤ at_) (h1 : at_ ≤ 4294967295) :
    Calls Try.prog 46 #[.pointer (some ⟨bm, 0, none⟩), .int .u32 at_] w fun e w' => e = .returned (.tuple #[.string (ofR ns at_).1, .int .i64 (ofR ns at_).2.1, .int .i64 (ofR ns at_).2.2]) ∧ Below w.heap.size w w' := by
  have HM := Lib.hid hm
  clear hm
  go_enter Try.func46, Try.ntmps46
  go_wp2_with fail
  refine (in_any bm ns _ _ _ HM.out (by omega) (by omega) (by omega) (by omega)).mono ?_
  rintro e w1 ⟨⟨i, k, rfl, hin⟩, hb⟩
  have HM1 := Lib.hid (HM.out.below hb)
  have HB := Lib.hid hb
  clear hb
  rcases hin with ⟨rfl, rfl, hf⟩ | ⟨p, a, rfl, hp, rfl, hf, ha, hpre⟩
  · have HR : Hid (ofR ns at_ = (⟨#[]⟩, 0, 30)) := by show ofR ns at_ = _; unfold ofR; rw [hf]
    clear hf
    go_wp2_with fail
    go_ret3
    exact ⟨by rw [HR.out]; rfl, HB.out⟩
  · have HR : Hid (ofR ns at_ = (a.r.nm, at_ - a.r.fr, 0)) := by show ofR ns at_ = _; unfold ofR; rw [hf]
    obtain ⟨hpl, hpa⟩ := List.getElem?_eq_some_iff.1 hp
    obtain ⟨gl, gn, gw, capl, capn, capw, ht⟩ := HM1.out.open_ (by omega)
    have c0 := ht.c0
    have r0 : w1.cell? ⟨gl, p * 5, none⟩ = some (.string ns[p].r.nm) := ht.rng p hpl 0 _ rfl
    rw [hpa] at r0
    have l1 := ht.l1
    have l2 := ht.l2
    unfold maxLen at l2
    obtain ⟨M, hM⟩ : ∃ M, ns.length = M := ⟨_, rfl⟩
    rw [hM] at c0 l1 hpl
    have hM16 : M ≤ 16 := by have := HM1.out.few; omega
    have e3 : (0 : Int) ≤ (p : Int) := by omega
    have e4 : (p : Int) < ((M : Nat) : Int) := by omega
    clear ha hpre hp hpa hM ht hf
    go_wp2_with fail
    go_ret3
    exact ⟨by rw [HR.out]; rfl, HB.out⟩
set_option maxRecDepth 100000 in
set_option maxHeartbeats 4000000 in
theorem of_any (bm : Nat) (ms : List Area) (at_ : Int) (w : World) (hm : MemAt w bm ms) (h0 : 0 ≤ at_) (h1 : at_ ≤ 4294967295) :
    Calls Try.prog 45 #[.pointer (some ⟨bm, 0, none⟩), .int .u32 at_] w fun e w' => e = .returned (.tuple #[.string (ofR ms at_).1, .int .i64 (ofR ms at_).2.1, .int .i64 (ofR ms at_).2.2]) ∧ Below w.heap.size w w' := by
  have HM := Lib.hid hm
  clear hm
  go_enter Try.func45, Try.ntmps45
  go_wp2_with fail
  refine (find_any _ ms _ _ _ HM.out h0 h1 (by omega)).mono ?_
  rintro e w1 ⟨rfl, hb⟩
  have HM1 := Lib.hid (HM.out.below hb)
  have HB := Lib.hid hb
  clear hb
  cases hf : findA ms at_ 1 with
  | none =>
    have HR : Hid (ofR ms at_ = (⟨#[]⟩, 0, 30)) := by show ofR ms at_ = _; unfold ofR; rw [hf]
    simp only [findV]
    clear hf
    go_wp2_with fail
    go_ret3
    exact ⟨by rw [HR.out]; rfl, HB.out⟩
  | some a =>
    have HR : Hid (ofR ms at_ = (a.r.nm, at_ - a.r.fr, 0)) := by show ofR ms at_ = _; unfold ofR; rw [hf]
    have hA := HM1.out.each a (findA_spec hf).1
    have c0 : w1.cell? ⟨a.b, 0, none⟩ = some (.string a.r.nm) := by rw [hA.blk.cell]; rfl
    simp only [findV]
    clear hf hA
    go_wp2_with fail
    go_ret3
    exact ⟨by rw [HR.out]; rfl, HB.out⟩
end Go.Proofs.Ytbffclcjhcbejaa
