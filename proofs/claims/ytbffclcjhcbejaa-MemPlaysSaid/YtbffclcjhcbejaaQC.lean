/- Walk: the document's Mark. Conditions: RefAt. -/
import Derived.Test.YtbffclcjhcbejaaQB
import Derived.Test.YtbffclcjhcbejaaM1
import Derived.Deep.RegionHeld3
namespace Go.Proofs.Ytbffclcjhcbejaa
open Go.RowKit
/-- The block in which the slices of what was lie. -/
def wasBlk (w : World) (bm : Nat) : Option Nat := (w.cell? ⟨bm, 2, none⟩).bind Value.ownBlock
theorem RefAt.lt {w : World} {bm : Nat} {ns : List Area} (h : RefAt w bm ns) : bm < w.heap.size := by obtain ⟨_, _, _, hb, _⟩ := h.top; exact hb.lt
theorem RefAt.was_kind {w : World} {bm g : Nat} {ns : List Area} (h : RefAt w bm ns) (hg : wasBlk w bm = some g) : ∃ cur, Blk w g 33 cur := by
  obtain ⟨lv, nv, wv, hb, hl, hn, hw, hd⟩ := h.top
  have : w.cell? ⟨bm, 2, none⟩ = some wv := by rw [hb.cell]; rfl
  unfold wasBlk at hg
  rw [this] at hg
  exact owns_kind hw hg
theorem wasBlk_keeps {w w' : World} {F : Nat → Prop} {bm : Nat} {ns : List Area} (h : RefAt w bm ns) (k : Keeps F w w') (hF : ¬ F bm) : wasBlk w' bm = wasBlk w bm := by
  unfold wasBlk
  rw [k.cell (p := ⟨bm, 2, none⟩) h.lt hF]
/-- Memory stays, if blocks of other kinds are turned. -/
theorem MemAt.keeps2 {w w' : World} {F : Nat → Prop} {bm : Nat} {ms : List Area} (h : MemAt w bm ms) (k : Keeps F w w')
    (hT : ∀ g t cs, F g → Blk w g t cs → t ≠ 62 ∧ t ≠ 63 ∧ t ≠ 67) (hF : ∀ g ∈ rowsOf ms, ¬ F g) : MemAt w' bm ms := by
  obtain ⟨v, hv, ho⟩ := h.top
  refine ⟨⟨v, hv.keeps k (fun hf => (hT _ _ _ hf hv).1 rfl), ownsRow_keeps ho k (fun g hg hf => ?_)⟩, fun a ha => ?_, h.apart, h.few⟩
  · obtain ⟨cur, hc⟩ := owns_kind ho hg
    exact (hT _ _ _ hf hc).2.1 rfl
  · exact (h.each a ha).keeps k (fun hf => (hT _ _ _ hf (h.each a ha).blk).2.2 rfl) (fun g hg => hF g (List.mem_flatMap.2 ⟨a, ha, hg⟩))
/-- One of the slices of what was is replaced. -/
theorem RefAt.was_put {w W : World} {bm gw : Nat} {pre post : List Area} {a : Area} {v : Value} (h : RefAt w bm (pre ++ a :: post)) (hW : Below w.heap.size w W) (hv : BRow W v a.xs) (hrows : ∀ g ∈ rowBlk v a.xs, w.heap.size ≤ g)
    (hgw : wasBlk w bm = some gw) :
    RefAt (W.setCell ⟨gw, pre.length, none⟩ v) bm (pre ++ { a with was := v, ys := a.xs } :: post) ∧ ∀ g ∈ rowsOf (pre ++ { a with was := v, ys := a.xs } :: post), g ∈ rowsOf (pre ++ a :: post) ∨ w.heap.size ≤ g := by
  have hr := h.below hW
  obtain ⟨curg, hg33⟩ := h.was_kind hgw
  have hgW : Blk W gw 33 curg := hg33.below hW hg33.lt
  obtain ⟨lv, nv, wv, hb, hl, hn, hw, hd⟩ := hr.top
  have hob : wv.ownBlock = some gw := by
    have h1 : W.cell? ⟨bm, 2, none⟩ = some wv := by rw [hb.cell]; rfl
    have h2 : wasBlk W bm = wasBlk w bm := wasBlk_keeps h (keeps_of_below (fun _ => False) hW) (fun e => e)
    unfold wasBlk at h2
    rw [h1] at h2
    exact h2.trans hgw
  have hk : Keeps (· = gw) W (W.setCell ⟨gw, pre.length, none⟩ v) := (Keeps.refl (fun x => x = gw) W).setCell (p := ⟨gw, pre.length, none⟩) (Or.inr rfl) v
  have hT : ∀ {b : Nat} {t : TypeId} {cs : Array Value}, Blk W b t cs → t ≠ 33 → ¬ (b = gw) := fun h1 h2 => h1.ne_ hgW h2
  have hrow5 : ∀ (x : Area), RAreaAt W x → ∀ g ∈ x.rows, ¬ (g = gw) := fun x hx g hg => by
    obtain ⟨c, hc⟩ := hx.row_blk hg
    exact hT hc (by decide)
  have hvB : ∀ g ∈ rowBlk v a.xs, ¬ (g = gw) := fun g hg => by
    obtain ⟨c, hc⟩ := hv.blk_of hg
    exact hT hc (by decide)
  have hlt : ∀ g ∈ rowsOf (pre ++ a :: post), g < w.heap.size := fun g hg => h.row_lt hg
  have hnd1 : (rowBlk v a.xs).Nodup := by
    unfold rowBlk
    split
    · exact List.nodup_nil
    · cases v.ownBlock <;> simp
  refine ⟨⟨⟨lv, nv, wv, hb.keeps hk (hT hb (by decide)), ?_, ?_, ?_, hd⟩, fun x hx => ?_, ?_, ?_⟩, fun g hg => ?_⟩
  · have := ownsRow_keeps hl hk (fun g' hg' => by obtain ⟨c, hc⟩ := owns_kind hl hg'; exact hT hc (by decide))
    simpa using this
  · have := ownsRow_keeps hn hk (fun g' hg' e => by subst e; exact hd g' hg' hob)
    simpa using this
  · rcases hw.2 with ⟨rfl, _⟩ | ⟨g', cap, cur, rfl, hbs, hh, h1, h2, h3, h4⟩
    · simp [Value.ownBlock] at hob
    · have e : g' = gw := by simpa [Value.ownBlock] using hob
      subst e
      have hset : Blk _ g' 33 _ := Blk.set_ (t := 33) hh pre.length v
      refine ⟨by simp, Or.inr ⟨g', cap, _, by simp, hbs, hset, by simpa using h1, h2, by simpa using h3, ?_⟩⟩
      rw [Nat.mul_one] at h4 ⊢
      rw [Array.toList_setIfInBounds]
      have e1 : (pre ++ { a with was := v, ys := a.xs } :: post).length = (pre ++ a :: post).length := by simp
      rw [e1, List.take_set, h4]
      simp [List.set_append]
  · rcases List.mem_append.1 hx with hx | hx
    · have h1 := hr.each x (by simp [hx])
      exact h1.keeps hk (hrow5 x h1)
    · rcases List.mem_cons.1 hx with rfl | hx
      · have h1 := hr.each a (by simp)
        exact ⟨h1.now.keeps hk (fun g hg => hrow5 a h1 g (List.mem_append_left _ hg)), hv.keeps hk hvB, h1.lx, h1.lx, h1.bx, h1.bx, h1.ok⟩
      · have h1 := hr.each x (by simp [hx])
        exact h1.keeps hk (hrow5 x h1)
  · have hap := h.apart
    unfold rowsOf at hap ⊢
    rw [List.flatMap_append, List.flatMap_cons] at hap ⊢
    rw [List.nodup_append] at hap ⊢
    obtain ⟨n1, n2, n3⟩ := hap
    rw [List.nodup_append] at n2 ⊢
    obtain ⟨n4, n5, n6⟩ := n2
    unfold Area.rows at n3 n4 n6 ⊢
    rw [List.nodup_append] at n4 ⊢
    have hold : ∀ g, (g ∈ pre.flatMap Area.rows ∨ g ∈ rowBlk a.now a.xs ∨ g ∈ post.flatMap Area.rows) → g < w.heap.size := fun g hg => hlt g (by
      unfold rowsOf Area.rows
      rw [List.flatMap_append, List.flatMap_cons]
      rcases hg with hg | hg | hg
      · exact List.mem_append_left _ hg
      · exact List.mem_append_right _ (List.mem_append_left _ (List.mem_append_left _ hg))
      · exact List.mem_append_right _ (List.mem_append_right _ hg))
    refine ⟨n1, ⟨⟨n4.1, hnd1, fun x hx y hy e => ?_⟩, n5, fun x hx y hy => ?_⟩, fun x hx y hy => ?_⟩
    · have := hold x (Or.inr (Or.inl hx)); have := hrows y hy; omega
    · rcases List.mem_append.1 hx with hx | hx
      · exact n6 x (List.mem_append_left _ hx) y hy
      · intro e; have := hold y (Or.inr (Or.inr hy)); have := hrows x hx; omega
    · rcases List.mem_append.1 hy with hy | hy
      · rcases List.mem_append.1 hy with hy | hy
        · exact n3 x hx y (List.mem_append_left _ (List.mem_append_left _ hy))
        · intro e; have := hold x (Or.inl hx); have := hrows y hy; omega
      · exact n3 x hx y (List.mem_append_right _ hy)
  · have := h.few
    simpa using this
  · unfold rowsOf at hg ⊢
    rw [List.flatMap_append, List.flatMap_cons] at hg ⊢
    rcases List.mem_append.1 hg with hg | hg
    · exact Or.inl (List.mem_append_left _ hg)
    · rcases List.mem_append.1 hg with hg | hg
      · unfold Area.rows at hg
        rcases List.mem_append.1 hg with hg | hg
        · exact Or.inl (List.mem_append_right _ (List.mem_append_left _ (List.mem_append_left _ hg)))
        · exact Or.inr (hrows g hg)
      · exact Or.inl (List.mem_append_right _ (List.mem_append_right _ hg))
end Go.Proofs.Ytbffclcjhcbejaa
namespace Go.Proofs.Ytbffclcjhcbejaa
open Go.RowKit
structure RMarkR (w : World) (bm : Nat) (ns : List Area) (k : Nat) (ns' : List Area) (wr : World) : Prop where
  mem : RefAt wr bm ns'
  key : ns'.map Area.key = (markK ns k).map Area.key
  keeps : Keeps (fun g => wasBlk w bm = some g) w wr
  rows : ∀ g ∈ rowsOf ns', g ∈ rowsOf ns ∨ w.heap.size ≤ g
  was : wasBlk wr bm = wasBlk w bm
def RMarkPost (bm : Nat) (ns : List Area) (w : World) (e : Ending) (w' : World) : Prop :=
  e = .returned (.tuple #[]) ∧ ∃ ns', RefAt w' bm ns' ∧ ns'.map Area.key = (ns.map markA).map Area.key ∧ Keeps (fun g => wasBlk w bm = some g) w w' ∧ (∀ g ∈ rowsOf ns', g ∈ rowsOf ns ∨ w.heap.size ≤ g) ∧ wasBlk w' bm = wasBlk w bm
theorem RMarkR.step {w wr w2 : World} {bm gw k : Nat} {ns ns' : List Area} {a : Area} {v : Value} (h : RMarkR w bm ns k ns' wr) (hk : ns'[k]? = some a) (hb : Below wr.heap.size wr w2) (hv : BRow w2 v a.xs) (hr : ∀ g ∈ rowBlk v a.xs, wr.heap.size ≤ g) (hgw : wasBlk wr bm = some gw) :
    ∃ ns2, RMarkR w bm ns (k + 1) ns2 (w2.setCell ⟨gw, k, none⟩ v) := by
  obtain ⟨hl, rfl⟩ := List.getElem?_eq_some_iff.1 hk
  have e : ns' = ns'.take k ++ (ns'[k] :: ns'.drop (k + 1)) := by rw [← List.drop_eq_getElem_cons hl, List.take_append_drop]
  have hpl : (ns'.take k).length = k := by rw [List.length_take]; omega
  have hm := h.mem
  rw [e] at hm
  obtain ⟨q1, q2⟩ := hm.was_put hb hv hr hgw
  rw [hpl] at q1
  refine ⟨_, q1, ?_, ?_, fun g hg => ?_, ?_⟩
  · have hkn : k < ns.length := by
      have := congrArg List.length h.key
      simp [markK] at this
      omega
    have hkey := h.key
    obtain ⟨m1, m2⟩ := markK_at (List.getElem?_eq_getElem hkn)
    rw [m1, List.map_append, List.map_cons] at hkey
    rw [m2, List.map_append, List.map_cons]
    rw [e, List.map_append, List.map_cons] at hkey
    have hlen : ((ns'.take k).map Area.key).length = (((ns.take k).map markA).map Area.key).length := by simp; omega
    obtain ⟨k1, k2⟩ := List.append_inj hkey hlen
    rw [List.cons.injEq] at k2
    have ka := k2.1
    unfold Area.key at ka
    simp only [Prod.mk.injEq] at ka
    rw [List.map_append, List.map_cons, k1, k2.2]
    unfold Area.key markA
    rw [ka.1, ka.2.1]
  · refine h.keeps.trans ((keeps_of_below (fun g => wasBlk w bm = some g) hb).setCell (p := ⟨gw, k, none⟩) (Or.inr (h.was.symm.trans hgw)) v) (fun i _ e => e)
  · rcases q2 g hg with h1 | h1
    · rw [← e] at h1
      exact h.rows g h1
    · exact Or.inr (Nat.le_trans h.keeps.size h1)
  · rw [wasBlk_keeps h.mem ((keeps_of_below (fun g => wasBlk w bm = some g) hb).setCell (p := ⟨gw, k, none⟩) (Or.inr (h.was.symm.trans hgw)) v) (fun e => ?_)]
    · exact h.was
    · obtain ⟨lv, nv, wv, hb2, _⟩ := h.mem.top
      obtain ⟨cur, hc⟩ := h.mem.was_kind (h.was.trans e)
      exact hc.ne_ hb2 (by decide) rfl
theorem RMarkR.drew {w wr : World} {bm k : Nat} {ns ns' : List Area} (h : RMarkR w bm ns k ns' wr) : RMarkR w bm ns k ns' wr.drew :=
  ⟨h.mem.below ((Below.refl _ _).drew), h.key, h.keeps.drew, h.rows, h.was⟩
set_option maxRecDepth 100000 in
set_option maxHeartbeats 4000000 in
theorem rmark_any (bm : Nat) (ns : List Area) (w : World) (hm : RefAt w bm ns) : Calls Try.prog 47 #[.pointer (some ⟨bm, 0, none⟩)] w (RMarkPost bm ns w) := by
  have HM := Lib.hid hm
  clear hm
  by_cases hpos : 0 < ns.length
  · obtain ⟨N, hN⟩ : ∃ N, ns.length = N := ⟨_, rfl⟩
    have hN16 : N ≤ 16 := by have := HM.out.few; omega
    have HN := Lib.hid hN
    rw [hN] at hpos
    have HR0 : Hid (RMarkR w bm ns 0 ns w) := ⟨HM.out, by rw [markK_zero], Keeps.refl _ _, fun g hg => Or.inl hg, rfl⟩
    clear hN
    go_enter Try.func47, Try.ntmps47
    go_wp2_with fail
    go_loopw [2] (fun i wr => ∃ (k : Nat) (ns' : List Area), k ≤ N ∧ i = .int .i64 k ∧ Hid (RMarkR w bm ns k ns' wr)) (fun i _ => N - (intOf i).toNat)
    case atStart => exact ⟨0, ns, Nat.zero_le _, rfl, HR0.out⟩
    case round =>
      obtain ⟨k, ns', hk, rfl, HR⟩ := hrel
      have hlen : ns'.length = N := by
        have h1 := congrArg List.length HR.out.key
        have h2 := HN.out
        simp [markK] at h1
        omega
      obtain ⟨gl, gn, gw, capl, capn, capw, ht⟩ := HR.out.mem.open_ (by omega)
      rw [hlen] at ht
      have c1 := ht.c1
      have n1 := ht.n1
      have n2 := ht.n2
      unfold maxLen at n2
      by_cases hlt : k < N
      · have hkl : k < ns'.length := by omega
        obtain ⟨a, hak⟩ : ∃ a, ns'[k] = a := ⟨_, rfl⟩
        have hp : ns'[k]? = some a := by rw [List.getElem?_eq_getElem hkl, hak]
        have hA := HR.out.mem.each a (by rw [← hak]; exact List.getElem_mem hkl)
        have c2 := ht.c2
        have cn := ht.now k hkl
        have cw := ht.was k hkl
        rw [hak] at cn cw
        have w1 := ht.w1
        have w2 := ht.w2
        unfold maxLen at w2
        have hgw : wasBlk wr bm = some gw := by unfold wasBlk; rw [c2]; rfl
        obtain ⟨cur, hcur⟩ := HR.out.mem.was_kind hgw
        have HSL : Hid (BSl wr a.now a.xs) := hA.now.sl hA.bx
        have hL24 : a.xs.length ≤ 16777216 := by have := hA.lx; have := hA.ok.s1; omega
        obtain ⟨A, capA, hAn⟩ := brow_shape hA.now
        obtain ⟨wv, hwv⟩ : ∃ wv, a.was = wv := ⟨_, rfl⟩
        rw [hwv] at cw
        rw [hAn] at cn HSL
        have HCUR := Lib.hid hcur
        have HP := Lib.hid hp
        have HGW := Lib.hid hgw
        have hgwlt := hcur.lt
        have hbmlt : bm < wr.heap.size := cell_lt (a := ⟨bm, 1, none⟩) c1
        have hgnlt : gn < wr.heap.size := cell_lt (a := ⟨gn, k, none⟩) cn
        have hbmgw : bm ≠ gw := by obtain ⟨lv, nv, wv, hbx, _⟩ := HR.out.mem.top; exact hbx.ne_ hcur (by decide)
        have hgngw : gn ≠ gw := by
          obtain ⟨lv, nv, wvv, hbx, _, _, _, hd⟩ := HR.out.mem.top
          have q1 : wr.cell? ⟨bm, 1, none⟩ = some nv := by rw [hbx.cell]; rfl
          have q2 : wr.cell? ⟨bm, 2, none⟩ = some wvv := by rw [hbx.cell]; rfl
          rw [c1] at q1
          rw [c2] at q2
          have q3 := Option.some.inj q1
          have q4 := Option.some.inj q2
          intro e
          exact hd gn (by rw [← q3]; rfl) (by rw [← q4, e]; rfl)
        have hwr1 : wr.drew.heap.size = wr.heap.size := rfl
        have HRD := Lib.hid HR.out.drew
        have HSLD : Hid (BSl wr.drew (.slice A a.xs.length capA) a.xs) := HSL.out.below ((Below.refl _ _).drew)
        have HCWD : Hid (wr.drew.cell? ⟨gw, k, none⟩ = some wv) := cw
        have HCURD : Hid (Blk wr.drew gw 33 cur) := HCUR.out
        clear ht hp hak hA hAn hwv hcur hgw hlen hwr1
        have e1 : (0 : Int) ≤ (k : Int) := by omega
        have e2 : (k : Int) < ((N : Nat) : Int) := by omega
        go_wp2_with fail
        go_region_held3 (fun w' => w'.cell? ⟨bm, 1, none⟩ = some (.slice (some ⟨gn, 0, none⟩) N capn) ∧ w'.cell? ⟨bm, 2, none⟩ = some (.slice (some ⟨gw, 0, none⟩) N capw) ∧ w'.cell? ⟨gn, k, none⟩ = some (.slice A a.xs.length capA)) (first | go_keep | exact ⟨t1, t2, t3⟩)
          (first | (go_at_call 43; refine (bytes43 _ _ _ HSLD.out (by omega)).mono ?_; rintro e wz ⟨v, rfl, ho, hb2⟩; obtain ⟨hv1, hv2⟩ := brow_of_owns ho; obtain ⟨Av, capv, rfl⟩ := brow_shape hv1
                    have d1 : wz.cell? ⟨gw, k, none⟩ = some wv := (hb2.cell (p := ⟨gw, k, none⟩) HCURD.out.lt).trans HCWD.out
                    have d2 : wz.frozen? ⟨gw, k, none⟩ = false := (HCURD.out.below hb2 HCURD.out.lt).frozen k
                    have s1 : wz.cell? ⟨bm, 1, none⟩ = some (.slice (some ⟨gn, 0, none⟩) N capn) := (hb2.cell (p := ⟨bm, 1, none⟩) hbmlt).trans c1
                    have s2 : wz.cell? ⟨bm, 2, none⟩ = some (.slice (some ⟨gw, 0, none⟩) N capw) := (hb2.cell (p := ⟨bm, 2, none⟩) hbmlt).trans c2
                    have s3 : wz.cell? ⟨gn, k, none⟩ = some (.slice A a.xs.length capA) := (hb2.cell (p := ⟨gn, k, none⟩) hgnlt).trans cn
                    have t1 := (World.cell?_of_block (a := ⟨bm, 1, none⟩) (Below.heap_setCell wz ⟨gw, k, none⟩ (.slice Av a.xs.length capv) bm hbmgw)).trans s1
                    have t2 := (World.cell?_of_block (a := ⟨bm, 2, none⟩) (Below.heap_setCell wz ⟨gw, k, none⟩ (.slice Av a.xs.length capv) bm hbmgw)).trans s2
                    have t3 := (World.cell?_of_block (a := ⟨gn, k, none⟩) (Below.heap_setCell wz ⟨gw, k, none⟩ (.slice Av a.xs.length capv) gn hgngw)).trans s3
                    obtain ⟨ns2, hns2⟩ := HRD.out.step HP.out hb2 hv1 hv2 (HRD.out.was.trans (HR.out.was.symm.trans HGW.out))
                    have HNS2 := Lib.hid hns2
                    clear ho hb2 hv1 hv2 hns2))
        go_wp2_with fail
        go_roundw
        case rel => exact ⟨k + 1, ns2, by omega, by go_num, HNS2.out⟩
        case measure => simp [intOf]; omega
      · have HFIN : Hid (RMarkPost bm ns w (.returned (.tuple #[])) wr) := by
          refine ⟨rfl, ns', HR.out.mem, ?_, HR.out.keeps, HR.out.rows, HR.out.was⟩
          rw [HR.out.key, markK_all ns (by rw [HN.out]; omega)]
        clear ht
        go_wp2_with fail
        go_end0
        exact HFIN.out
  · obtain rfl : ns = [] := by cases ns with | nil => rfl | cons => simp at hpos
    obtain ⟨A1, k1, A2, k2, A3, k3, c0, c1, c2⟩ := HM.out.none_
    have HFIN : Hid (RMarkPost bm [] w (.returned (.tuple #[])) w) := ⟨rfl, [], HM.out, rfl, Keeps.refl _ _, fun g hg => Or.inl hg, rfl⟩
    clear hpos
    go_enter Try.func47, Try.ntmps47
    go_wp2_with fail
    go_loop [2] (fun i => i = .int .i64 0) (fun _ => 0)
    case atStart => rfl
    case round =>
      subst hrel
      go_wp2_with fail
      go_end0
      exact HFIN.out
end Go.Proofs.Ytbffclcjhcbejaa
