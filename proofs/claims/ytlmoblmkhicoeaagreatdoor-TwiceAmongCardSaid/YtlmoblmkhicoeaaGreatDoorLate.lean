/- Walks: found. Conditions: the table of keywords; small parts. A region that draws its order, whose last operation (which waits for all others) may turn what the others read: a condition S is shown behind every operation but that one. No conditions. -/
import Derived.Test.YtlmoblmkhicoeaaGreatDoorP7
import Derived.Test.YtlmoblmkhicoeaaGreatDoorOwn
import Derived.Deep.RegionHeld3
import Derived.StillTail
set_option linter.unusedVariables false
set_option linter.unusedSimpArgs false
namespace Go.Proofs.YtlmoblmkhicoeaaGreatDoor
open Go.RowKit
theorem step_append_ex {P : Program} {w : World} {ops : Array Oper} {o : Oper} {a : Act} {K : Act → World → Prop} {Q : Exit → Act → World → Prop} {E : Prop} {R : Value → World → Prop} (hgd : o.guard = none) (s x : Operand) (t : TypeId)
    (ho : o.op = .call { callee := .builtin .append, args := #[s, x], argTypes := #[t, t] }) {v u : Value} (hs : a.eval s = v) (hx : a.eval x = u)
    (hr : ∃ v' w', (Builtin.append_ #[t, t] o.type #[v, u]).run P w = .ok v' w' ∧ R v' w') (h : ∀ v' w', R v' w' → K (a.put o.dst v') w') : if Region.wanted o (yielded ops a.tmps) = true then Oper.wp P o a w K Q else E := by
  obtain ⟨v', w', h1, h2⟩ := hr
  exact step_append_eq hgd s x t ho hs hx h1 (h v' w' h2)
/-- Before found's first turn: k sets, all empty. -/
structure FdS (w : World) (wb : World) (F : Fn) (sv bv : Value) (gl gg : Nat) (m : Nat) (inv : Value) (gs : List Nat) (k : Nat) (W : World) : Prop where
  s : LvS wb gl gg k m inv gs (ins0 k) W
  bx : Blk W w.heap.size 25 (fnA F sv bv)
  lt : ∀ g ∈ gs, g < W.heap.size
  bw : w.heap.size < wb.heap.size
  be : Below w.heap.size w W
theorem ins0_get {k i : Nat} (h : i < (ins0 k).length) : (ins0 k)[i] = zeroW := by simp [ins0]
/-- One set more: the block, the row of one, the append. -/
theorem FdS.grow {w wb W : World} {F : Fn} {sv bv : Value} {gl gg m : Nat} {inv : Value} {gs : List Nat} {k : Nat} (h : FdS w wb F sv bv gl gg m inv gs k W) (hk : k < 4096) (ty : TypeId) :
    ∃ v' W', (Builtin.append_ #[86, 86] ty #[inv, .slice (some ⟨W.heap.size + 1, 0, none⟩) 1 1]).run Tryz.prog ((W.alloc (.cells (Tryz.zeroCells110.setIfInBounds 64 (.int .i64 (m : Int))) 110)).alloc (.cells #[.pointer (some ⟨W.heap.size, 0, none⟩)] 91)) = .ok v' W' ∧
      (Blk W' gl 88 #[.pointer (some ⟨gg, 0, none⟩), inv] ∧ (∃ A c, v' = .slice A (k + 1) c ∧ c ≤ maxLen ∧ k + 1 ≤ c) ∧ FdS w wb F sv bv gl gg m v' (gs ++ [W.heap.size]) (k + 1) (W'.setCell ⟨gl, 1, none⟩ v')) := by
  have ha := below2 W (.cells (Tryz.zeroCells110.setIfInBounds 64 (.int .i64 (m : Int))) 110) (.cells #[.pointer (some ⟨W.heap.size, 0, none⟩)] 91)
  have hsz : ((W.alloc (.cells (Tryz.zeroCells110.setIfInBounds 64 (.int .i64 (m : Int))) 110)).alloc (.cells #[.pointer (some ⟨W.heap.size, 0, none⟩)] 91)).heap.size = W.heap.size + 2 := by simp [World.size_alloc]
  have h2 := h.s.below ha
  have hset : SetAt ((W.alloc (.cells (Tryz.zeroCells110.setIfInBounds 64 (.int .i64 (m : Int))) 110)).alloc (.cells #[.pointer (some ⟨W.heap.size, 0, none⟩)] 91)) W.heap.size zeroW m := (set_new W m).below (below1 _ _)
  have hu : RowOf ((W.alloc (.cells (Tryz.zeroCells110.setIfInBounds 64 (.int .i64 (m : Int))) 110)).alloc (.cells #[.pointer (some ⟨W.heap.size, 0, none⟩)] 91)) (.slice (some ⟨W.heap.size + 1, 0, none⟩) 1 1) 1 [ptr W.heap.size] := by
    refine ⟨_, _, rfl, Nat.le_refl _, by decide, fun _ => ⟨_, 0, rfl, by rw [hsz]; omega, fun j u hj => ?_⟩⟩
    rw [Nat.zero_add, (blk_at (w := W.alloc (.cells (Tryz.zeroCells110.setIfInBounds 64 (.int .i64 (m : Int))) 110)) (n := W.heap.size + 1) (by simp [World.size_alloc]) 91 #[.pointer (some ⟨W.heap.size, 0, none⟩)]).cell]
    simpa [ptr] using hj
  obtain ⟨v', W', e1, e2, e3, -⟩ := app_any arowP ty h2.ow hu rfl (fun y hy => by obtain rfl := List.mem_singleton.1 hy; rfl) (by unfold maxLen; omega) (by omega) h2.be.size
  have hk0 : Keeps (fun q => inv.ownBlock = some q) ((W.alloc (.cells (Tryz.zeroCells110.setIfInBounds 64 (.int .i64 (m : Int))) 110)).alloc (.cells #[.pointer (some ⟨W.heap.size, 0, none⟩)] 91)) W' := (Keeps.refl _ _).grown e3 (fun g hg => Or.inr hg)
  have hne : ∀ {q : Nat} {t : TypeId} {cs : Array Value}, Blk ((W.alloc (.cells (Tryz.zeroCells110.setIfInBounds 64 (.int .i64 (m : Int))) 110)).alloc (.cells #[.pointer (some ⟨W.heap.size, 0, none⟩)] 91)) q t cs → t ≠ 91 → ¬ inv.ownBlock = some q := by
    intro q t cs hb ht e
    obtain ⟨cur, hc⟩ := owns_kind h2.ow e
    exact ht (Blk.kind hb hc)
  have hnes : ∀ {q : Nat} {ws : List Nat}, SetAt ((W.alloc (.cells (Tryz.zeroCells110.setIfInBounds 64 (.int .i64 (m : Int))) 110)).alloc (.cells #[.pointer (some ⟨W.heap.size, 0, none⟩)] 91)) q ws m → ¬ inv.ownBlock = some q := by
    intro q ws hs
    obtain ⟨c, hb, -⟩ := hs.b
    exact hne hb (by decide)
  have hlb := h2.lb.keeps hk0 (hne h2.lb (by decide))
  have hiv : ∀ q, inv.ownBlock = some q → wb.heap.size ≤ q := by
    intro q hq
    rcases h2.ow.2 with ⟨rfl, _⟩ | ⟨g', cap, cur, rfl, hb, _⟩
    · cases hq
    · cases hq; exact hb
  have hb1 : Below wb.heap.size wb W' := h2.be.trans (hk0.toBelow h2.be.size (fun q hq e => by have := hiv q e; omega))
  have hb2 : Below w.heap.size w W' := (h.be.trans (below_of_le ha h.be.size)).trans (hk0.toBelow (by have := h.be.size; rw [hsz]; omega) (fun q hq e => by have := hiv q e; have := h.bw; omega))
  have hkc : Keeps (fun q => q = gl) W' (W'.setCell ⟨gl, 1, none⟩ v') := (Keeps.refl (fun q => q = gl) W').setCell (p := ⟨gl, 1, none⟩) (Or.inr rfl) _
  have hgl : ∀ {q : Nat} {ws : List Nat}, SetAt W' q ws m → ¬ q = gl := by
    intro q ws hs e
    exact absurd (hs.kind (e ▸ hlb)) (by decide)
  have hv' : ∀ q, v'.ownBlock = some q → ¬ q = gl := by
    intro q hq e
    obtain ⟨cur, hc⟩ := owns_kind e2 hq
    exact absurd (Blk.kind hlb (e ▸ hc)) (by decide)
  have hform := RowOf.form (RowOf.own e2)
  obtain ⟨A, c, hv, hc1, hc2⟩ := hform
  have hlen : gs.length = k := h.s.gn
  have hgsW' : W.heap.size + 2 ≤ W'.heap.size := by have := hk0.size; rw [hsz] at this; exact this
  refine ⟨v', W', e1, hlb, ⟨A, c, hv, hc2, hc1⟩, ⟨hlb.set_ 1 v', h2.glb, ?_, by simp [hlen], by simp [ins0], fun i hi hi2 => ?_, ?_, ?_, Below.setC hb1 h2.glb _⟩, ?_, ?_, h.bw, Below.setC hb2 (by have := h.bw; have := h2.glb; omega) _⟩
  · rw [List.map_append]
    exact ownsRow_keeps e2 hkc hv'
  · rw [ins0_get]
    by_cases hlt : i < gs.length
    · rw [List.getElem_append_left hlt]
      have := h2.st i hlt (by simp [ins0]; omega)
      rw [ins0_get] at this
      have h3 := this.keeps hk0 (hnes this)
      exact h3.keeps hkc (hgl h3)
    · have : i = gs.length := by simp at hi; omega
      subst this
      rw [List.getElem_append_right (Nat.le_refl _)]
      simp only [Nat.sub_self, List.getElem_cons_zero]
      have h3 := hset.keeps hk0 (hnes hset)
      exact h3.keeps hkc (hgl h3)
  · rw [List.nodup_append]
    refine ⟨h2.nd, by simp, fun a ha' b hb' => ?_⟩
    have := h.lt a ha'
    rw [List.mem_singleton] at hb'
    omega
  · intro g hg
    rcases List.mem_append.1 hg with h1 | h1
    · exact h2.gsb g h1
    · rw [List.mem_singleton] at h1
      have := h.s.be.size
      omega
  · have hbx2 := h.bx.below ha h.bx.lt
    have h3 := hbx2.keeps hk0 (hne hbx2 (by decide))
    exact h3.far (by show w.heap.size ≠ gl; have := h.bw; have := h2.glb; omega) _
  · intro g hg
    rw [World.size_setCell]
    rcases List.mem_append.1 hg with h1 | h1
    · have := h.lt g h1; omega
    · rw [List.mem_singleton] at h1; omega
end Go.Proofs.YtlmoblmkhicoeaaGreatDoor
namespace Go.Proofs.YtlmoblmkhicoeaaGreatDoor
open Go.RowKit
section
variable {P : Program} {ops : Array Oper} {Q : Exit → Act → World → Prop} {md : Region.Mode} {S : World → Prop} {L : Nat}
def wpAnyE (P : Program) (md : Region.Mode) (ops : Array Oper) (Q : Exit → Act → World → Prop) (S : World → Prop) (L : Nat) : Nat → Array Bool → Act → World → Prop
  | 0, listed, a, w => Region.ready md ops listed = [] ∧ Q .normal a w
  | fuel + 1, listed, a, w =>
    (Region.ready md ops listed = [] → Q .normal a w) ∧
    ∀ i ∈ Region.ready md ops listed, wpOp P ops Q i (fun a' w' => (i ≠ L → S w') ∧ wpAnyE P md ops Q S L fuel (listed.setIfInBounds i true) a' w') a w
theorem wpAny_of_late : ∀ (fuel : Nat) (listed : Array Bool) (a : Act) (w : World), wpAnyE P md ops Q S L fuel listed a w → wpAny P md ops Q fuel listed a w
  | 0, _, _, _, h => h
  | fuel + 1, _, _, _, h => ⟨h.1, fun i hi => wpOp_mono (fun a' w' h' => wpAny_of_late fuel _ a' w' h'.2) (h.2 i hi)⟩
theorem wpAnyE_first {i : Nat} {oi : Oper} {v : Value} (hi : ops[i]? = some oi) (hsel : ∀ (j : Nat) (o : Oper) cs b, ops[j]? = some o → o.op ≠ .select cs b)
    (hQ : ∀ c a w, Q (.panic c) (a.put oi.dst v) w → Q (.panic c) a w) {m : Nat} (hL : Region.waitsFor md ops L m = true) (hmi : m = i ∨ Region.waitsFor md ops m i = true) :
    ∀ (fuel : Nat) (listed : Array Bool) (a : Act) (w : World), (m = i ∨ listed.getD m false = false) →
      (∀ j oj, ops[j]? = some oj → j ≠ i → listed.getD j true = false → (∀ e ∈ oj.after, Region.binds md e = true → e.on ≠ i) → oi.apart ops oj = true) →
      i ∈ Region.ready md ops listed → YieldsIf P ops S oi v a → S w →
      wpAnyE P md ops Q S L fuel (listed.setIfInBounds i true) (a.put oi.dst v) w → wpAnyE P md ops Q S L (fuel + 1) listed a w := by
  intro fuel
  induction fuel with
  | zero =>
    intro listed a w _ _ hr hy hS H
    refine ⟨fun h => (by rw [h] at hr; cases hr), fun j hj => ?_⟩
    by_cases hji : j = i
    · subst hji; exact hy.wpOp hi hS ⟨fun _ => hS, H⟩
    · have := ready_mono hj hji
      rw [H.1] at this
      cases this
  | succ fuel ih =>
    intro listed a w hm hfree hr hy hS H
    refine ⟨fun h => (by rw [h] at hr; cases hr), fun j hj => ?_⟩
    by_cases hji : j = i
    · subst hji; exact hy.wpOp hi hS ⟨fun _ => hS, H⟩
    · have h1 := H.2 j (ready_mono hj hji)
      obtain ⟨hjun, oj, hoj, hall⟩ := mem_ready.1 hj
      have hnot : ∀ e ∈ oj.after, Region.binds md e = true → e.on ≠ i := fun e he hb heq => by
        have h1 := hall e he hb
        have h0 := (mem_ready.1 hr).1
        rw [heq] at h1
        rcases Nat.lt_or_ge i listed.size with h' | h'
        · simp [h'] at h0 h1; rw [h0] at h1; cases h1
        · simp [Array.getElem?_eq_none h'] at h1
      have hjL : j ≠ L := by
        rintro rfl
        obtain ⟨oL, hoL, e, he, hb, hon⟩ := Region.waitsFor_spec hL
        have : oL = oj := Option.some.inj (hoL.symm.trans hoj)
        subst this
        rcases hm with rfl | hm
        · exact hnot e he hb hon
        · have h1 := hall e he hb
          rw [hon, hm] at h1
          cases h1
      have hm' : m = i ∨ (listed.setIfInBounds j true).getD m false = false := by
        rcases hm with hm | hm
        · exact Or.inl hm
        · rcases hmi with hmi | hmi
          · exact Or.inl hmi
          · refine Or.inr ?_
            rw [getD_set_ne false ?_]
            · exact hm
            · rintro rfl
              obtain ⟨om, hom, e, he, hb, hon⟩ := Region.waitsFor_spec hmi
              have : om = oj := Option.some.inj (hom.symm.trans hoj)
              subst this
              exact hnot e he hb hon
      have h2 := wpOp_putIf hoj (hfree j oj hoj hji hjun hnot) (fun cs b => hsel i oi cs b hi) (fun cs b => hsel j oj cs b hoj) hQ hy h1
      have hfree' : ∀ k ok, ops[k]? = some ok → k ≠ i → (listed.setIfInBounds j true).getD k true = false →
          (∀ e ∈ ok.after, Region.binds md e = true → e.on ≠ i) → oi.apart ops ok = true := fun k ok hk hki hun hno => by
        refine hfree k ok hk hki ?_ hno
        by_cases hjk : j = k
        · subst hjk; exact hjun
        · rw [getD_set_ne true hjk] at hun; exact hun
      refine wpOp_mono (fun a' w' h3 => ⟨h3.2.1, ih (listed.setIfInBounds j true) a' w' hm' hfree' (ready_mono hr (Ne.symm hji)) h3.1 (h3.2.1 hjL) ?_⟩) h2
      rw [Array.setIfInBounds_comm _ _ hji]
      exact h3.2.2
theorem wpAnyE_take {i : Nat} {oi : Oper} {v : Value} {fuel : Nat} {listed : Array Bool} {a : Act} {w : World} (hi : ops[i]? = some oi)
    (hs : Region.noSelect ops = true) (hf : Region.free md ops listed i = true) (hr : (Region.ready md ops listed).contains i = true) (m : Nat) (hL : (Region.waitsFor md ops L m && (m == i || (Region.waitsFor md ops m i && !listed.getD m false))) = true)
    (hQ : ∀ c a w, Q (.panic c) (a.put oi.dst v) w → Q (.panic c) a w) (hS : S w) (hy : YieldsIf P ops S oi v a)
    (h : wpAnyE P md ops Q S L fuel (listed.setIfInBounds i true) (a.put oi.dst v) w) : wpAnyE P md ops Q S L (fuel + 1) listed a w := by
  simp only [Bool.and_eq_true, Bool.or_eq_true, beq_iff_eq, Bool.not_eq_true'] at hL
  exact wpAnyE_first hi (Region.noSelect_spec hs) hQ hL.1 (hL.2.imp id (·.1)) fuel listed a w (hL.2.imp id (·.2)) (Region.free_spec hi hf) (by simpa using hr) hy hS h
def AllReadyE (P : Program) (md : Region.Mode) (ops : Array Oper) (Q : Exit → Act → World → Prop) (S : World → Prop) (L : Nat) (fuel : Nat) (listed : Array Bool) (a : Act) (w : World) (rs : List Nat) : Prop :=
  ∀ i ∈ rs, wpOp P ops Q i (fun a' w' => (i ≠ L → S w') ∧ wpAnyE P md ops Q S L fuel (listed.setIfInBounds i true) a' w') a w
theorem AllReadyE.nil {fuel : Nat} {listed : Array Bool} {a : Act} {w : World} : AllReadyE P md ops Q S L fuel listed a w [] := fun _ h => by cases h
theorem AllReadyE.cons {fuel : Nat} {listed : Array Bool} {a : Act} {w : World} {i : Nat} {o : Oper} {rs : List Nat} (ho : ops[i]? = some o)
    (h : ∀ K' : Act → World → Prop, Shut (∀ a w, (i ≠ L → S w) → ((i ≠ L → S w) → wpAnyE P md ops Q S L fuel (listed.setIfInBounds i true) a w) → K' a w) → if Region.wanted o (yielded ops a.tmps) = true then Oper.wp P o a w K' Q else K' (a.put o.dst undef) w)
    (hs : AllReadyE P md ops Q S L fuel listed a w rs) : AllReadyE P md ops Q S L fuel listed a w (i :: rs) := fun j hj => by
  rcases List.mem_cons.1 hj with rfl | hj
  · exact wpOp_step ho (fun K' hK => h K' (fun a w hS hW => hK a w ⟨hS, hW hS⟩))
  · exact hs j hj
theorem wpAnyE_ready {rs : List Nat} {fuel : Nat} {listed : Array Bool} {a : Act} {w : World} (hr : Region.ready md ops listed = rs) (hne : rs ≠ [])
    (h : AllReadyE P md ops Q S L fuel listed a w rs) : wpAnyE P md ops Q S L (fuel + 1) listed a w :=
  ⟨fun h0 => absurd (hr ▸ h0) hne, hr ▸ h⟩
theorem wpAnyE_done {listed : Array Bool} {a : Act} {w : World} (hr : Region.ready md ops listed = []) (h : Q .normal a w) :
    ∀ fuel, wpAnyE P md ops Q S L fuel listed a w
  | 0 => ⟨hr, h⟩
  | _ + 1 => ⟨fun _ => h, by rw [hr]; simp⟩
theorem wp_region_late {id : Nat} {a : Act} {w : World} (L : Nat) (hm : P.follows .mixedOrders = true) (hS : S w.drew)
    (h : S w.drew → wpAnyE P .any ops Q S L ops.size (Array.replicate ops.size false) a w.drew) : (Code.region id ops true).wp P Q a w :=
  wp_region_any hm (wpAny_of_late _ _ _ _ (h hS))
end
end Go.Proofs.YtlmoblmkhicoeaaGreatDoor
