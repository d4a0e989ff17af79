/- An area more: what becomes of memory where New (or Clone) appends one. No conditions. -/
import Derived.Test.YtbffclcjhcbejaaW8
namespace Go.Proofs.Ytbffclcjhcbejaa
open Go.RowKit

theorem step_append_own {P : Program} {w : World} {ops : Array Oper} {o : Oper} {a : Act} {K : Act → World → Prop} {Q : Exit → Act → World → Prop} {E : Prop} (hgd : o.guard = none) (s x : Operand) (t : TypeId)
    (ho : o.op = .call { callee := .builtin .append, args := #[s, x], argTypes := #[t, t] })
    (base : Nat) (e : TypeId) (i : TypeInfo) (z : Value) (size bytes : Nat) (ht : P.underlying t = some (.slice e)) (hi : P.info? e = some i) (hz : i.zero = some z)
    (hsize : i.size = size) (hby : i.bytes = bytes) (hzs : z.cells.size = size) (hsz : 0 < size)
    (v : Value) (n : Nat) (xs : List Value) (hs : a.eval s = v) (hown : w.ownsRow base e size v n xs)
    (ad : Addr) (m c : Nat) (news : List Value) (hx : a.eval x = .slice (some ad) m c) (hl : news.length = m * size) (hnews : ∀ j u, news[j]? = some u → w.cell? (ad.add j) = some u) (h1 : ∀ u ∈ news, u.oneCell' = true)
    (h63 : n + m ≤ maxLen) (hbytes : (n + m) * bytes ≤ 140737488355328) (hbase : base ≤ w.heap.size)
    (h : ∀ v' w', w'.ownsRow base e size v' (n + m) (xs ++ news) → w.grownBy w' v.ownBlock → (v' = .slice none 0 0 ↔ v = .slice none 0 0 ∧ m = 0) → K (a.put o.dst v') w') :
    if Region.wanted o (yielded ops a.tmps) = true then Oper.wp P o a w K Q else E := by
  have hw : Region.wanted o (yielded ops a.tmps) = true := by simp [Region.wanted, hgd]
  rw [if_pos hw]
  exact wp_append_own w s x t ho base e i z size bytes ht hi hz hsize hby hzs hsz v n xs hs hown ad m c news hx hl hnews h1 h63 hbytes hbase h

/-- The row of pointers has grown, and the new row is put into memory's own cell. -/
theorem MemAt.push {wr W w2 : World} {bm : Nat} {ms : List Area} {a : Area} {v v' : Value} (h : MemAt wr bm ms) (hv : Blk wr bm 62 #[v]) (ho : wr.ownsRow 0 63 1 v ms.length (ms.map fun a => ptrV a.b)) (hW : Below wr.heap.size wr W) (ha : AreaAt W a)
    (hrows : ∀ g ∈ a.rows, wr.heap.size ≤ g) (hnd : a.rows.Nodup) (ho2 : w2.ownsRow 0 63 1 v' (ms.length + 1) ((ms.map fun a => ptrV a.b) ++ [ptrV a.b])) (hg : W.grownBy w2 v.ownBlock) (hfew : ms.length + 1 ≤ 16) :
    MemAt (w2.setCell ⟨bm, 0, none⟩ v') bm (ms ++ [a]) ∧ Keeps (fun g => some g = v.ownBlock ∨ g = bm) wr (w2.setCell ⟨bm, 0, none⟩ v') := by
  have hvW : Blk W bm 62 #[v] := hv.below hW hv.lt
  have hk1 : Keeps (fun g => some g = v.ownBlock) W w2 := ⟨hg.os, hg.tape, hg.output, hg.size, hg.block⟩
  have hvb : ∀ g t cs, some g = v.ownBlock → Blk W g t cs → t = 63 := fun g t cs e hb => by
    rcases ho.2 with ⟨rfl, _⟩ | ⟨g', cap, cur, rfl, _, hh, _⟩
    · simp [Value.ownBlock] at e
    · have : g = g' := by simpa [Value.ownBlock] using e
      subst this
      have hh' : Blk W g 63 cur := Blk.below (t := 63) hh hW (Blk.lt (t := 63) hh)
      unfold Blk at hb hh'
      rw [hh'] at hb
      injection hb with hb
      injection hb with _ e
      exact e.symm
  have hk2 : Keeps (fun g => some g = v.ownBlock ∨ g = bm) W (w2.setCell ⟨bm, 0, none⟩ v') :=
    (hk1.mono (G := fun g => some g = v.ownBlock ∨ g = bm) (fun _ _ h => Or.inl h)).setCell (p := ⟨bm, 0, none⟩) (Or.inr (Or.inr rfl)) v'
  have hk : Keeps (fun g => some g = v.ownBlock ∨ g = bm) wr (w2.setCell ⟨bm, 0, none⟩ v') := (keeps_of_below _ hW).trans hk2 (fun _ _ h => h)
  have hT : ∀ g t cs, (some g = v.ownBlock ∨ g = bm) → Blk W g t cs → t = 63 ∨ t = 62 := fun g t cs e hb => by
    rcases e with e | rfl
    · exact Or.inl (hvb g t cs e hb)
    · refine Or.inr ?_
      unfold Blk at hb hvW
      rw [hvW] at hb
      injection hb with hb
      injection hb with _ e
      exact e.symm
  have keepA : ∀ x, AreaAt W x → AreaAt (w2.setCell ⟨bm, 0, none⟩ v') x := fun x hx =>
    hx.keeps hk2 (fun e => by rcases hT _ _ _ e hx.blk with h | h <;> cases h) (fun g hgx e => by
      obtain ⟨cur, hc⟩ := hx.row_blk hgx
      rcases hT _ _ _ e hc with h | h <;> cases h)
  have hb2 : Blk w2 bm 62 #[v] := hvW.keeps hk1 (fun e => by have := hvb _ _ _ e hvW; cases this)
  refine ⟨⟨⟨v', ?_, ?_⟩, fun x hx => ?_, ?_, by simpa using hfew⟩, hk⟩
  · have := hb2.set_ 0 v'
    simpa using this
  · have h1 := ownsRow_keeps (w := w2) (w' := w2.setCell ⟨bm, 0, none⟩ v') (F := fun g => g = bm) ho2 ((Keeps.refl (fun g => g = bm) w2).setCell (p := ⟨bm, 0, none⟩) (Or.inr rfl) v') (fun g hg' e => by
      subst e
      rcases ho2.2 with ⟨rfl, _⟩ | ⟨g2, cap, cu, rfl, _, hh, _⟩
      · simp [Value.ownBlock] at hg'
      · have : g2 = g := by simpa [Value.ownBlock] using hg'
        subst this
        exact Blk.ne_ (t := 63) hh hb2 (by decide) rfl)
    simpa using h1
  · rcases List.mem_append.1 hx with hx | hx
    · exact keepA x ((h.each x hx).keeps (keeps_of_below (fun _ => False) hW) (fun e => e) (fun _ _ e => e))
    · obtain rfl : x = a := by simpa using hx
      exact keepA x ha
  · unfold rowsOf
    rw [List.flatMap_append]
    refine List.nodup_append.2 ⟨h.apart, by simpa using hnd, fun g hg1 g' hg2 e => ?_⟩
    subst e
    have h1 := h.row_lt hg1
    have h2 := hrows g (by simpa using hg2)
    omega
/-- Memory's own cell behind the growing of its row. -/
theorem push_blk {wr W w2 : World} {bm n : Nat} {xs : List Value} {v : Value} (hv : Blk wr bm 62 #[v]) (ho : wr.ownsRow 0 63 1 v n xs) (hW : Below wr.heap.size wr W) (hg : W.grownBy w2 v.ownBlock) : Blk w2 bm 62 #[v] := by
  have hvW : Blk W bm 62 #[v] := hv.below hW hv.lt
  refine hvW.grown hg (fun e => ?_)
  rcases ho.2 with ⟨rfl, _⟩ | ⟨g', cap, cur, rfl, _, hh, _⟩
  · simp [Value.ownBlock] at e
  · have : bm = g' := by simpa [Value.ownBlock] using e
    subst this
    exact absurd (Blk.ne_ (t := 63) hh hv (by decide)) (by simp)
theorem row_shape {w : World} {base : Nat} {e : TypeId} {v : Value} {n : Nat} {xs : List Value} (h : w.ownsRow base e 1 v (n + 1) xs) : ∃ g cap, v = .slice (some ⟨g, 0, none⟩) (n + 1) cap := by
  rcases h.2 with ⟨_, h0⟩ | ⟨g, cap, cur, hv, _⟩
  · omega
  · exact ⟨g, cap, hv⟩
end Go.Proofs.Ytbffclcjhcbejaa
