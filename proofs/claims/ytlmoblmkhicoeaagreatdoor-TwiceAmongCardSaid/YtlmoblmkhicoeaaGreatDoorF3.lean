/- Plain: a right function's lists lead to blocks. No conditions. Plain: what is live. No conditions. Walks: flow's set: put, drop. No conditions beyond what they state. Walks: flow's set: without. No conditions beyond what they state. Walks: flow's set: join. No conditions beyond what they state. -/
import Derived.Test.YtlmoblmkhicoeaaGreatDoorP3
import Derived.Test.YtlmoblmkhicoeaaGreatDoorJ3
import Derived.Laws.BitsAllLaws
import Derived.Deep.WholeRow
set_option linter.unusedVariables false
set_option linter.unusedSimpArgs false
namespace Go.Proofs.YtlmoblmkhicoeaaGreatDoor
/-- What a right function gives. -/
structure FnOk (F : Fn) : Prop where
  p0 : 0 ≤ F.ps
  pr : F.ps ≤ F.rs
  r1 : F.rs ≤ 4096
  b1 : 1 ≤ F.bl.length
  b2 : F.bl.length ≤ 4096
  ex : ∀ b ∈ F.bl, exB F.rs F.bl.length b.x = true
  op : ∀ b ∈ F.bl, ∀ o ∈ b.os, opB F.rs F.sl.length 4611686018427387904 o = true
  ol : ∀ b ∈ F.bl, b.os.length ≤ 4096
theorem blsB_ok {regs slots strs blocks : Int} : ∀ (bs : List Bl) (n : Nat), blsB regs slots strs blocks n bs = true → (∀ b ∈ bs, exB regs blocks b.x = true) ∧ (∀ b ∈ bs, ∀ o ∈ b.os, opB regs slots strs o = true) ∧ ∀ b ∈ bs, b.os.length ≤ 4096
  | [], _, _ => by simp
  | b :: bs, n, h => by
    rw [blsB] at h
    simp only [Bool.and_eq_true, decide_eq_true_eq, List.all_eq_true] at h
    obtain ⟨h1, h2, h3, h4⟩ := h
    obtain ⟨i1, i2, i3⟩ := blsB_ok bs _ h4
    refine ⟨fun x hx => ?_, fun x hx => ?_, fun x hx => ?_⟩
    · rcases List.mem_cons.1 hx with rfl | hx
      · exact h2
      · exact i1 x hx
    · rcases List.mem_cons.1 hx with rfl | hx
      · exact h3
      · exact i2 x hx
    · rcases List.mem_cons.1 hx with rfl | hx
      · omega
      · exact i3 x hx
theorem fnB_ok {F : Fn} (h : fnB F = true) : FnOk F := by
  unfold fnB headB at h
  simp only [Bool.and_eq_true, decide_eq_true_eq] at h
  obtain ⟨⟨-, h1, -, h3, h4, -, h6, h7⟩, -, h8, -⟩ := h
  obtain ⟨i1, i2, i3⟩ := blsB_ok _ _ h8
  exact ⟨h1, h3, h4, h6, h7, i1, i2, i3⟩
theorem toL_getD (F : Fn) {k : Nat} (hk : k < F.bl.length) : (toL F).getD k [] = onceL (exT F.bl[k].x) := by
  simp [toL, hk]
theorem FnOk.to {F : Fn} (h : FnOk F) : ToOk (toL F) := by
  intro l hl t ht
  obtain ⟨b, hb, rfl⟩ := List.mem_map.1 hl
  have := exB_to (h.ex b hb) t (mem_onceL.1 ht)
  rw [toL_len]
  omega
theorem FnOk.to1 {F : Fn} (h : FnOk F) {k : Nat} (hk : k < F.bl.length) : ∀ t ∈ onceL (exT F.bl[k].x), 1 ≤ t ∧ t < (F.bl.length : Int) := fun t ht => exB_to (h.ex _ (List.getElem_mem hk)) t (mem_onceL.1 ht)
theorem FnOk.rs0 {F : Fn} (h : FnOk F) : 0 ≤ F.rs := by have := h.p0; have := h.pr; omega
/-- Which blocks are reached. -/
def rchL (F : Fn) : List Bool := reachL (toL F)
theorem FnOk.rch {F : Fn} (h : FnOk F) : (rchL F).length = F.bl.length ∧ (rchL F).getD 0 false = true ∧ ∀ k : Nat, k < F.bl.length → (rchL F).getD k false = true → ∀ t ∈ exT (F.bl.getD k ⟨[], ⟨0, 0, 0, 0, 0⟩⟩).x, (rchL F).getD t.toNat false = true := by
  have h1 := h.b1
  obtain ⟨i1, i2, i3⟩ := reachL_ok h.to (by rw [toL_len]; omega)
  refine ⟨by rw [rchL, i1, toL_len], i2, fun k hk hr t ht => i3 k hr t ?_⟩
  rw [toL_getD F hk, mem_onceL]
  have e : F.bl.getD k ⟨[], ⟨0, 0, 0, 0, 0⟩⟩ = F.bl[k] := by simp [hk]
  rw [← e]; exact ht
end Go.Proofs.YtlmoblmkhicoeaaGreatDoor
namespace Go.Proofs.YtlmoblmkhicoeaaGreatDoor
def joinN (ws os : List Nat) : Nat → List Nat
  | 0 => ws
  | k + 1 => (joinN ws os k).set k (ws.getD k 0 ||| os.getD k 0)
def grewN (ws os : List Nat) : Nat → Bool
  | 0 => false
  | k + 1 => grewN ws os k || (ws.getD k 0 ||| os.getD k 0) != ws.getD k 0
def putW (ws : List Nat) (n : Nat) : List Nat := ws.set (n / 64) (ws.getD (n / 64) 0 ||| 2 ^ (n % 64))
def dropN (ws : List Nat) (n : Nat) : List Nat := ws.set (n / 64) (ws.getD (n / 64) 0 &&& (18446744073709551615 - 2 ^ (n % 64)))
def dropW (ws : List Nat) (n : Int) : List Nat := if 0 ≤ n then dropN ws n.toNat else ws
def zeroW : List Nat := List.replicate 64 0
def nW (F : Fn) : Nat := (F.rs.toNat + 63) / 64
def bl0 : Bl := ⟨[], ⟨0, 0, 0, 0, 0⟩⟩
def blk (F : Fn) (b : Nat) : Bl := F.bl.getD b bl0
def jumpsB (o : Op) : Bool := o.k == 28 || (o.k == 29 && (isS o.tx [108, 111, 110, 103, 106, 109, 112] || isS o.tx [99, 111, 95, 114, 101, 115, 117, 109, 101] || isS o.tx [99, 111, 95, 121, 105, 101, 108, 100]))
def endS (F : Fn) (ins : List (List Nat)) (s : List Nat) (k : Int) : List Nat := joinN s (ins.getD k.toNat zeroW) (nW F)
def endP (F : Fn) (ins : List (List Nat)) (b : Nat) : List Nat :=
  let s := (onceL (exT (blk F b).x)).foldl (endS F ins) zeroW
  if (blk F b).x.k = 4 then dropW s (blk F b).x.d else s
def putI (s : List Nat) (r : Int) : List Nat := putW s r.toNat
def backP (F : Fn) (sec : List Nat) (s : List Nat) (o : Op) : List Nat :=
  let s := (reads o).foldl putI (dropW s o.d)
  if jumpsB o then joinN s sec (nW F) else s
def pointP (F : Fn) (ins : List (List Nat)) (sec : List Nat) (b : Nat) : List Nat := (blk F b).os.foldr (fun o s => backP F sec s o) ((exR (blk F b).x).foldl putI (endP F ins b))
def secS (F : Fn) (ins : List (List Nat)) (s : List Nat) (b : Nat) : List Nat :=
  if (rchL F).getD b false && (blk F b).x.k == 4 then joinN s (dropW (ins.getD (blk F b).x.e.toNat zeroW) (blk F b).x.d) (nW F) else s
def secP (F : Fn) (ins : List (List Nat)) : Nat → List Nat
  | 0 => zeroW
  | k + 1 => secS F ins (secP F ins k) k
/-- One block of a pass; has something grown? -/
def passS (F : Fn) (sec : List Nat) (st : List (List Nat) × Bool) (b : Nat) : List (List Nat) × Bool :=
  if (rchL F).getD b false then
    (st.1.set b (joinN (st.1.getD b zeroW) (pointP F st.1 sec b) (nW F)), st.2 || grewN (st.1.getD b zeroW) (pointP F st.1 sec b) (nW F))
  else st
/-- The blocks from k - 1 down to 0. -/
def passP (F : Fn) (sec : List Nat) : Nat → List (List Nat) × Bool → List (List Nat) × Bool
  | 0, st => st
  | k + 1, st => passP F sec k (passS F sec st k)
def round (F : Fn) (ins : List (List Nat)) : List (List Nat) × Bool := passP F (secP F ins F.bl.length) F.bl.length (ins, false)
def liveF (F : Fn) : Nat → List (List Nat) → List (List Nat)
  | 0, ins => ins
  | f + 1, ins => if (round F ins).2 then liveF F f (round F ins).1 else (round F ins).1
theorem joinN_ge (ws os : List Nat) : ∀ k i, k ≤ i → (joinN ws os k).getD i 0 = ws.getD i 0
  | 0, _, _ => rfl
  | k + 1, i, h => by
    rw [joinN, ← joinN_ge ws os k i (by omega)]
    simp only [List.getD_eq_getElem?_getD]
    rw [List.getElem?_set_ne (by omega)]
theorem joinN_len (ws os : List Nat) : ∀ k, (joinN ws os k).length = ws.length
  | 0 => rfl
  | k + 1 => by rw [joinN, List.length_set, joinN_len ws os k]
end Go.Proofs.YtlmoblmkhicoeaaGreatDoor
namespace Go.Proofs.YtlmoblmkhicoeaaGreatDoor
open Go.RowKit
/-- A set of registers: 64 words, and how many registers there are. -/
structure SetAt (W : World) (g : Nat) (ws : List Nat) (most : Nat) : Prop where
  b : ∃ cs, Blk W g 110 cs ∧ cs.toList = ws.map (fun x : Nat => Value.int .u64 (x : Int)) ++ [.int .i64 (most : Int)]
  ln : ws.length = 64
  hi : ∀ x ∈ ws, x < 2 ^ 64
theorem SetAt.lt {W : World} {g : Nat} {ws : List Nat} {most : Nat} (h : SetAt W g ws most) : g < W.heap.size := by
  obtain ⟨cs, hb, hc⟩ := h.b
  exact hb.lt
theorem SetAt.cell {W : World} {g : Nat} {ws : List Nat} {most : Nat} (h : SetAt W g ws most) (i : Nat) (hi : i < ws.length) : W.cell? ⟨g, i, none⟩ = some (.int .u64 (ws[i] : Int)) := by
  obtain ⟨cs, hb, hc⟩ := h.b
  rw [hb.cell, ← Array.getElem?_toList, hc, List.getElem?_append_left (by simpa using hi), List.getElem?_map, List.getElem?_eq_getElem hi]; rfl
theorem SetAt.top {W : World} {g : Nat} {ws : List Nat} {most : Nat} (h : SetAt W g ws most) : W.cell? ⟨g, 64, none⟩ = some (.int .i64 (most : Int)) := by
  obtain ⟨cs, hb, hc⟩ := h.b
  rw [hb.cell, ← Array.getElem?_toList, hc, List.getElem?_append_right (by simp [h.ln])]; simp [h.ln]
theorem SetAt.frozen {W : World} {g : Nat} {ws : List Nat} {most : Nat} (h : SetAt W g ws most) (i : Nat) : W.frozen? ⟨g, i, none⟩ = false := by
  obtain ⟨cs, hb, hc⟩ := h.b
  exact hb.frozen i
theorem SetAt.set_ {W : World} {g : Nat} {ws : List Nat} {most : Nat} (h : SetAt W g ws most) (i : Nat) (hi : i < 64) (x : Nat) (hx : x < 2 ^ 64) : SetAt (W.setCell ⟨g, i, none⟩ (.int .u64 (x : Int))) g (ws.set i x) most := by
  obtain ⟨cs, hb, hc⟩ := h.b
  refine ⟨⟨_, hb.set_ i _, ?_⟩, by rw [List.length_set]; exact h.ln, fun y hy => ?_⟩
  · rw [Array.toList_setIfInBounds, hc, List.set_append_left _ _ (by simp [h.ln]; exact hi), List.map_set]
  · rcases List.mem_or_eq_of_mem_set hy with h1 | h1
    · exact h.hi y h1
    · rw [h1]; exact hx
theorem SetAt.keeps {W W' : World} {F : Nat → Prop} {g : Nat} {ws : List Nat} {most : Nat} (h : SetAt W g ws most) (hk : Keeps F W W') (hF : ¬ F g) : SetAt W' g ws most := by
  obtain ⟨cs, hb, hc⟩ := h.b
  exact ⟨⟨cs, hb.keeps hk hF, hc⟩, h.ln, h.hi⟩
theorem SetAt.below {W W' : World} {g : Nat} {ws : List Nat} {most : Nat} (h : SetAt W g ws most) (hb : Below W.heap.size W W') : SetAt W' g ws most := h.keeps (keeps_of_below (fun _ => False) hb) id
theorem SetAt.drew {W : World} {g : Nat} {ws : List Nat} {most : Nat} (h : SetAt W g ws most) : SetAt W.drew g ws most := by
  obtain ⟨cs, hb, hc⟩ := h.b
  exact ⟨⟨cs, hb.drew, hc⟩, h.ln, h.hi⟩
theorem pow_lt (n : Nat) : 2 ^ (n % 64) < 18446744073709551616 := by
  have : 2 ^ (n % 64) < 2 ^ 64 := Nat.pow_lt_pow_right (by decide) (Nat.mod_lt _ (by decide))
  simpa using this
theorem wrap_pow (n : Nat) : IntKind.u64.wrap (2 ^ (n % 64)) = ((2 ^ (n % 64) : Nat) : Int) := by
  have := pow_lt n
  have e : ((2 : Int) ^ (n % 64)) = ((2 ^ (n % 64) : Nat) : Int) := by push_cast; rfl
  rw [e, IntKind.wrap_u64]
  generalize 2 ^ (n % 64) = a at this
  omega
theorem or_pow (a n : Nat) (ha : a < 2 ^ 64) : bits .or .u64 (a : Int) (IntKind.u64.wrap (2 ^ (n % 64))) = ((a ||| 2 ^ (n % 64) : Nat) : Int) := by
  rw [wrap_pow, u64_or_nat a _ (by simpa using ha) (pow_lt n)]
theorem andNot_pow (a n : Nat) (ha : a < 2 ^ 64) : bits .andNot .u64 (a : Int) (IntKind.u64.wrap (2 ^ (n % 64))) = ((a &&& (18446744073709551615 - 2 ^ (n % 64)) : Nat) : Int) := by
  rw [wrap_pow, u64_andNot_nat a _ (by simpa using ha) (pow_lt n)]
theorem SetAt.val {W : World} {g : Nat} {ws : List Nat} {most : Nat} (h : SetAt W g ws most) (i : Nat) (hi : i < 64) : ∃ q : Nat, ws.getD i 0 = q ∧ q < 2 ^ 64 ∧ W.cell? ⟨g, i, none⟩ = some (.int .u64 (q : Int)) := by
  have hl : i < ws.length := by rw [h.ln]; exact hi
  exact ⟨ws[i], by simp [hl], h.hi _ (List.getElem_mem hl), h.cell i hl⟩
set_option maxRecDepth 100000 in
set_option maxHeartbeats 1000000 in
theorem put_any (g : Nat) (ws : List Nat) (most n : Nat) (w : World) (hs : SetAt w g ws most) (hn : n < 4096) :
    Calls Tryz.prog 69 #[.pointer (some ⟨g, 0, none⟩), .int .i64 n] w fun e w' => e = .returned (.tuple #[]) ∧ SetAt w' g (putW ws n) most ∧ Keeps (fun k => k = g) w w' := by
  have hi : n / 64 < 64 := by omega
  obtain ⟨q, hq, hq2, c0⟩ := hs.val (n / 64) hi
  have f0 := hs.frozen (n / 64)
  have HQ := Lib.hid (or_pow q n hq2)
  have HR := Lib.hid (show SetAt (w.setCell ⟨g, n / 64, none⟩ (.int .u64 ((q ||| 2 ^ (n % 64) : Nat) : Int))) g (putW ws n) most by
    unfold putW
    rw [hq]
    exact hs.set_ (n / 64) hi _ (Nat.or_lt_two_pow hq2 (by simpa using pow_lt n)))
  have HK := Lib.hid ((Keeps.refl (fun k => k = g) w).setCell (p := ⟨g, n / 64, none⟩) (Or.inr rfl) (.int .u64 ((q ||| 2 ^ (n % 64) : Nat) : Int)))
  clear hs hq hq2
  go_enter Tryz.func69, Tryz.ntmps69
  go_wp2
  go_region
  rw [HQ.out]
  go_wp2
  go_end0
  exact ⟨rfl, HR.out.drew, HK.out.drew⟩
set_option maxRecDepth 100000 in
set_option maxHeartbeats 1000000 in
theorem drop_any (g : Nat) (ws : List Nat) (most : Nat) (n : Int) (w : World) (hs : SetAt w g ws most) (hn : n < 4096) :
    Calls Tryz.prog 48 #[.pointer (some ⟨g, 0, none⟩), .int .i64 n] w fun e w' => e = .returned (.tuple #[]) ∧ SetAt w' g (dropW ws n) most ∧ Keeps (fun k => k = g) w w' := by
  by_cases h0 : 0 ≤ n
  · obtain ⟨m, rfl⟩ : ∃ m : Nat, n = (m : Int) := ⟨n.toNat, by omega⟩
    have hi : m / 64 < 64 := by omega
    obtain ⟨q, hq, hq2, c0⟩ := hs.val (m / 64) hi
    have f0 := hs.frozen (m / 64)
    have HQ := Lib.hid (andNot_pow q m hq2)
    have HR := Lib.hid (show SetAt (w.setCell ⟨g, m / 64, none⟩ (.int .u64 ((q &&& (18446744073709551615 - 2 ^ (m % 64)) : Nat) : Int))) g (dropW ws m) most by
      unfold dropW
      rw [if_pos h0, show ((m : Int)).toNat = m by omega, dropN, hq]
      exact hs.set_ (m / 64) hi _ (Nat.lt_of_le_of_lt Nat.and_le_left hq2))
    have HK := Lib.hid ((Keeps.refl (fun k => k = g) w).setCell (p := ⟨g, m / 64, none⟩) (Or.inr rfl) (.int .u64 ((q &&& (18446744073709551615 - 2 ^ (m % 64)) : Nat) : Int)))
    clear hs hq hq2
    go_enter Tryz.func48, Tryz.ntmps48
    go_wp2
    go_region
    rw [HQ.out]
    go_wp2
    go_end0
    exact ⟨rfl, HR.out.drew, HK.out.drew⟩
  · have HR := Lib.hid (show SetAt w g (dropW ws n) most by rw [dropW, if_neg h0]; exact hs)
    clear hs
    go_enter Tryz.func48, Tryz.ntmps48
    go_wp2
    go_end0
    exact ⟨rfl, HR.out, Keeps.refl _ _⟩
end Go.Proofs.YtlmoblmkhicoeaaGreatDoor
namespace Go.Proofs.YtlmoblmkhicoeaaGreatDoor
open Go.RowKit
theorem wpList_load_eq {P : Program} {w : World} {ops : Array Oper} {rest : List Oper} {o : Oper} {a : Act} {Q : Exit → Act → World → Prop} (hgd : o.guard = none) (t : TypeId) (x : Operand) (ho : o.op = .load t x) {p v : Value} (hx : a.eval x = p)
    (hr : (Instr.loadAt t p).run P w = .ok v w) (h : wpList P ops Q rest (a.put o.dst v) w) : wpList P ops Q (o :: rest) a w :=
  wpList_plain hgd fun K hK => by
    unfold Oper.wp execOp
    simp only [ho, hx, Sem.run_bind, Sem.run_pure, Result.andThen_ok, hr]
    exact hK _ _ h
theorem wpList_store_eq {P : Program} {w w' : World} {ops : Array Oper} {rest : List Oper} {o : Oper} {a : Act} {Q : Exit → Act → World → Prop} (hgd : o.guard = none) (t : TypeId) (x y : Operand) (ho : o.op = .store t x y) {p v : Value} (hx : a.eval x = p) (hy : a.eval y = v)
    (hr : (Instr.storeAt t p v).run P w = .ok () w') (h : wpList P ops Q rest (a.put o.dst undef) w') : wpList P ops Q (o :: rest) a w :=
  wpList_plain hgd fun K hK => by
    unfold Oper.wp execOp
    simp only [ho, hx, hy, Sem.run_bind, Sem.run_pure, Result.andThen_ok, hr]
    exact hK _ _ h
theorem inf110 : (Tryz.prog.info? 110).map (·.size) = some 65 := by kernel_rfl
theorem load_set {W : World} {g : Nat} {cs : Array Value} (h : Blk W g 110 cs) (hs : cs.size = 65) : (Instr.loadAt 110 (.pointer (some ⟨g, 0, none⟩))).run Tryz.prog W = .ok (.agg cs) W := by
  simp only [Instr.loadAt, Instr.sureAddr, Sem.run_bind, Sem.run_pure, Result.andThen]
  exact run_loadVar_row W g 110 110 cs (0, 0) _ h Tryz.underlying110 rfl (by rw [inf110, hs])
set_option maxRecDepth 100000 in
set_option maxHeartbeats 400000 in
theorem without_any (g : Nat) (ws : List Nat) (most : Nat) (n : Int) (w : World) (hs : SetAt w g ws most) (hn : n < 4096) :
    Calls Tryz.prog 68 #[.pointer (some ⟨g, 0, none⟩), .int .i64 n] w fun e w' => (∃ g', e = .returned (.pointer (some ⟨g', 0, none⟩)) ∧ w.heap.size ≤ g' ∧ SetAt w' g' (dropW ws n) most) ∧ Below w.heap.size w w' := by
  obtain ⟨cs, hb, hc⟩ := hs.b
  have hsz : cs.size = 65 := by
    have := congrArg List.length hc
    simpa [hs.ln] using this
  have HL := Lib.hid (load_set hb hsz)
  have HS := Lib.hid (show SetAt (w.alloc (.cells cs 110)) w.heap.size ws most from ⟨⟨cs, Blk.new w _ cs, hc⟩, hs.ln, hs.hi⟩)
  have z65 : Tryz.zeroCells110.size = 65 := by kernel_rfl
  have hst := run_storeCells_new (P := Tryz.prog) w 110 Tryz.zeroCells110 cs (by rw [inf110, hsz]) (by rw [z65, hsz]) (by
    rw [← Array.all_toList, hc]
    simp [Value.oneCell'])
  have HDR := Lib.hid (drop_any w.heap.size ws most n _ HS.out hn)
  clear hs hb hc
  go_enter Tryz.func68, Tryz.ntmps68
  go_wp2_with (refine wpList_load_eq rfl 110 (.tmp 7) rfl rfl HL.out ?_)
  refine HDR.out.mono ?_
  rintro e w1 ⟨rfl, h1, h2⟩
  have H1 := Lib.hid h1
  have HB := Lib.hid ((below1 w (.cells cs 110)).trans (h2.toBelow (size_le1 _ _) (fun k hk => by omega)))
  clear h1 h2
  go_wp2_with fail
  go_ret
  exact ⟨⟨_, rfl, Nat.le_refl _, H1.out⟩, HB.out⟩
end Go.Proofs.YtlmoblmkhicoeaaGreatDoor
namespace Go.Proofs.YtlmoblmkhicoeaaGreatDoor
open Go.RowKit
theorem or_nat (a b : Nat) (ha : a < 2 ^ 64) (hb : b < 2 ^ 64) : bits .or .u64 (a : Int) (b : Int) = ((a ||| b : Nat) : Int) := u64_or_nat a b (by simpa using ha) (by simpa using hb)
set_option maxRecDepth 100000 in
set_option maxHeartbeats 2000000 in
theorem join_any (g g2 : Nat) (ws os : List Nat) (most m2 : Nat) (w : World) (hs : SetAt w g ws most) (ho : SetAt w g2 os m2) (hne : g2 ≠ g) (hm : most ≤ 4096) :
    Calls Tryz.prog 45 #[.pointer (some ⟨g, 0, none⟩), .pointer (some ⟨g2, 0, none⟩)] w fun e w' => e = .returned (.bool (grewN ws os ((most + 63) / 64))) ∧ SetAt w' g (joinN ws os ((most + 63) / 64)) most ∧ Keeps (fun k => k = g) w w' := by
  have c64 := hs.top
  have HS := Lib.hid hs
  have HO := Lib.hid ho
  clear hs ho
  have hq : ((most : Int) + 63) / 64 = ((most + 63) / 64 : Nat) := by omega
  have hN : (most + 63) / 64 ≤ 64 := by omega
  obtain ⟨N, hNe⟩ : ∃ N, (most + 63) / 64 = N := ⟨_, rfl⟩
  rw [hNe] at hq hN ⊢
  clear hNe
  go_enter Tryz.func45, Tryz.ntmps45
  go_wp2
  go_loopw [14, 5] (fun i gr wr => ∃ k : Nat, k ≤ N ∧ i = .int .i64 k ∧ gr = .bool (grewN ws os k) ∧ Hid (SetAt wr g (joinN ws os k) most ∧ Keeps (fun k => k = g) w wr)) (fun i _ _ => N - (intOf i).toNat)
  case atStart => exact ⟨0, Nat.zero_le _, rfl, rfl, HS.out, Keeps.refl _ _⟩
  case round =>
    obtain ⟨k, hk, rfl, rfl, HW⟩ := hrel
    by_cases hlt : k < N
    · have hk64 : k < 64 := by omega
      obtain ⟨a, ha, ha2, c0⟩ := HW.out.1.val k hk64
      obtain ⟨b, hb, hb2, d0⟩ := (HO.out.keeps HW.out.2 hne).val k hk64
      rw [joinN_ge ws os k k (Nat.le_refl _)] at ha
      have f0 := HW.out.1.frozen k
      have HOR := Lib.hid (or_nat a b ha2 hb2)
      have c0' := fun m => (show (wr.drewN m).cell? ⟨g, k, none⟩ = _ from c0)
      have d0' := fun m => (show (wr.drewN m).cell? ⟨g2, k, none⟩ = _ from d0)
      have f0' := fun m => (show (wr.drewN m).frozen? ⟨g, k, none⟩ = _ from f0)
      have HG := Lib.hid (show grewN ws os (k + 1) = (grewN ws os k || ((a ||| b : Nat) : Int) != (a : Int)) by
        rw [grewN, ha, hb]
        generalize a ||| b = c
        have e : (c != a) = ((c : Int) != (a : Int)) := by
          by_cases h : c = a
          · subst h; rw [bne_self_eq_false, bne_self_eq_false]
          · have h2 : ¬ (c : Int) = (a : Int) := by omega
            rw [bne_iff_ne.2 h, bne_iff_ne.2 h2]
        rw [e])
      have HN := Lib.hid (fun m => show SetAt ((wr.drewN m).setCell ⟨g, k, none⟩ (.int .u64 ((a ||| b : Nat) : Int))) g (joinN ws os (k + 1)) most ∧ Keeps (fun k => k = g) w ((wr.drewN m).setCell ⟨g, k, none⟩ (.int .u64 ((a ||| b : Nat) : Int))) by
        refine ⟨?_, (HW.out.2.drewN m).setCell (Or.inr rfl) _⟩
        have h2 : SetAt (wr.drewN m) g (joinN ws os k) most := by
          obtain ⟨cs, h3, h4⟩ := HW.out.1.b
          exact ⟨⟨cs, h3, h4⟩, HW.out.1.ln, HW.out.1.hi⟩
        rw [joinN, ha, hb]
        exact h2.set_ k hk64 _ (Nat.or_lt_two_pow ha2 hb2))
      obtain ⟨gr, hgr⟩ : ∃ gr, grewN ws os k = gr := ⟨_, rfl⟩
      rw [hgr] at HG ⊢
      clear hgr ha hb ha2 hb2 HW
      cases gr with
      | true =>
        go_wp2
        go_quiet (fail)
        rw [HOR.out]
        go_wp2
        go_roundw
        case rel => exact ⟨k + 1, by omega, by go_num, by rw [HG.out]; rfl, HN.out _⟩
        case measure => simp [intOf]; omega
      | false =>
        go_wp2
        go_quiet (fail)
        rw [HOR.out]
        go_wp2
        go_roundw
        case rel => exact ⟨k + 1, by omega, by go_num, by rw [HG.out]; rfl, HN.out _⟩
        case measure => simp [intOf]; omega
    · have hke : k = N := by omega
      subst hke
      go_wp2
      go_ret
      exact ⟨rfl, HW.out⟩
end Go.Proofs.YtlmoblmkhicoeaaGreatDoor
