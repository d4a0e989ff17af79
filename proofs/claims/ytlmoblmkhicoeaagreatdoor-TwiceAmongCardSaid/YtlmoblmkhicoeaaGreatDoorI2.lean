/- What a function's parts must be: the plain tests of layer 18. No conditions. Walks: what a rule's parts are; Built. No conditions. Walks: lex.letter, digit, more. No conditions. Walk: lex's word. No conditions beyond what it states. -/
import Derived.Test.YtlmoblmkhicoeaaGreatDoorT0
import Derived.Lib.Hide
import Derived.BigQuiet
import Derived.Deep.QuietTactic
import Derived.BigRegion
import Derived.Deep.LoopGhost
import Derived.Lib.Bytes
set_option linter.unusedVariables false
set_option linter.unusedSimpArgs false
namespace Go.Proofs.YtlmoblmkhicoeaaGreatDoor
def letterB (c : Nat) : Bool := (decide (97 ≤ c) && decide (c ≤ 122)) || (decide (65 ≤ c) && decide (c ≤ 90)) || c == 95
def digitB (c : Nat) : Bool := decide (48 ≤ c) && decide (c ≤ 57)
def wcB (c : Nat) : Bool := letterB c || digitB c
def keysL : List ByteArray := [⟨#[118, 111, 105, 100]⟩, ⟨#[99, 104, 97, 114]⟩, ⟨#[115, 104, 111, 114, 116]⟩, ⟨#[105, 110, 116]⟩, ⟨#[117, 110, 115, 105, 103, 110, 101, 100]⟩, ⟨#[115, 116, 114, 117, 99, 116]⟩, ⟨#[118, 111, 108, 97, 116, 105, 108, 101]⟩, ⟨#[105, 102]⟩, ⟨#[101, 108, 115, 101]⟩, ⟨#[119, 104, 105, 108, 101]⟩, ⟨#[100, 111]⟩, ⟨#[102, 111, 114]⟩, ⟨#[115, 119, 105, 116, 99, 104]⟩, ⟨#[99, 97, 115, 101]⟩, ⟨#[100, 101, 102, 97, 117, 108, 116]⟩, ⟨#[98, 114, 101, 97, 107]⟩, ⟨#[99, 111, 110, 116, 105, 110, 117, 101]⟩, ⟨#[114, 101, 116, 117, 114, 110]⟩, ⟨#[115, 105, 122, 101, 111, 102]⟩, ⟨#[106, 109, 112, 95, 98, 117, 102]⟩]
def amongB (l : List ByteArray) (s : ByteArray) : Bool := l.any (fun z => z.toList == s.toList)
def isNameB (s : ByteArray) : Bool :=
  if h : 0 < s.size then decide (s.size ≤ 31) && letterB (s[0]'h).toNat && s.data.toList.all (fun c => wcB c.toNat) && !amongB keysL s else false
inductive ImK
  | none
  | from0
  | const
  | halves
  | widths
  | copied
inductive TxK
  | empty
  | name
  | built
structure Rule where
  d : Bool
  a : Bool
  b : Bool
  im : ImK
  tx : TxK
  ar : Bool
  mb : Bool
def ruleL (k : Int) : Option Rule :=
  if 3 ≤ k ∧ k ≤ 19 then some ⟨true, true, true, .none, .empty, false, false⟩
  else if k = 1 then some ⟨true, false, false, .const, .empty, false, false⟩
  else if k = 2 then some ⟨true, true, false, .none, .empty, false, false⟩
  else if k = 20 then some ⟨true, true, false, .halves, .empty, false, false⟩
  else if k = 21 then some ⟨true, false, false, .from0, .empty, false, false⟩
  else if k = 22 then some ⟨true, false, false, .none, .name, false, false⟩
  else if k = 23 then some ⟨true, false, false, .from0, .empty, false, false⟩
  else if k = 24 then some ⟨true, false, false, .none, .name, false, false⟩
  else if k = 25 then some ⟨true, true, false, .widths, .empty, false, false⟩
  else if k = 26 then some ⟨false, true, true, .widths, .empty, false, false⟩
  else if k = 27 then some ⟨false, true, true, .copied, .empty, false, false⟩
  else if k = 28 then some ⟨true, true, false, .none, .empty, true, true⟩
  else if k = 29 then some ⟨true, false, false, .none, .built, true, true⟩
  else none
def isS (s : ByteArray) (l : List UInt8) : Bool := s.toList == l
/-- How many arguments a built-in function has, whether it answers. -/
def builtL (s : ByteArray) : Option (Nat × Bool) :=
  if isS s [103, 101, 116, 99, 104, 97, 114] then some (0, true)
  else if isS s [112, 117, 116, 99, 104, 97, 114] || isS s [99, 111, 95, 121, 105, 101, 108, 100] || isS s [99, 111, 95, 100, 111, 110, 101] then some (1, true)
  else if isS s [101, 120, 105, 116] || isS s [99, 111, 95, 102, 114, 101, 101] then some (1, false)
  else if isS s [108, 111, 110, 103, 106, 109, 112] then some (2, false)
  else if isS s [99, 111, 95, 110, 101, 119] then some (3, true)
  else if isS s [99, 111, 95, 114, 101, 115, 117, 109, 101] then some (2, true)
  else none
def imB : ImK → Int → Bool
  | .none, n => n == 0
  | .from0, n => decide (0 ≤ n)
  | .const, n => decide (-2147483648 ≤ n) && decide (n ≤ 4294967295)
  | .halves, n => n == 8 || n == 16
  | .widths, n => n == 1 || n == 2 || n == 4
  | .copied, n => decide (1 ≤ n) && decide (n ≤ 65536)
def txB : TxK → ByteArray → Bool
  | .empty, s => isS s []
  | .name, s => isNameB s
  | .built, s => (builtL s).isSome
def regB (regs r : Int) (used mb : Bool) : Bool := if r = -1 then !used || mb else used && decide (0 ≤ r) && decide (r < regs)
def tailB (slots strs : Int) (o : Op) : Bool :=
  if o.k = 21 then decide (o.im < slots) else if o.k = 23 then decide (o.im < strs)
  else if o.k = 29 then (match builtL o.tx with | some (n, ans) => ((o.ar.length : Int) == n) && (ans || o.d == -1) | none => ((o.ar.length : Int) == 0) && (o.d == -1))
  else true
/-- Does an operation use just what it may? -/
def opB (regs slots strs : Int) (o : Op) : Bool :=
  match ruleL o.k with
  | none => false
  | some r => regB regs o.d r.d r.mb && (regB regs o.a r.a false && (regB regs o.b r.b false && (imB r.im o.im && (txB r.tx o.tx && ((r.ar || !decide (0 < o.ar.length)) && (o.ar.all (fun a => regB regs a true false) && tailB slots strs o))))))
def toB (n blocks : Int) : Bool := decide (1 ≤ n) && decide (n < blocks)
/-- Does an exit use just what it may? -/
def exB (regs blocks : Int) (x : Ex) : Bool :=
  if x.k = 1 then x.a == -1 && (x.d == -1 && (toB x.t blocks && x.e == 0))
  else if x.k = 2 then regB regs x.a true false && (x.d == -1 && (toB x.t blocks && toB x.e blocks))
  else if x.k = 3 then regB regs x.a true true && (x.d == -1 && (x.t == 0 && x.e == 0))
  else if x.k = 4 then regB regs x.a true false && (regB regs x.d true false && (toB x.t blocks && (toB x.e blocks && x.t != x.e)))
  else false
def exR (x : Ex) : List Int := if x.k = 2 ∨ x.k = 4 then [x.a] else if x.k = 3 ∧ 0 ≤ x.a then [x.a] else []
def exT (x : Ex) : List Int := if x.k = 1 then [x.t] else if x.k = 2 ∨ x.k = 4 then [x.t, x.e] else []
def reads (o : Op) : List Int := if opB 4096 4611686018427387904 4611686018427387904 o then (o.a :: o.b :: o.ar).filter (fun r => decide (0 ≤ r)) else []
def slB (s : Sl) : Bool := decide (1 ≤ s.sz) && (decide (s.sz ≤ 65536) && (s.al == 1 || (s.al == 2 || s.al == 4)))
/-- How often each block is led to. -/
def ledS (l : List Int) (to : Int) : List Int := l.set to.toNat (l.getD to.toNat 0 + 1)
def ledL (bs : List Bl) : List Int := bs.foldl (fun l b => (exT b.x).foldl ledS l) (List.replicate bs.length 0)
def apartB (bs : List Bl) : Bool := !bs.any (fun b => b.x.k == 4 && decide (1 < (ledL bs).getD b.x.e.toNat 0))
/-- The blocks, one by one: how many operations there are so far. -/
def blsB (regs slots strs blocks : Int) : Nat → List Bl → Bool
  | _, [] => true
  | n, b :: bs => decide (n + b.os.length ≤ 4096) && (exB regs blocks b.x && (b.os.all (opB regs slots strs) && blsB regs slots strs blocks (n + b.os.length) bs))
def headB (F : Fn) : Bool := isNameB F.nm && (decide (0 ≤ F.ps) && (decide (F.ps ≤ 8) && (decide (F.ps ≤ F.rs) && (decide (F.rs ≤ 4096) && (decide (F.sl.length ≤ 256) && (decide (1 ≤ F.bl.length) && decide (F.bl.length ≤ 4096)))))))
def fnB (F : Fn) : Bool := headB F && (F.sl.all slB && (blsB F.rs F.sl.length 4611686018427387904 F.bl.length 0 F.bl && apartB F.bl))
end Go.Proofs.YtlmoblmkhicoeaaGreatDoor
namespace Go.Proofs.YtlmoblmkhicoeaaGreatDoor
open Go.RowKit
def imF : ImK → Nat
  | .none => 101
  | .from0 => 105
  | .const => 103
  | .halves => 104
  | .widths => 106
  | .copied => 107
def txF : TxK → Nat
  | .empty => 102
  | .name => 72
  | .built => 108
theorem none_any (n : Int) (w : World) : Calls Tryz.prog 101 #[.int .i64 n] w fun e w' => e = .returned (.bool (imB .none n)) ∧ w' = w := by
  by_cases h : n = 0
  all_goals
    go_enter Tryz.func101, Tryz.ntmps101
    go_wp2
    go_ret
    exact ⟨ret_bool (by rw [Bool.eq_iff_iff]; simp [imB, h]), rfl⟩
theorem from0_any (n : Int) (w : World) : Calls Tryz.prog 105 #[.int .i64 n] w fun e w' => e = .returned (.bool (imB .from0 n)) ∧ w' = w := by
  by_cases h : 0 ≤ n
  all_goals
    go_enter Tryz.func105, Tryz.ntmps105
    go_wp2
    go_ret
    exact ⟨ret_bool (by rw [Bool.eq_iff_iff]; simp [imB]; try omega), rfl⟩
theorem constant_any (n : Int) (w : World) : Calls Tryz.prog 103 #[.int .i64 n] w fun e w' => e = .returned (.bool (imB .const n)) ∧ w' = w := by
  rcases (show n < -2147483648 ∨ (-2147483648 ≤ n ∧ n ≤ 4294967295) ∨ 4294967295 < n by omega) with h | ⟨h, h'⟩ | h
  all_goals
    go_enter Tryz.func103, Tryz.ntmps103
    go_wp2
    go_ret
    exact ⟨ret_bool (by rw [Bool.eq_iff_iff]; simp [imB]; try omega), rfl⟩
theorem copied_any (n : Int) (w : World) : Calls Tryz.prog 107 #[.int .i64 n] w fun e w' => e = .returned (.bool (imB .copied n)) ∧ w' = w := by
  rcases (show n < 1 ∨ (1 ≤ n ∧ n ≤ 65536) ∨ 65536 < n by omega) with h | ⟨h, h'⟩ | h
  all_goals
    go_enter Tryz.func107, Tryz.ntmps107
    go_wp2
    go_ret
    exact ⟨ret_bool (by rw [Bool.eq_iff_iff]; simp [imB]; try omega), rfl⟩
theorem halves_any (n : Int) (w : World) : Calls Tryz.prog 104 #[.int .i64 n] w fun e w' => e = .returned (.bool (imB .halves n)) ∧ w' = w := by
  rcases (show n = 8 ∨ n = 16 ∨ (n ≠ 8 ∧ n ≠ 16) by omega) with rfl | rfl | ⟨h, h'⟩
  all_goals
    go_enter Tryz.func104, Tryz.ntmps104
    go_wp2
    go_ret
    exact ⟨ret_bool (by rw [Bool.eq_iff_iff]; simp [imB]; try omega), rfl⟩
theorem widths_any (n : Int) (w : World) : Calls Tryz.prog 106 #[.int .i64 n] w fun e w' => e = .returned (.bool (imB .widths n)) ∧ w' = w := by
  rcases (show n = 1 ∨ n = 2 ∨ n = 4 ∨ (n ≠ 1 ∧ n ≠ 2 ∧ n ≠ 4) by omega) with rfl | rfl | rfl | ⟨h, h', h''⟩
  all_goals
    go_enter Tryz.func106, Tryz.ntmps106
    go_wp2
    go_ret
    exact ⟨ret_bool (by rw [Bool.eq_iff_iff]; simp [imB]; try omega), rfl⟩
theorem im_any (k : ImK) (n : Int) (w : World) : Calls Tryz.prog (imF k) #[.int .i64 n] w fun e w' => e = .returned (.bool (imB k n)) ∧ w' = w := by
  cases k
  · exact none_any n w
  · exact from0_any n w
  · exact constant_any n w
  · exact halves_any n w
  · exact widths_any n w
  · exact copied_any n w
theorem isS_nil (s : ByteArray) : isS s [] = s.toList.isEmpty := by
  unfold isS
  cases s.toList <;> rfl
theorem empty_any (s : ByteArray) (w : World) : Calls Tryz.prog 102 #[.string s] w fun e w' => e = .returned (.bool (isS s [])) ∧ w' = w := by
  cases h : s.toList.isEmpty
  all_goals
    go_enter Tryz.func102, Tryz.ntmps102
    go_wp2
    go_ret
    exact ⟨ret_bool (by rw [isS_nil, h]), rfl⟩
def builtV (s : ByteArray) : Value := match builtL s with | some (n, a) => .tuple #[.int .i64 n, .bool a, .bool true] | none => .tuple #[.int .i64 0, .bool false, .bool false]
def ss (l : List UInt8) : ByteArray := ⟨l.toArray⟩
theorem builtV_tuple (s : ByteArray) (n : Int) (a b : Bool) (h : builtV s = .tuple #[.int .i64 n, .bool a, .bool b]) : Ending.returned (.tuple #[.int .i64 n, .bool a, .bool b]) = .returned (builtV s) := by rw [h]
set_option maxHeartbeats 4000000 in
theorem built_any (s : ByteArray) (w : World) : Calls Tryz.prog 89 #[.string s] w fun e w' => e = .returned (builtV s) ∧ w' = w := by
  go_enter Tryz.func89, Tryz.ntmps89
  go_wp2
  all_goals first
    | (exfalso; simp_all; done)
    | (refine bodyPost_ret (v := builtV s) ?_ rfl ⟨rfl, rfl⟩
       simp [results, Tryz.results89, go_sem, builtV, builtL, isS, *])
end Go.Proofs.YtlmoblmkhicoeaaGreatDoor
namespace Go.Proofs.YtlmoblmkhicoeaaGreatDoor
open Go.RowKit
theorem letter_any (c : Nat) (w : World) : Calls Tryz.prog 91 #[.int .u8 c] w fun e w' => e = .returned (.bool (letterB c)) ∧ w' = w := by
  rcases (show c < 65 ∨ (65 ≤ c ∧ c ≤ 90) ∨ (91 ≤ c ∧ c ≤ 94) ∨ c = 95 ∨ c = 96 ∨ (97 ≤ c ∧ c ≤ 122) ∨ 123 ≤ c by omega) with h | ⟨h, h'⟩ | ⟨h, h'⟩ | rfl | rfl | ⟨h, h'⟩ | h
  all_goals
    go_enter Tryz.func91, Tryz.ntmps91
    go_wp2
    go_ret
    exact ⟨ret_bool (by rw [Bool.eq_iff_iff]; simp [letterB]; try omega), rfl⟩
theorem digit_any (c : Nat) (w : World) : Calls Tryz.prog 110 #[.int .u8 c] w fun e w' => e = .returned (.bool (digitB c)) ∧ w' = w := by
  rcases (show c < 48 ∨ (48 ≤ c ∧ c ≤ 57) ∨ 58 ≤ c by omega) with h | ⟨h, h'⟩ | h
  all_goals
    go_enter Tryz.func110, Tryz.ntmps110
    go_wp2
    go_ret
    exact ⟨ret_bool (by rw [Bool.eq_iff_iff]; simp [digitB]; try omega), rfl⟩
theorem more_any (s : ByteArray) (k : Nat) (hk : k ≤ s.size) (hs : s.size ≤ maxLen) (g : Nat) (w : World) (c0 : w.cell? ⟨g, 0, none⟩ = some (.string s)) (c1 : w.cell? ⟨g, 1, none⟩ = some (.int .i64 k)) :
    Calls Tryz.prog 109 #[.pointer (some ⟨g, 0, none⟩)] w fun e w' => e = .returned (.bool (decide (k < s.size))) ∧ ∃ m, w' = w.drewN m := by
  unfold maxLen at hs
  have c0' := fun m => (show (w.drewN m).cell? ⟨g, 0, none⟩ = some (.string s) from c0)
  have c1' := fun m => (show (w.drewN m).cell? ⟨g, 1, none⟩ = some (.int .i64 k) from c1)
  by_cases h : k < s.size
  all_goals
    go_enter Tryz.func109, Tryz.ntmps109
    go_wp2
    go_quiet (fail)
    go_wp2
    go_ret
    exact ⟨ret_bool (by simp; try omega), _, rfl⟩
end Go.Proofs.YtlmoblmkhicoeaaGreatDoor
namespace Go.Proofs.YtlmoblmkhicoeaaGreatDoor
open Go.RowKit
theorem takeB_snoc (s : ByteArray) (k : Nat) (h : k < s.size) : s.data.toList.take (k + 1) = s.data.toList.take k ++ [s[k]] := by
  rw [List.take_succ_eq_append_getElem (by simpa using h)]; rfl
theorem allC_step (s : ByteArray) (p : UInt8 → Bool) (k : Nat) (h : k < s.size) (h1 : (s.data.toList.take k).all p = true) (h2 : p s[k] = true) : (s.data.toList.take (k + 1)).all p = true := by
  rw [takeB_snoc s k h, List.all_append, h1]; simp [h2]
theorem allC_stop (s : ByteArray) (p : UInt8 → Bool) (k : Nat) (h : k < s.size) (h2 : p s[k] = false) : s.data.toList.all p = false := by
  rw [List.all_eq_false]
  exact ⟨s[k], by simp only [Array.mem_toList_iff]; exact Array.getElem_mem _, by simp [h2]⟩
theorem ext_short (s : ByteArray) (k : Nat) (h : k < s.size) : ((s.extract 0 k).toList == s.toList) = false := by
  rw [beq_eq_false_iff_ne]
  intro e
  have h1 : (s.extract 0 k).data.toList.length = s.data.toList.length := by rw [← Lib.toList_data, ← Lib.toList_data, e]
  have h2 : (s.extract 0 k).data.toList.length = k := by
    rw [Array.length_toList]
    show (s.extract 0 k).size = k
    rw [ByteArray.size_extract]
    omega
  have h3 : s.data.toList.length = s.size := by rw [Array.length_toList]; rfl
  omega
theorem ext_all (s : ByteArray) : ((s.extract 0 s.size).toList == s.toList) = true := by
  have : s.extract 0 s.size = s := by
    apply ByteArray.ext
    rw [ByteArray.data_extract]
    show s.data.extract 0 s.data.size = s.data
    simp
  rw [this]; simp
set_option maxRecDepth 100000 in
set_option maxHeartbeats 2000000 in
theorem word_any (s : ByteArray) (g : Nat) (w : World) (hb : Blk w g 161 #[.string s, .int .i64 0]) (hs : s.size ≤ maxLen) :
    Calls Tryz.prog 92 #[.pointer (some ⟨g, 0, none⟩)] w fun e w' => ∃ r, e = .returned (.string r) ∧ (r.toList == s.toList) = s.data.toList.all (fun c => wcB c.toNat) ∧ Keeps (fun k => k = g) w w' := by
  unfold maxLen at hs
  have c1 : w.cell? ⟨g, 1, none⟩ = some (.int .i64 0) := by rw [hb.cell]; rfl
  have HB := Lib.hid hb
  clear hb
  go_enter Tryz.func92, Tryz.ntmps92
  go_wp2
  clear c1
  go_loopg [] s.size (fun gk wr => ∃ k : Nat, k ≤ s.size ∧ gk = s.size - k ∧ Hid ((s.data.toList.take k).all (fun c => wcB c.toNat) = true) ∧ Hid (Blk wr g 161 #[.string s, .int .i64 (k : Int)] ∧ Keeps (fun k => k = g) w wr))
  case atStart => exact ⟨0, Nat.zero_le _, rfl, rfl, HB.out, Keeps.refl _ _⟩
  case round =>
    obtain ⟨k, hk, rfl, HA, HK⟩ := hrel
    have d0 : wr.cell? ⟨g, 0, none⟩ = some (.string s) := by rw [HK.out.1.cell]; rfl
    have d1 : wr.cell? ⟨g, 1, none⟩ = some (.int .i64 k) := by rw [HK.out.1.cell]; rfl
    have e0 := fun m => (show (wr.drewN m).cell? ⟨g, 0, none⟩ = some (.string s) from d0)
    have e1 := fun m => (show (wr.drewN m).cell? ⟨g, 1, none⟩ = some (.int .i64 k) from d1)
    have MQ := Lib.hid (fun m => more_any s k hk hs g (wr.drewN m) (e0 m) (e1 m))
    by_cases hlt : k < s.size
    · have hd : decide (k < s.size) = true := by simpa using hlt
      rw [hd] at MQ
      obtain ⟨c, hc⟩ : ∃ c : Nat, (s[k]'hlt).toNat = c := ⟨_, rfl⟩
      have LQ := Lib.hid (fun m => letter_any c (wr.drewN m))
      have DQ := Lib.hid (fun m => digit_any c (wr.drewN m))
      have HT := Lib.hid (fun h => allC_step s (fun c => wcB c.toNat) k hlt HA.out (by rw [hc]; exact h))
      have HF := Lib.hid (fun h => allC_stop s (fun c => wcB c.toNat) k hlt (by rw [hc]; exact h))
      have hfro : ∀ m, (wr.drewN m).frozen? ⟨g, 1, none⟩ = false := fun m => HK.out.1.frozen 1
      cases hl : letterB c with
      | true =>
        rw [hl] at LQ
        have HT2 := Lib.hid (HT.out (by simp [wcB, hl]))
        clear hl
        go_wp2
        go_quiet (first | exact Calls.quiet_of (MQ.out _) | exact Calls.quiet_of_same (LQ.out _))
        go_wp2
        go_roundg (s.size - (k + 1))
        case measure => omega
        case rel => exact ⟨k + 1, by omega, rfl, HT2.out, (HK.out.1.drewN _).set_ 1 _, (HK.out.2.drewN _).setCell (Or.inr rfl) _⟩
      | false =>
        rw [hl] at LQ
        cases hdg : digitB c with
        | true =>
          rw [hdg] at DQ
          have HT2 := Lib.hid (HT.out (by simp [wcB, hdg]))
          clear hl hdg
          go_wp2
          go_quiet (first | exact Calls.quiet_of (MQ.out _) | exact Calls.quiet_of_same (LQ.out _) | exact Calls.quiet_of_same (DQ.out _))
          go_wp2
          go_roundg (s.size - (k + 1))
          case measure => omega
          case rel => exact ⟨k + 1, by omega, rfl, HT2.out, (HK.out.1.drewN _).set_ 1 _, (HK.out.2.drewN _).setCell (Or.inr rfl) _⟩
        | false =>
          rw [hdg] at DQ
          have HF2 := Lib.hid (HF.out (by simp [wcB, hdg, hl]))
          have HX := Lib.hid (ext_short s k hlt)
          clear hl hdg
          go_wp2
          go_quiet (first | exact Calls.quiet_of (MQ.out _) | exact Calls.quiet_of_same (LQ.out _) | exact Calls.quiet_of_same (DQ.out _))
          go_wp2
          go_quiet (fail)
          go_wp2
          go_ret
          exact ⟨_, rfl, by rw [HF2.out]; exact HX.out, (HK.out.2.drewN _).drewN _⟩
    · have hd : decide (k < s.size) = false := by simpa using hlt
      rw [hd] at MQ
      obtain rfl : k = s.size := by omega
      have hsk : s.data.toList.take s.size = s.data.toList := List.take_of_length_le (Nat.le_of_eq (by rw [Array.length_toList]; rfl))
      have hfin : s.data.toList.all (fun c => wcB c.toNat) = true := by rw [← hsk]; exact HA.out
      have HN := Lib.hid hfin
      clear hfin hsk
      go_wp2
      go_quiet (exact Calls.quiet_of (MQ.out _))
      go_wp2
      go_quiet (fail)
      go_wp2
      go_ret
      exact ⟨_, rfl, by rw [HN.out]; simp, (HK.out.2.drewN _).drewN _⟩
end Go.Proofs.YtlmoblmkhicoeaaGreatDoor
