/- Walks: asm.Const and its reference: what each comes to. Conditions: none. -/
import Derived.Test.YtknnimlbddgimaaDoorProg
import Derived.WalkKit
import Derived.WalkSpells
import Derived.WalkLawsBesides
import Derived.Lib.Hide
import Derived.Laws.OwnMore
import Derived.Laws.BitsLemmas
namespace Go.Proofs.YtknnimlbddgimaaDoor
open Go.RowKit

def instr (op d a imm : Int) : List Value := [.int .i64 op, .int .i64 d, .int .i64 a, .int .i64 0, .int .i64 imm]
def conBad (d n : Int) : Bool := decide (d < 0 ∨ 15 < d ∨ n < -2147483648 ∨ 4294967295 < n)
def conSmall (n : Int) : Bool := decide (-32768 ≤ n ∧ n ≤ 32767)
def conE (d n : Int) : Int := if conBad d n then 1 else 0
def conN (d n : Int) : Nat := if conBad d n then 0 else if conSmall n then 1 else if n % 65536 = 0 then 1 else 2
def conL (d n : Int) : List Value :=
  if conBad d n then [] else if conSmall n then instr 25 d 0 n else if n % 65536 = 0 then instr 26 d 0 (n % 4294967296 / 65536) else instr 26 d 0 (n % 4294967296 / 65536) ++ instr 20 d d (n % 65536)
def ConPost (d n : Int) (w : World) (e : Ending) (w' : World) : Prop :=
  ∃ v, e = .returned (.tuple #[v, .int .i64 (conE d n)]) ∧ w'.ownsRow w.heap.size 29 5 v (conN d n) (conL d n) ∧ Below w.heap.size w w'
theorem info29 : (Tryd.prog.info? 29).map (fun i => (i.zero, i.size, i.bytes)) = some (some (.agg #[.int .i64 0, .int .i64 0, .int .i64 0, .int .i64 0, .int .i64 0]), 5, 40) := by kernel_rfl
theorem con_bad (d n : Int) (w : World) (h : conBad d n = true) : ConPost d n w (.returned (.tuple #[.slice none 0 0, .int .i64 1])) w :=
  ⟨.slice none 0 0, by simp [conE, h], by simp only [conN, conL, h, if_true]; exact World.ownsRow_nil _ _ _ _, Below.refl _ _⟩
set_option maxHeartbeats 1000000 in
theorem const_bad (d n : Int) (w : World) (h : conBad d n = true) : Calls Tryd.prog 4 #[.int .i64 d, .int .i64 n] w (ConPost d n w) := by
  have HP := Lib.hid (con_bad d n w h)
  simp [conBad] at h
  by_cases h1 : d < 0
  · clear h
    go_enter Tryd.func4, Tryd.ntmps4
    go_wp2
    go_ret2
    exact HP.out
  by_cases h2 : 15 < d
  · clear h
    go_enter Tryd.func4, Tryd.ntmps4
    go_wp2
    go_ret2
    exact HP.out
  by_cases h3 : n < -2147483648
  · clear h
    go_enter Tryd.func4, Tryd.ntmps4
    go_wp2
    go_ret2
    exact HP.out
  have h4 : 4294967296 ≤ n := by omega
  clear h
  go_enter Tryd.func4, Tryd.ntmps4
  go_wp2
  go_ret2
  exact HP.out

theorem con_ok {d n : Int} (h : conBad d n = false) : 0 ≤ d ∧ d ≤ 15 ∧ -2147483648 ≤ n ∧ n ≤ 4294967295 := by
  simp [conBad] at h
  omega
theorem con_one {d n : Int} {w : World} (w' : World) {L : Array Value} (h : conBad d n = false) (hn : conN d n = 1) (hl : conL d n = L.toList) (hs : L.size = 5) (hw : w' = w.alloc (.cells L 29)) :
    ConPost d n w (.returned (.tuple #[.slice (some ⟨w.heap.size, 0, none⟩) 1 1, .int .i64 0])) w' := by
  subst hw
  refine ⟨.slice (some ⟨w.heap.size, 0, none⟩) 1 1, by simp [conE, h], ?_, (Below.refl _ _).alloc (Nat.le_refl _) _⟩
  rw [hn, hl]
  exact World.ownsRow_lit _ _ 1 (Nat.le_refl _) (by decide) (by omega)
set_option maxHeartbeats 1000000 in
theorem const_small (d n : Int) (w : World) (h : conBad d n = false) (hs : conSmall n = true) : Calls Tryd.prog 4 #[.int .i64 d, .int .i64 n] w (ConPost d n w) := by
  have HP := Lib.hid (con_one (w := w) _ (L := #[.int .i64 25, .int .i64 d, .int .i64 0, .int .i64 0, .int .i64 n]) h (by simp [conN, h, hs]) (by simp [conL, h, hs, instr]) rfl rfl)
  obtain ⟨h1, h2, h3, h4⟩ := con_ok h
  simp [conSmall] at hs
  obtain ⟨h5, h6⟩ := hs
  clear h
  go_enter Tryd.func4, Tryd.ntmps4
  go_wp2
  go_ret2
  exact HP.out
set_option maxHeartbeats 1000000 in
theorem rconst_small (d n : Int) (w : World) (h : conBad d n = false) (hs : conSmall n = true) : Calls Tryd.prog 5 #[.int .i64 d, .int .i64 n] w (ConPost d n w) := by
  have HP := Lib.hid (con_one (w := w) _ (L := #[.int .i64 25, .int .i64 d, .int .i64 0, .int .i64 0, .int .i64 n]) h (by simp [conN, h, hs]) (by simp [conL, h, hs, instr]) rfl rfl)
  obtain ⟨h1, h2, h3, h4⟩ := con_ok h
  simp [conSmall] at hs
  obtain ⟨h5, h6⟩ := hs
  clear h
  go_enter Tryd.func5, Tryd.ntmps5
  go_wp2
  go_ret2
  exact HP.out
theorem and_low (n : Int) : bits .and .u32 (n % 4294967296) 65535 = n % 65536 := by
  obtain ⟨a, ha⟩ : ∃ a : Nat, n % 4294967296 = a := ⟨(n % 4294967296).toNat, by omega⟩
  have hlt : a < 4294967296 := by omega
  have e1 : a &&& 65535 = a % 65536 := Nat.and_two_pow_sub_one_eq_mod a 16
  have e : (BitVec.ofInt 32 (a : Int) &&& BitVec.ofInt 32 (65535 : Int)).toNat = a % 65536 := by
    have h2 : (65535 : Int) = ((65535 : Nat) : Int) := rfl
    rw [h2]
    simp only [BitVec.toNat_and, BitVec.ofInt_natCast, BitVec.toNat_ofNat]
    rw [Nat.mod_eq_of_lt (by omega), Nat.mod_eq_of_lt (by omega), e1]
  rw [ha]
  show IntKind.u32.wrap ((BitVec.ofInt 32 (a : Int) &&& BitVec.ofInt 32 (65535 : Int)).toNat : Int) = _
  rw [e, IntKind.wrap_u32]
  omega
theorem con_great {d n : Int} (u : Int) (hu : n % 4294967296 = u) (h : conBad d n = false) (hs : n < -32768 ∨ 32767 < n) :
    (u % 65536 = 0 → conN d n = 1 ∧ conL d n = instr 26 d 0 (u / 65536)) ∧ (u % 65536 ≠ 0 → conN d n = 2 ∧ conL d n = instr 26 d 0 (u / 65536) ++ instr 20 d d (u % 65536)) := by
  have hs' : conSmall n = false := by simp [conSmall]; omega
  have e : n % 65536 = u % 65536 := by omega
  constructor
  · intro hz; rw [← e] at hz; simp [conN, conL, h, hs', hz, hu]
  · intro hz
    have hz' : ¬ n % 65536 = 0 := by rw [e]; exact hz
    unfold conN conL
    rw [h, hs', if_neg hz', if_neg hz', hu, e]
    exact ⟨rfl, rfl⟩
theorem con_two {d n u : Int} {w w' w2 : World} {v : Value} (h : conBad d n = false) (hc : conN d n = 2 ∧ conL d n = instr 26 d 0 (u / 65536) ++ instr 20 d d (u % 65536))
    (hg : w'.grownBy w2 (some w.heap.size)) (hb : Below w.heap.size w w') (ho : w2.ownsRow w.heap.size 29 5 v 2 (instr 26 d 0 (u / 65536) ++ instr 20 d d (u % 65536))) :
    ConPost d n w (.returned (.tuple #[v, .int .i64 0])) w2 := by
  refine ⟨v, by simp [conE, h], ?_, hb.grown hg hb.size (fun g e => by cases e; omega)⟩
  rw [hc.1, hc.2]
  exact ho
theorem con_news (X : World) (n : Nat) (hn : n = X.heap.size) (L : Array Value) : ∀ j u, L.toList[j]? = some u → (X.alloc (.cells L 29)).cell? ((⟨n, 0, none⟩ : Addr).add j) = some u := by
  intro j u hj
  subst hn
  have : (⟨X.heap.size, 0, none⟩ : Addr).add j = ⟨X.heap.size, j, none⟩ := by unfold Addr.add; split <;> simp_all
  rw [this, World.cell?_alloc_at _ _ _ _ rfl]
  simpa using hj
theorem instr_one (op d a imm : Int) : ∀ u ∈ instr op d a imm, u.oneCell' = true := by
  intro u hu
  simp [instr] at hu
  rcases hu with rfl | rfl | rfl | rfl | rfl <;> rfl
set_option maxHeartbeats 1000000 in
theorem const_neg (d n : Int) (w : World) (h : conBad d n = false) (h5 : n < -32768) : Calls Tryd.prog 4 #[.int .i64 d, .int .i64 n] w (ConPost d n w) := by
  obtain ⟨hc1, hc2⟩ := con_great (n % 4294967296) rfl h (Or.inl h5)
  have em : n % 4294967296 % 65536 = n % 65536 := by omega
  rw [em] at hc1 hc2
  have hbit := and_low n
  obtain ⟨h1, h2, h3, h4⟩ := con_ok h
  have hm0 := Int.emod_nonneg n (b := 65536) (by omega)
  have hm1 := Int.emod_lt_of_pos n (b := 65536) (by omega)
  obtain ⟨i0, hi, hz0, hz1, hz2⟩ := info_parts info29
  have HI := Lib.hid hi
  have HZ0 := Lib.hid hz0
  have HZ1 := Lib.hid hz1
  have HZ2 := Lib.hid hz2
  have HB := Lib.hid h
  have EM := Lib.hid em
  clear hi hz0 hz1 hz2 h em
  by_cases hz : n % 65536 = 0
  · have HP := Lib.hid (con_one (w := w) _ (L := #[.int .i64 26, .int .i64 d, .int .i64 0, .int .i64 0, .int .i64 (n % 4294967296 / 65536)]) HB.out (hc1 hz).1 (by rw [(hc1 hz).2]; rfl) rfl rfl)
    have hz' : (n % 65536 != 0) = false := by simp [hz]
    clear hz hc1 hc2
    go_enter Tryd.func4, Tryd.ntmps4
    go_wp2_with fail
    go_ret2
    exact HP.out
  · have HC := Lib.hid (hc2 hz)
    have hz' : (n % 65536 != 0) = true := by simp [hz]
    clear hz hc1 hc2
    go_enter Tryd.func4, Tryd.ntmps4
    go_wp2_with (at_builtin; (refine wpList_append_own _ rfl (.tmp 46) (.tmp 51) 23 rfl w.heap.size 29 i0 (.agg #[.int .i64 0, .int .i64 0, .int .i64 0, .int .i64 0, .int .i64 0]) 5 40 Tryd.underlying23 HI.out HZ0.out HZ1.out HZ2.out rfl (by decide) (.slice (some ⟨w.heap.size, 0, none⟩) 1 1) 1 (instr 26 d 0 (n % 4294967296 / 65536)) rfl ?c0 ⟨w.heap.size + 1, 0, none⟩ 1 1 (instr 20 d d (n % 65536)) rfl rfl ?c1 ?c2 ?c3 ?c4 ?c5 ?_))
    case c0 => exact (World.ownsRow_lit _ _ 1 (Nat.le_refl _) (by decide) rfl).alloc _
    case c1 => first | exact con_news _ _ (by first | rfl | simp) #[_, _, _, _, _] | (intro j u hj; exact hj)
    case c2 => exact instr_one _ _ _ _
    try (case c3 => decide)
    try (case c4 => decide)
    try (case c5 => first | omega | (simp; omega))
    intro v' w2 hown hgrow hnil
    have HO := Lib.hid hown
    have HG := Lib.hid hgrow
    clear hown hgrow hnil
    go_wp2_with fail
    go_ret2
    exact con_two HB.out (by rw [EM.out]; exact HC.out) HG.out (((Below.refl _ _).alloc (Nat.le_refl _) _).alloc (by simp) _) (by rw [EM.out]; exact HO.out)
set_option maxHeartbeats 1000000 in
theorem const_pos (d n : Int) (w : World) (h : conBad d n = false) (h5 : 32767 < n) : Calls Tryd.prog 4 #[.int .i64 d, .int .i64 n] w (ConPost d n w) := by
  obtain ⟨h1, h2, h3, h4⟩ := con_ok h
  have en : n % 4294967296 = n := by omega
  obtain ⟨hc1, hc2⟩ := con_great n en h (Or.inr h5)
  have hbit := and_low n
  rw [en] at hbit
  have hm0 := Int.emod_nonneg n (b := 65536) (by omega)
  have hm1 := Int.emod_lt_of_pos n (b := 65536) (by omega)
  obtain ⟨i0, hi, hz0, hz1, hz2⟩ := info_parts info29
  have HI := Lib.hid hi
  have HZ0 := Lib.hid hz0
  have HZ1 := Lib.hid hz1
  have HZ2 := Lib.hid hz2
  have HB := Lib.hid h
  clear hi hz0 hz1 hz2 h en
  by_cases hz : n % 65536 = 0
  · have HP := Lib.hid (con_one (w := w) _ (L := #[.int .i64 26, .int .i64 d, .int .i64 0, .int .i64 0, .int .i64 (n / 65536)]) HB.out (hc1 hz).1 (by rw [(hc1 hz).2]; rfl) rfl rfl)
    have hz' : (n % 65536 != 0) = false := by simp [hz]
    clear hz hc1 hc2
    go_enter Tryd.func4, Tryd.ntmps4
    go_wp2_with fail
    go_ret2
    exact HP.out
  · have HC := Lib.hid (hc2 hz)
    have hz' : (n % 65536 != 0) = true := by simp [hz]
    clear hz hc1 hc2
    go_enter Tryd.func4, Tryd.ntmps4
    go_wp2_with (at_builtin; (refine wpList_append_own _ rfl (.tmp 46) (.tmp 51) 23 rfl w.heap.size 29 i0 (.agg #[.int .i64 0, .int .i64 0, .int .i64 0, .int .i64 0, .int .i64 0]) 5 40 Tryd.underlying23 HI.out HZ0.out HZ1.out HZ2.out rfl (by decide) (.slice (some ⟨w.heap.size, 0, none⟩) 1 1) 1 (instr 26 d 0 (n / 65536)) rfl ?c0 ⟨w.heap.size + 1, 0, none⟩ 1 1 (instr 20 d d (n % 65536)) rfl rfl ?c1 ?c2 ?c3 ?c4 ?c5 ?_))
    case c0 => exact (World.ownsRow_lit _ _ 1 (Nat.le_refl _) (by decide) rfl).alloc _
    case c1 => first | exact con_news _ _ (by first | rfl | simp) #[_, _, _, _, _] | (intro j u hj; exact hj)
    case c2 => exact instr_one _ _ _ _
    try (case c3 => decide)
    try (case c4 => decide)
    try (case c5 => first | omega | (simp; omega))
    intro v' w2 hown hgrow hnil
    have HO := Lib.hid hown
    have HG := Lib.hid hgrow
    clear hown hgrow hnil
    go_wp2_with fail
    go_ret2
    exact con_two HB.out HC.out HG.out (((Below.refl _ _).alloc (Nat.le_refl _) _).alloc (by simp) _) HO.out
set_option maxHeartbeats 1000000 in
theorem rconst_bad (d n : Int) (w : World) (h : conBad d n = true) : Calls Tryd.prog 5 #[.int .i64 d, .int .i64 n] w (ConPost d n w) := by
  have HP := Lib.hid (con_bad d n w h)
  simp [conBad] at h
  by_cases h1 : d < 0
  · clear h
    go_enter Tryd.func5, Tryd.ntmps5
    go_wp2
    go_ret2
    exact HP.out
  by_cases h2 : 15 < d
  · clear h
    go_enter Tryd.func5, Tryd.ntmps5
    go_wp2
    go_ret2
    exact HP.out
  by_cases h3 : n < -2147483648
  · clear h
    go_enter Tryd.func5, Tryd.ntmps5
    go_wp2
    go_ret2
    exact HP.out
  have h4 : 4294967296 ≤ n := by omega
  clear h
  go_enter Tryd.func5, Tryd.ntmps5
  go_wp2
  go_ret2
  exact HP.out
set_option maxHeartbeats 1000000 in
theorem rconst_neg (d n : Int) (w : World) (h : conBad d n = false) (h5 : n < -32768) : Calls Tryd.prog 5 #[.int .i64 d, .int .i64 n] w (ConPost d n w) := by
  obtain ⟨hc1, hc2⟩ := con_great (n % 4294967296) rfl h (Or.inl h5)
  have em : n % 4294967296 % 65536 = n % 65536 := by omega
  rw [em] at hc1 hc2
  have hbit := and_low n
  obtain ⟨h1, h2, h3, h4⟩ := con_ok h
  have hm0 := Int.emod_nonneg n (b := 65536) (by omega)
  have hm1 := Int.emod_lt_of_pos n (b := 65536) (by omega)
  obtain ⟨i0, hi, hz0, hz1, hz2⟩ := info_parts info29
  have HI := Lib.hid hi
  have HZ0 := Lib.hid hz0
  have HZ1 := Lib.hid hz1
  have HZ2 := Lib.hid hz2
  have HB := Lib.hid h
  have EM := Lib.hid em
  clear hi hz0 hz1 hz2 h em
  by_cases hz : n % 65536 = 0
  · have HP := Lib.hid (con_one (w := w) _ (L := #[.int .i64 26, .int .i64 d, .int .i64 0, .int .i64 0, .int .i64 (n % 4294967296 / 65536)]) HB.out (hc1 hz).1 (by rw [(hc1 hz).2]; rfl) rfl rfl)
    have hz' : (n % 65536 != 0) = false := by simp [hz]
    clear hz hc1 hc2
    go_enter Tryd.func5, Tryd.ntmps5
    go_wp2_with fail
    go_ret2
    exact HP.out
  · have HC := Lib.hid (hc2 hz)
    have hz' : (n % 65536 != 0) = true := by simp [hz]
    clear hz hc1 hc2
    go_enter Tryd.func5, Tryd.ntmps5
    go_wp2_with (at_builtin; (refine wpList_append_own _ rfl (.tmp 43) (.tmp 49) 23 rfl w.heap.size 29 i0 (.agg #[.int .i64 0, .int .i64 0, .int .i64 0, .int .i64 0, .int .i64 0]) 5 40 Tryd.underlying23 HI.out HZ0.out HZ1.out HZ2.out rfl (by decide) (.slice (some ⟨w.heap.size, 0, none⟩) 1 1) 1 (instr 26 d 0 (n % 4294967296 / 65536)) rfl ?c0 ⟨w.heap.size + 1, 0, none⟩ 1 1 (instr 20 d d (n % 65536)) rfl rfl ?c1 ?c2 ?c3 ?c4 ?c5 ?_))
    case c0 => exact (World.ownsRow_lit _ _ 1 (Nat.le_refl _) (by decide) rfl).alloc _
    case c1 => first | exact con_news _ _ (by first | rfl | simp) #[_, _, _, _, _] | (intro j u hj; exact hj)
    case c2 => exact instr_one _ _ _ _
    try (case c3 => decide)
    try (case c4 => decide)
    try (case c5 => first | omega | (simp; omega))
    intro v' w2 hown hgrow hnil
    have HO := Lib.hid hown
    have HG := Lib.hid hgrow
    clear hown hgrow hnil
    go_wp2_with fail
    go_ret2
    exact con_two HB.out (by rw [EM.out]; exact HC.out) HG.out (((Below.refl _ _).alloc (Nat.le_refl _) _).alloc (by simp) _) (by rw [EM.out]; exact HO.out)
set_option maxHeartbeats 1000000 in
theorem rconst_pos (d n : Int) (w : World) (h : conBad d n = false) (h5 : 32767 < n) : Calls Tryd.prog 5 #[.int .i64 d, .int .i64 n] w (ConPost d n w) := by
  obtain ⟨h1, h2, h3, h4⟩ := con_ok h
  have en : n % 4294967296 = n := by omega
  obtain ⟨hc1, hc2⟩ := con_great n en h (Or.inr h5)
  have hbit := and_low n
  rw [en] at hbit
  have hm0 := Int.emod_nonneg n (b := 65536) (by omega)
  have hm1 := Int.emod_lt_of_pos n (b := 65536) (by omega)
  obtain ⟨i0, hi, hz0, hz1, hz2⟩ := info_parts info29
  have HI := Lib.hid hi
  have HZ0 := Lib.hid hz0
  have HZ1 := Lib.hid hz1
  have HZ2 := Lib.hid hz2
  have HB := Lib.hid h
  clear hi hz0 hz1 hz2 h en
  by_cases hz : n % 65536 = 0
  · have HP := Lib.hid (con_one (w := w) _ (L := #[.int .i64 26, .int .i64 d, .int .i64 0, .int .i64 0, .int .i64 (n / 65536)]) HB.out (hc1 hz).1 (by rw [(hc1 hz).2]; rfl) rfl rfl)
    have hz' : (n % 65536 != 0) = false := by simp [hz]
    clear hz hc1 hc2
    go_enter Tryd.func5, Tryd.ntmps5
    go_wp2_with fail
    go_ret2
    exact HP.out
  · have HC := Lib.hid (hc2 hz)
    have hz' : (n % 65536 != 0) = true := by simp [hz]
    clear hz hc1 hc2
    go_enter Tryd.func5, Tryd.ntmps5
    go_wp2_with (at_builtin; (refine wpList_append_own _ rfl (.tmp 43) (.tmp 49) 23 rfl w.heap.size 29 i0 (.agg #[.int .i64 0, .int .i64 0, .int .i64 0, .int .i64 0, .int .i64 0]) 5 40 Tryd.underlying23 HI.out HZ0.out HZ1.out HZ2.out rfl (by decide) (.slice (some ⟨w.heap.size, 0, none⟩) 1 1) 1 (instr 26 d 0 (n / 65536)) rfl ?c0 ⟨w.heap.size + 1, 0, none⟩ 1 1 (instr 20 d d (n % 65536)) rfl rfl ?c1 ?c2 ?c3 ?c4 ?c5 ?_))
    case c0 => exact (World.ownsRow_lit _ _ 1 (Nat.le_refl _) (by decide) rfl).alloc _
    case c1 => first | exact con_news _ _ (by first | rfl | simp) #[_, _, _, _, _] | (intro j u hj; exact hj)
    case c2 => exact instr_one _ _ _ _
    try (case c3 => decide)
    try (case c4 => decide)
    try (case c5 => first | omega | (simp; omega))
    intro v' w2 hown hgrow hnil
    have HO := Lib.hid hown
    have HG := Lib.hid hgrow
    clear hown hgrow hnil
    go_wp2_with fail
    go_ret2
    exact con_two HB.out HC.out HG.out (((Below.refl _ _).alloc (Nat.le_refl _) _).alloc (by simp) _) HO.out
theorem const_any (d n : Int) (w : World) : Calls Tryd.prog 4 #[.int .i64 d, .int .i64 n] w (ConPost d n w) := by
  cases h : conBad d n with
  | true => exact const_bad d n w h
  | false =>
    cases hs : conSmall n with
    | true => exact const_small d n w h hs
    | false =>
      simp [conSmall] at hs
      by_cases h5 : n < -32768
      · exact const_neg d n w h h5
      · exact const_pos d n w h (by omega)
theorem rconst_any (d n : Int) (w : World) : Calls Tryd.prog 5 #[.int .i64 d, .int .i64 n] w (ConPost d n w) := by
  cases h : conBad d n with
  | true => exact rconst_bad d n w h
  | false =>
    cases hs : conSmall n with
    | true => exact rconst_small d n w h hs
    | false =>
      simp [conSmall] at hs
      by_cases h5 : n < -32768
      · exact rconst_neg d n w h h5
      · exact rconst_pos d n w h (by omega)
end Go.Proofs.YtknnimlbddgimaaDoor
