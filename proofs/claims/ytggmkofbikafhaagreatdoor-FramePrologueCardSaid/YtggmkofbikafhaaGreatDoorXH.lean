/- Walks and plain laws on the way to FramePrologue (XF, XG, XH). Conditions: those that each theorem states. -/
import Derived.Test.YtggmkofbikafhaaGreatDoorXC
set_option linter.unusedVariables false
set_option linter.unusedSimpArgs false
set_option maxRecDepth 100000
set_option maxHeartbeats 40000000
namespace Go.Proofs.YtggmkofbikafhaaGreatDoor
open Go.RowKit Go.Lib
def ZCL (d a b i:Nat) (c:UInt8):List UInt8:=
 if c.toNat=100 then [32,114]++decDigits d else if c.toNat=97 then [32,114]++decDigits a else if c.toNat=98 then [32,114]++decDigits b else [32]++decDigits i
def ZT (o:Nat):List UInt8:=(RH (RF o)).data.toList
def printL (o d a b i:Nat):List UInt8:=wordsL.getD (o-1) []++(ZT o).flatMap (ZCL d a b i)
theorem ZAa (o:Nat):(ZT o).length≤3:=by
 have:=RH_len (ZIq o);rw[ZT,Array.length_toList];exact this
theorem ZKL {d a b i:Nat} (hd:d<1000000000000) (ha:a<1000000000000) (hb:b<1000000000000) (hi:i<1000000000000) (c:UInt8):(ZCL d a b i c).length≤14:=by
 have H:∀n:Nat,n<1000000000000→(decDigits n).length≤12:=fun n hn=>ZQ (k:=12) (by simpa using hn) (by decide);have h1:=H d hd;have h2:=H a ha;have h3:=H b hb;have h4:=H i hi;unfold ZCL
 split
 ·simp;omega
 ·split
  ·simp;omega
  ·split
   ·simp;omega
   ·simp;omega
theorem ZBM (k:Nat):(wordsL.getD k []).length≤5:=by
 rcases Nat.lt_or_ge k wordsL.length with h|h
 ·have H:∀x∈wordsL,x.length≤5:=by decide
  have e:wordsL.getD k []=wordsL[k]:=by simp[h]
  rw[e];exact H _ (List.getElem_mem h)
 ·have e:wordsL.getD k []=[]:=by simp[h]
  rw[e];simp
theorem ZCB {d a b i:Nat} (hd:d<1000000000000) (ha:a<1000000000000) (hb:b<1000000000000) (hi:i<1000000000000):∀l:List UInt8,(l.flatMap (ZCL d a b i)).length≤14*l.length
 | []=>by simp
 | c::l=>by
  have:=ZCB hd ha hb hi l;have:=ZKL hd ha hb hi c;rw[List.flatMap_cons,List.length_append,List.length_cons];omega
theorem wrap_nat {m:Nat} (h:m<9223372036854775808):IntKind.i64.wrap (m:Int)=(m:Int):=by
 rw[IntKind.wrap_i64];omega
theorem RF_op (o:Nat) (h:RF o≠32):1≤o∧o≤42:=by
 unfold RF at h
 repeat' split at h
 all_goals first|omega|exact absurd rfl h
theorem ZBS {P:Program} (l m:List UInt8) (h:l.length+m.length≤1000000) (W:World):(Op.stringOp .add (str l) (str m)).run P W=.ok (.string (str (l++m))) W:=by
 rw[run_string_add_sum W (str l) (str m) (by rw[Zb,Zb];omega),ZCN]
theorem ZFy (o:Nat):∀c∈ZT o,c.toNat=100∨c.toNat=97∨c.toNat=98∨c.toNat=105:=by
 have h:=ZIq o;unfold ZT;rcases h with h|h|h|h|h|h|h|h|h|h|h|h|h<;>rw[h]<;>decide
theorem ZCA {d a b i:Nat} {fl:List UInt8} {k:Nat} (hk:k<fl.length):(fl.take (k+1)).flatMap (ZCL d a b i)=(fl.take k).flatMap (ZCL d a b i)++ZCL d a b i fl[k]:=by
 rw[List.take_succ_eq_append_getElem hk,List.flatMap_append];simp
theorem ZH2 (o d a b i:Nat) (w:World) (h:ZA9 o d a b i=true) (hd:d<1000000000000) (ha:a<1000000000000) (hb:b<1000000000000) (hi:i<1000000000000) :
  Calls Tryz.prog 147 #[.agg #[.int .i64 o,.int .i64 d,.int .i64 a,.int .i64 b,.int .i64 i]] w fun e w'=>e=.returned (.tuple #[.string (str (printL o d a b i)),.int .i64 0])∧Below w.heap.size w w':=by
 have HC:=Zh (fun W=>ZED o d a b i W);rw[h] at HC;have h32:RF o≠32:=by
  unfold ZA9 at h;simp only[Bool.and_eq_true,decide_eq_true_eq] at h;exact h.1.1.1.1
 obtain ⟨o1,o2⟩:=RF_op o h32;have HW:=Zh (fun W=>ZDw W);have HF:=Zh (fun W=>Zo o W);have HH:=Zh (fun W=>ZCr (RF o) W (ZIq o));have HI:=Zh (fun (n:Nat) (hn:n<1000000000000) W=>ZKu n W hn);have hX:=Blk.new w 127 #[.int .i64 o,.int .i64 d,.int .i64 a,.int .i64 b,.int .i64 i];have H0:=Zh (Za hX (ZV w (.cells #[.int .i64 o,.int .i64 d,.int .i64 a,.int .i64 b,.int .i64 i] 127)));obtain ⟨m,hm⟩:∃m,o-1=m:=⟨_,rfl⟩
 have hom:(o:Int)-1=(m:Int):=by omega
 have hm42:(m:Int)<42:=by omega
 have hmN:m<42:=by omega
 have HPL:=Zh (show printL o d a b i=wordsL.getD m []++(ZT o).flatMap (ZCL d a b i) from by rw[printL,hm]);obtain ⟨wd,hwd⟩:∃wd,wordsL.getD m []=wd:=⟨_,rfl⟩
 have hwl:wd.length≤5:=by rw[←hwd];exact ZBM m
 rw[hwd] at HPL;have hm0:(0:Int)≤(m:Int):=by omega
 have hwr:IntKind.i64.wrap (m:Int)=(m:Int):=wrap_nat (by omega);clear h h32 hX hm;go_enter Tryz.func147,Tryz.ntmps147
 go_wp2_with fail
 refine (HC.out _).mono ?_;rintro e w1 ⟨rfl,hb1⟩;have H1:=Zh (show Blk w1 w.heap.size 127 #[.int .i64 o,.int .i64 d,.int .i64 a,.int .i64 b,.int .i64 i]∧Below w.heap.size w w1 from ⟨H0.out.1.below hb1 H0.out.1.lt,H0.out.2.trans (ZA hb1 H0.out.2.size)⟩);have c0:w1.cell? ⟨w.heap.size,0,none⟩=some (.int .i64 o):=(H1.out.1.cell 0).trans rfl;have hwdc:∀W:World,W.heap=w1.heap→(W.alloc (.cells ZP 9)).cell? ⟨w1.heap.size,m,none⟩=some (.string (str wd)):=fun W hW=>by
  have h1:=(Blk.new W 9 ZP).cell m;rw[hW] at h1;refine h1.trans ?_;have h2:m<wordsL.length:=by
   have:wordsL.length=42:=rfl;omega
  rw[←hwd]
  simp[ZP,sv,h2]
 have b00:((w1.alloc (.cells ZP 9))).cell? ⟨w.heap.size,0,none⟩=some (.int .i64 o):=ZJ (w:=w1) c0 _;have e00:((w1.alloc (.cells ZP 9))).cell? ⟨w1.heap.size,m,none⟩=some (.string (str wd)):=hwdc (w1) rfl;have b01:((w1.alloc (.cells ZP 9)).drew).cell? ⟨w.heap.size,0,none⟩=some (.int .i64 o):=ZJ (w:=w1) c0 _;have e01:((w1.alloc (.cells ZP 9)).drew).cell? ⟨w1.heap.size,m,none⟩=some (.string (str wd)):=hwdc (w1) rfl;have b02:((w1.alloc (.cells ZP 9)).drew.drew).cell? ⟨w.heap.size,0,none⟩=some (.int .i64 o):=ZJ (w:=w1) c0 _;have e02:((w1.alloc (.cells ZP 9)).drew.drew).cell? ⟨w1.heap.size,m,none⟩=some (.string (str wd)):=hwdc (w1) rfl;have b03:((w1.alloc (.cells ZP 9)).drew.drew.drew).cell? ⟨w.heap.size,0,none⟩=some (.int .i64 o):=ZJ (w:=w1) c0 _;have e03:((w1.alloc (.cells ZP 9)).drew.drew.drew).cell? ⟨w1.heap.size,m,none⟩=some (.string (str wd)):=hwdc (w1) rfl;have b04:((w1.alloc (.cells ZP 9)).drew.drew.drew.drew).cell? ⟨w.heap.size,0,none⟩=some (.int .i64 o):=ZJ (w:=w1) c0 _;have e04:((w1.alloc (.cells ZP 9)).drew.drew.drew.drew).cell? ⟨w1.heap.size,m,none⟩=some (.string (str wd)):=hwdc (w1) rfl;have b05:((w1.alloc (.cells ZP 9)).drew.drew.drew.drew.drew).cell? ⟨w.heap.size,0,none⟩=some (.int .i64 o):=ZJ (w:=w1) c0 _;have e05:((w1.alloc (.cells ZP 9)).drew.drew.drew.drew.drew).cell? ⟨w1.heap.size,m,none⟩=some (.string (str wd)):=hwdc (w1) rfl;have b06:((w1.alloc (.cells ZP 9)).drew.drew.drew.drew.drew.drew).cell? ⟨w.heap.size,0,none⟩=some (.int .i64 o):=ZJ (w:=w1) c0 _;have e06:((w1.alloc (.cells ZP 9)).drew.drew.drew.drew.drew.drew).cell? ⟨w1.heap.size,m,none⟩=some (.string (str wd)):=hwdc (w1) rfl;have a1:(w1.drew).cell? ⟨w.heap.size,0,none⟩=some (.int .i64 o):=c0;have b10:((w1.drew.alloc (.cells ZP 9))).cell? ⟨w.heap.size,0,none⟩=some (.int .i64 o):=ZJ (w:=w1.drew) c0 _;have e10:((w1.drew.alloc (.cells ZP 9))).cell? ⟨w1.heap.size,m,none⟩=some (.string (str wd)):=hwdc (w1.drew) rfl;have b11:((w1.drew.alloc (.cells ZP 9)).drew).cell? ⟨w.heap.size,0,none⟩=some (.int .i64 o):=ZJ (w:=w1.drew) c0 _;have e11:((w1.drew.alloc (.cells ZP 9)).drew).cell? ⟨w1.heap.size,m,none⟩=some (.string (str wd)):=hwdc (w1.drew) rfl;have b12:((w1.drew.alloc (.cells ZP 9)).drew.drew).cell? ⟨w.heap.size,0,none⟩=some (.int .i64 o):=ZJ (w:=w1.drew) c0 _;have e12:((w1.drew.alloc (.cells ZP 9)).drew.drew).cell? ⟨w1.heap.size,m,none⟩=some (.string (str wd)):=hwdc (w1.drew) rfl;have b13:((w1.drew.alloc (.cells ZP 9)).drew.drew.drew).cell? ⟨w.heap.size,0,none⟩=some (.int .i64 o):=ZJ (w:=w1.drew) c0 _;have e13:((w1.drew.alloc (.cells ZP 9)).drew.drew.drew).cell? ⟨w1.heap.size,m,none⟩=some (.string (str wd)):=hwdc (w1.drew) rfl;have b14:((w1.drew.alloc (.cells ZP 9)).drew.drew.drew.drew).cell? ⟨w.heap.size,0,none⟩=some (.int .i64 o):=ZJ (w:=w1.drew) c0 _;have e14:((w1.drew.alloc (.cells ZP 9)).drew.drew.drew.drew).cell? ⟨w1.heap.size,m,none⟩=some (.string (str wd)):=hwdc (w1.drew) rfl;have b15:((w1.drew.alloc (.cells ZP 9)).drew.drew.drew.drew.drew).cell? ⟨w.heap.size,0,none⟩=some (.int .i64 o):=ZJ (w:=w1.drew) c0 _;have e15:((w1.drew.alloc (.cells ZP 9)).drew.drew.drew.drew.drew).cell? ⟨w1.heap.size,m,none⟩=some (.string (str wd)):=hwdc (w1.drew) rfl;have a2:(w1.drew.drew).cell? ⟨w.heap.size,0,none⟩=some (.int .i64 o):=c0;have b20:((w1.drew.drew.alloc (.cells ZP 9))).cell? ⟨w.heap.size,0,none⟩=some (.int .i64 o):=ZJ (w:=w1.drew.drew) c0 _;have e20:((w1.drew.drew.alloc (.cells ZP 9))).cell? ⟨w1.heap.size,m,none⟩=some (.string (str wd)):=hwdc (w1.drew.drew) rfl;have b21:((w1.drew.drew.alloc (.cells ZP 9)).drew).cell? ⟨w.heap.size,0,none⟩=some (.int .i64 o):=ZJ (w:=w1.drew.drew) c0 _;have e21:((w1.drew.drew.alloc (.cells ZP 9)).drew).cell? ⟨w1.heap.size,m,none⟩=some (.string (str wd)):=hwdc (w1.drew.drew) rfl;have b22:((w1.drew.drew.alloc (.cells ZP 9)).drew.drew).cell? ⟨w.heap.size,0,none⟩=some (.int .i64 o):=ZJ (w:=w1.drew.drew) c0 _;have e22:((w1.drew.drew.alloc (.cells ZP 9)).drew.drew).cell? ⟨w1.heap.size,m,none⟩=some (.string (str wd)):=hwdc (w1.drew.drew) rfl;have b23:((w1.drew.drew.alloc (.cells ZP 9)).drew.drew.drew).cell? ⟨w.heap.size,0,none⟩=some (.int .i64 o):=ZJ (w:=w1.drew.drew) c0 _;have e23:((w1.drew.drew.alloc (.cells ZP 9)).drew.drew.drew).cell? ⟨w1.heap.size,m,none⟩=some (.string (str wd)):=hwdc (w1.drew.drew) rfl;have b24:((w1.drew.drew.alloc (.cells ZP 9)).drew.drew.drew.drew).cell? ⟨w.heap.size,0,none⟩=some (.int .i64 o):=ZJ (w:=w1.drew.drew) c0 _;have e24:((w1.drew.drew.alloc (.cells ZP 9)).drew.drew.drew.drew).cell? ⟨w1.heap.size,m,none⟩=some (.string (str wd)):=hwdc (w1.drew.drew) rfl;have a3:(w1.drew.drew.drew).cell? ⟨w.heap.size,0,none⟩=some (.int .i64 o):=c0;have b30:((w1.drew.drew.drew.alloc (.cells ZP 9))).cell? ⟨w.heap.size,0,none⟩=some (.int .i64 o):=ZJ (w:=w1.drew.drew.drew) c0 _;have e30:((w1.drew.drew.drew.alloc (.cells ZP 9))).cell? ⟨w1.heap.size,m,none⟩=some (.string (str wd)):=hwdc (w1.drew.drew.drew) rfl;have b31:((w1.drew.drew.drew.alloc (.cells ZP 9)).drew).cell? ⟨w.heap.size,0,none⟩=some (.int .i64 o):=ZJ (w:=w1.drew.drew.drew) c0 _;have e31:((w1.drew.drew.drew.alloc (.cells ZP 9)).drew).cell? ⟨w1.heap.size,m,none⟩=some (.string (str wd)):=hwdc (w1.drew.drew.drew) rfl;have b32:((w1.drew.drew.drew.alloc (.cells ZP 9)).drew.drew).cell? ⟨w.heap.size,0,none⟩=some (.int .i64 o):=ZJ (w:=w1.drew.drew.drew) c0 _;have e32:((w1.drew.drew.drew.alloc (.cells ZP 9)).drew.drew).cell? ⟨w1.heap.size,m,none⟩=some (.string (str wd)):=hwdc (w1.drew.drew.drew) rfl;have b33:((w1.drew.drew.drew.alloc (.cells ZP 9)).drew.drew.drew).cell? ⟨w.heap.size,0,none⟩=some (.int .i64 o):=ZJ (w:=w1.drew.drew.drew) c0 _;have e33:((w1.drew.drew.drew.alloc (.cells ZP 9)).drew.drew.drew).cell? ⟨w1.heap.size,m,none⟩=some (.string (str wd)):=hwdc (w1.drew.drew.drew) rfl;have a4:(w1.drew.drew.drew.drew).cell? ⟨w.heap.size,0,none⟩=some (.int .i64 o):=c0;have b40:((w1.drew.drew.drew.drew.alloc (.cells ZP 9))).cell? ⟨w.heap.size,0,none⟩=some (.int .i64 o):=ZJ (w:=w1.drew.drew.drew.drew) c0 _;have e40:((w1.drew.drew.drew.drew.alloc (.cells ZP 9))).cell? ⟨w1.heap.size,m,none⟩=some (.string (str wd)):=hwdc (w1.drew.drew.drew.drew) rfl;have b41:((w1.drew.drew.drew.drew.alloc (.cells ZP 9)).drew).cell? ⟨w.heap.size,0,none⟩=some (.int .i64 o):=ZJ (w:=w1.drew.drew.drew.drew) c0 _;have e41:((w1.drew.drew.drew.drew.alloc (.cells ZP 9)).drew).cell? ⟨w1.heap.size,m,none⟩=some (.string (str wd)):=hwdc (w1.drew.drew.drew.drew) rfl;have b42:((w1.drew.drew.drew.drew.alloc (.cells ZP 9)).drew.drew).cell? ⟨w.heap.size,0,none⟩=some (.int .i64 o):=ZJ (w:=w1.drew.drew.drew.drew) c0 _;have e42:((w1.drew.drew.drew.drew.alloc (.cells ZP 9)).drew.drew).cell? ⟨w1.heap.size,m,none⟩=some (.string (str wd)):=hwdc (w1.drew.drew.drew.drew) rfl;have a5:(w1.drew.drew.drew.drew.drew).cell? ⟨w.heap.size,0,none⟩=some (.int .i64 o):=c0;have b50:((w1.drew.drew.drew.drew.drew.alloc (.cells ZP 9))).cell? ⟨w.heap.size,0,none⟩=some (.int .i64 o):=ZJ (w:=w1.drew.drew.drew.drew.drew) c0 _;have e50:((w1.drew.drew.drew.drew.drew.alloc (.cells ZP 9))).cell? ⟨w1.heap.size,m,none⟩=some (.string (str wd)):=hwdc (w1.drew.drew.drew.drew.drew) rfl;have b51:((w1.drew.drew.drew.drew.drew.alloc (.cells ZP 9)).drew).cell? ⟨w.heap.size,0,none⟩=some (.int .i64 o):=ZJ (w:=w1.drew.drew.drew.drew.drew) c0 _;have e51:((w1.drew.drew.drew.drew.drew.alloc (.cells ZP 9)).drew).cell? ⟨w1.heap.size,m,none⟩=some (.string (str wd)):=hwdc (w1.drew.drew.drew.drew.drew) rfl;clear hwdc hwd;clear hb1 HC H0;go_wp2_with fail
 go_region_with (go_at_call 145;refine (HW.out _).mono ?_;rintro e w2 ⟨rfl,rfl⟩)
 all_goals
  clear b00 e00 b01 e01 b02 e02 b03 e03 b04 e04 b05 e05 b06 e06 a1 b10 e10 b11 e11 b12 e12 b13 e13 b14 e14 b15 e15 a2 b20 e20 b21 e21 b22 e22 b23 e23 b24 e24 a3 b30 e30 b31 e31 b32 e32 b33 e33 a4 b40 e40 b41 e41 b42 e42 a5 b50 e50 b51 e51 hm42 hm0 hwr hom;generalize hW2:World.drew _=W2;have hb2:Below w1.heap.size w1 W2:=by
   rw[←hW2]
   repeat' first|exact Below.refl _ _|apply ZAO|apply belA
  have H2:=Zh (show Blk W2 w.heap.size 127 #[.int .i64 o,.int .i64 d,.int .i64 a,.int .i64 b,.int .i64 i]∧Below w.heap.size w W2 from ⟨H1.out.1.below hb2 H1.out.1.lt,H1.out.2.trans (ZA hb2 H1.out.2.size)⟩);have c0:W2.cell? ⟨w.heap.size,0,none⟩=some (.int .i64 o):=(H2.out.1.cell 0).trans rfl;clear hW2 hb2 H1;go_wp2_with fail
  refine (HF.out _).mono ?_;rintro e w3 ⟨rfl,rfl⟩;go_wp2_with fail
  refine (HH.out _).mono ?_;rintro e w3 ⟨rfl,rfl⟩;obtain ⟨s,hs⟩:∃s,RH (RF o)=s:=⟨_,rfl⟩
  obtain ⟨fl,hfl⟩:∃fl,ZT o=fl:=⟨_,rfl⟩
  have HIN:=Zh (show ∀c∈fl,c.toNat=100∨c.toNat=97∨c.toNat=98∨c.toNat=105 from hfl▸ZFy o);have hfn:fl.length≤3:=hfl▸ZAa o;have hsz:s.size=fl.length:=by rw[←hs,←hfl,ZT,Array.length_toList];rfl
  have HG:=Zh (show ∀k (h:k<s.size) (h2:k<fl.length),s[k]'h=fl[k] from by
   intro k h h2;subst hs hfl;simp[ZT,ByteArray.getElem_eq_getElem_data])
  rw[hfl] at HPL;rw[hs];clear HF HH c0 hs hfl HW;go_wp2_with fail
  go_loopw [6,4] (fun i4 sv4 wr=>∃(k:Nat) (cur:List UInt8),k≤s.size∧i4=.int .i64 k∧sv4=.string (str cur)∧Hid (wd++(fl.take k).flatMap (ZCL d a b i)=cur)∧Hid (Blk wr w.heap.size 127 #[.int .i64 o,.int .i64 d,.int .i64 a,.int .i64 b,.int .i64 i]∧Below w.heap.size w wr)) (fun i4 _ _=>s.size-(intOf i4).toNat)
  case atStart=>exact ⟨0,wd,Nat.zero_le _,rfl,rfl,by show _=_;simp,H2.out⟩
  case round=>
   clear H2;obtain ⟨k,cur,hk,rfl,rfl,HCU,HW3⟩:=hrel
   by_cases hlt:k<s.size
   ·have hkl:k<fl.length:=by omega
    have hin:=HIN.out fl[k] (List.getElem_mem hkl);have hgk:=HG.out k hlt hkl;have hcl:cur.length≤47:=by
     rw[←HCU.out]
     have h1:=ZCB hd ha hb hi (fl.take k);rw[List.length_take] at h1;rw[List.length_append];omega
    rcases hin with hin|hin|hin|hin
    all_goals
     have hc:=hin
     rw[←hgk] at hc
    all_goals clear hgk
    ·have hfld:ZCL d a b i fl[k]=[32,114]++decDigits d:=by unfold ZCL;rw[if_pos hin]
     have HI2:=Zh (HI.out d hd wr);have hcell:wr.cell? ⟨w.heap.size,1,none⟩=some (.int .i64 (d:Int)):=(HW3.out.1.cell 1).trans rfl;have hdl:(decDigits d).length≤12:=ZQ (k:=12) (by simpa using hd) (by decide);have ad1:∀W,(Op.stringOp .add ⟨#[32,114]⟩ (str (decDigits d))).run Tryz.prog W=.ok (.string (str (32::114::decDigits d))) W:=fun W=>ZBS [32,114] (decDigits d) (by simp;omega) W;have ad2:∀W,(Op.stringOp .add (str cur) (str (32::114::decDigits d))).run Tryz.prog W=.ok (.string (str (cur++(32::114::decDigits d)))) W:=fun W=>ZBS cur _ (by simp;omega) W;have HN:=Zh (show wd++(fl.take (k+1)).flatMap (ZCL d a b i)=cur++(32::114::decDigits d) from by rw[ZCA hkl,←List.append_assoc,HCU.out,hfld];rfl);clear hfld hdl HCU;go_wp2_with fail
     refine HI2.out.mono ?_;rintro e w4 ⟨rfl,hb4⟩;have HW4:=Zh (show Blk w4 w.heap.size 127 #[.int .i64 o,.int .i64 d,.int .i64 a,.int .i64 b,.int .i64 i]∧Below w.heap.size w w4 from ⟨HW3.out.1.below hb4 HW3.out.1.lt,HW3.out.2.trans (ZA hb4 HW3.out.2.size)⟩);clear hb4 HI2 HW3 hcell;go_wp2_with fail
     go_roundw
     case rel=>exact ⟨k+1,_,by omega,by go_num,rfl,HN.out,HW4.out⟩
     case measure=>simp[intOf];omega
    ·have hfld:ZCL d a b i fl[k]=[32,114]++decDigits a:=by unfold ZCL;rw[if_neg (by omega),if_pos hin]
     have HI2:=Zh (HI.out a ha wr);have hcell:wr.cell? ⟨w.heap.size,2,none⟩=some (.int .i64 (a:Int)):=(HW3.out.1.cell 2).trans rfl;have hdl:(decDigits a).length≤12:=ZQ (k:=12) (by simpa using ha) (by decide);have ad1:∀W,(Op.stringOp .add ⟨#[32,114]⟩ (str (decDigits a))).run Tryz.prog W=.ok (.string (str (32::114::decDigits a))) W:=fun W=>ZBS [32,114] (decDigits a) (by simp;omega) W;have ad2:∀W,(Op.stringOp .add (str cur) (str (32::114::decDigits a))).run Tryz.prog W=.ok (.string (str (cur++(32::114::decDigits a)))) W:=fun W=>ZBS cur _ (by simp;omega) W;have HN:=Zh (show wd++(fl.take (k+1)).flatMap (ZCL d a b i)=cur++(32::114::decDigits a) from by rw[ZCA hkl,←List.append_assoc,HCU.out,hfld];rfl);clear hfld hdl HCU;go_wp2_with fail
     refine HI2.out.mono ?_;rintro e w4 ⟨rfl,hb4⟩;have HW4:=Zh (show Blk w4 w.heap.size 127 #[.int .i64 o,.int .i64 d,.int .i64 a,.int .i64 b,.int .i64 i]∧Below w.heap.size w w4 from ⟨HW3.out.1.below hb4 HW3.out.1.lt,HW3.out.2.trans (ZA hb4 HW3.out.2.size)⟩);clear hb4 HI2 HW3 hcell;go_wp2_with fail
     go_roundw
     case rel=>exact ⟨k+1,_,by omega,by go_num,rfl,HN.out,HW4.out⟩
     case measure=>simp[intOf];omega
    ·have hfld:ZCL d a b i fl[k]=[32,114]++decDigits b:=by unfold ZCL;rw[if_neg (by omega),if_neg (by omega),if_pos hin]
     have HI2:=Zh (HI.out b hb wr);have hcell:wr.cell? ⟨w.heap.size,3,none⟩=some (.int .i64 (b:Int)):=(HW3.out.1.cell 3).trans rfl;have hdl:(decDigits b).length≤12:=ZQ (k:=12) (by simpa using hb) (by decide);have ad1:∀W,(Op.stringOp .add ⟨#[32,114]⟩ (str (decDigits b))).run Tryz.prog W=.ok (.string (str (32::114::decDigits b))) W:=fun W=>ZBS [32,114] (decDigits b) (by simp;omega) W;have ad2:∀W,(Op.stringOp .add (str cur) (str (32::114::decDigits b))).run Tryz.prog W=.ok (.string (str (cur++(32::114::decDigits b)))) W:=fun W=>ZBS cur _ (by simp;omega) W;have HN:=Zh (show wd++(fl.take (k+1)).flatMap (ZCL d a b i)=cur++(32::114::decDigits b) from by rw[ZCA hkl,←List.append_assoc,HCU.out,hfld];rfl);clear hfld hdl HCU;go_wp2_with fail
     refine HI2.out.mono ?_;rintro e w4 ⟨rfl,hb4⟩;have HW4:=Zh (show Blk w4 w.heap.size 127 #[.int .i64 o,.int .i64 d,.int .i64 a,.int .i64 b,.int .i64 i]∧Below w.heap.size w w4 from ⟨HW3.out.1.below hb4 HW3.out.1.lt,HW3.out.2.trans (ZA hb4 HW3.out.2.size)⟩);clear hb4 HI2 HW3 hcell;go_wp2_with fail
     go_roundw
     case rel=>exact ⟨k+1,_,by omega,by go_num,rfl,HN.out,HW4.out⟩
     case measure=>simp[intOf];omega
    ·have hfld:ZCL d a b i fl[k]=[32]++decDigits i:=by unfold ZCL;rw[if_neg (by omega),if_neg (by omega),if_neg (by omega)]
     have HI2:=Zh (HI.out i hi wr);have hcell:wr.cell? ⟨w.heap.size,4,none⟩=some (.int .i64 (i:Int)):=(HW3.out.1.cell 4).trans rfl;have hdl:(decDigits i).length≤12:=ZQ (k:=12) (by simpa using hi) (by decide);have ad1:∀W,(Op.stringOp .add ⟨#[32]⟩ (str (decDigits i))).run Tryz.prog W=.ok (.string (str (32::decDigits i))) W:=fun W=>ZBS [32] (decDigits i) (by simp;omega) W;have ad2:∀W,(Op.stringOp .add (str cur) (str (32::decDigits i))).run Tryz.prog W=.ok (.string (str (cur++(32::decDigits i)))) W:=fun W=>ZBS cur _ (by simp;omega) W;have HN:=Zh (show wd++(fl.take (k+1)).flatMap (ZCL d a b i)=cur++(32::decDigits i) from by rw[ZCA hkl,←List.append_assoc,HCU.out,hfld];rfl);clear hfld hdl HCU;go_wp2_with fail
     refine HI2.out.mono ?_;rintro e w4 ⟨rfl,hb4⟩;have HW4:=Zh (show Blk w4 w.heap.size 127 #[.int .i64 o,.int .i64 d,.int .i64 a,.int .i64 b,.int .i64 i]∧Below w.heap.size w w4 from ⟨HW3.out.1.below hb4 HW3.out.1.lt,HW3.out.2.trans (ZA hb4 HW3.out.2.size)⟩);clear hb4 HI2 HW3 hcell;go_wp2_with fail
     go_roundw
     case rel=>exact ⟨k+1,_,by omega,by go_num,rfl,HN.out,HW4.out⟩
     case measure=>simp[intOf];omega
   ·have hke:k=s.size:=by omega
    have HFN:=Zh (show cur=printL o d a b i from by
     rw[HPL.out,←HCU.out,List.take_of_length_le (by omega)])
    subst hke;have HN:=Zh HW3.out.2;clear HW3 HPL HCU;go_wp2_with fail
    refine bodyPost_ret (v:=.tuple #[.string (str cur),.int .i64 0]) (by simp[results,Tryz.results147,go_sem]) rfl ⟨by rw[HFN.out],HN.out⟩
def ZDh (d a b i:Nat) (c:UInt8):List UInt8:=
  if c.toNat=100 then 114::decDigits d else if c.toNat=97 then 114::decDigits a else if c.toNat=98 then 114::decDigits b else decDigits i
theorem ZGx (d a b i:Nat) (c:UInt8):ZCL d a b i c=32::ZDh d a b i c:=by
  unfold ZCL ZDh
  split
  · rfl
  · split
    · rfl
    · split<;>rfl
theorem ZBf (n:Nat):∀c∈decDigits n,c.toNat≠32:=by
  intro c hc;have:=ZAl n c hc;unfold ZDo at this;omega
theorem ZHD (d a b i:Nat) (c:UInt8):∀x∈ZDh d a b i c,x.toNat≠32:=by
  intro x hx;unfold ZDh at hx;have H:∀n,x∈(114:UInt8)::decDigits n→x.toNat≠32:=by
    intro n h;rcases List.mem_cons.1 h with rfl|h
    · decide
    · exact ZBf n x h
  split at hx
  · exact H _ hx
  · split at hx
    · exact H _ hx
    · split at hx
      · exact H _ hx
      · exact ZBf _ x hx
theorem ZKZ {t:List UInt8} (ht:∀c∈t,c.toNat≠32):∀(cur r:List UInt8),cutR cur (t++32::r)=(cur++t)::cutR [] r:=by
  induction t with
  | nil=>intro cur r;rw[List.nil_append,cutR,if_pos (by decide),List.append_nil]
  | cons c t ih=>
    intro cur r;rw[List.cons_append,cutR,if_neg (ht c (List.mem_cons_self ..)),ih (fun x hx=>ht x (List.mem_cons_of_mem _ hx))];simp
theorem ZKa {t:List UInt8} (ht:∀c∈t,c.toNat≠32):∀cur:List UInt8,cutR cur t=[cur++t]:=by
  induction t with
  | nil=>intro cur;rw[cutR,List.append_nil]
  | cons c t ih=>
    intro cur;rw[cutR,if_neg (ht c (List.mem_cons_self ..)),ih (fun x hx=>ht x (List.mem_cons_of_mem _ hx))];simp
theorem ZCY (t0:List UInt8) (h0:∀c∈t0,c.toNat≠32):∀(ts:List (List UInt8)),(∀t∈ts,∀c∈t,c.toNat≠32)→cutR [] (t0++ts.flatMap (fun t=>32::t))=t0::ts
  | [],_=>by
    rw[List.flatMap_nil,List.append_nil,ZKa h0,List.nil_append]
  | t::ts,h=>by
    rw[List.flatMap_cons,List.cons_append,ZKZ h0,List.nil_append,ZCY t (h t (List.mem_cons_self ..)) ts (fun x hx=>h x (List.mem_cons_of_mem _ hx))]
theorem ZDv (k:Nat):∀c∈wordsL.getD k [],c.toNat≠32:=by
  have H:∀x∈wordsL,∀c∈x,c.toNat≠32:=by decide
  rcases Nat.lt_or_ge k wordsL.length with h|h
  · have e:wordsL.getD k []=wordsL[k]:=by simp[h]
    rw[e];exact H _ (List.getElem_mem h)
  · have e:wordsL.getD k []=[]:=by simp[h]
    rw[e];intro c hc;cases hc
theorem ZFz (o d a b i:Nat):cutR [] (printL o d a b i)=wordsL.getD (o-1) []::(ZT o).map (ZDh d a b i):=by
  have e:(ZT o).flatMap (ZCL d a b i)=((ZT o).map (ZDh d a b i)).flatMap (fun t=>32::t):=by
    induction ZT o with
    | nil=>rfl
    | cons c l ih=>rw[List.flatMap_cons,List.map_cons,List.flatMap_cons,ih,ZGx]
  rw[printL,e,ZCY _ (ZDv _)];intro t ht;obtain ⟨c,_,rfl⟩:=List.mem_map.1 ht;exact ZHD d a b i c
def opP (t:List UInt8):Nat→Nat
  | 0=>0
  | k+1=>if wordsL.getD k []=t then k+1 else opP t k
theorem opP_word:∀o,1≤o→o≤42→opP (wordsL.getD (o-1) []) 42=o:=by
  have H:∀o:Fin 43,1≤o.val→opP (wordsL.getD (o.val-1) []) 42=o.val:=by decide +kernel
  intro o h1 h2;exact H ⟨o,by omega⟩ h1
def ZGU (d a b i:Nat) (x:Nat×Nat×Nat×Nat) (c:UInt8):Nat×Nat×Nat×Nat:=
  if c.toNat=100 then (d,x.2.1,x.2.2.1,x.2.2.2) else if c.toNat=97 then (x.1,a,x.2.2.1,x.2.2.2) else if c.toNat=98 then (x.1,x.2.1,b,x.2.2.2) else (x.1,x.2.1,x.2.2.1,i)
def ZB2 (d a b i:Nat) (l:List UInt8):Nat×Nat×Nat×Nat:=l.foldl (ZGU d a b i) (0,0,0,0)
theorem ZBW (d a b i:Nat) {l:List UInt8} {k:Nat} (hk:k<l.length):ZB2 d a b i (l.take (k+1))=ZGU d a b i (ZB2 d a b i (l.take k)) l[k]:=by
  rw[List.take_succ_eq_append_getElem hk,ZB2,List.foldl_append];rfl
theorem ZEd {n:Nat} (h:regOk false (n:Int)=true):n=0:=by
  unfold regOk at h
  simp at h
  omega
theorem ZJB {o d a b i:Nat} (h:ZA9 o d a b i=true):ZB2 d a b i (ZT o)=(d,a,b,i):=by
  unfold ZA9 at h;simp only[Bool.and_eq_true,decide_eq_true_eq] at h;obtain ⟨⟨⟨⟨h0,h1⟩,h2⟩,h3⟩,h4⟩:=h;have hf:=ZIq o;unfold ZT;generalize RF (o:Int)=f at *;rcases hf with rfl|rfl|rfl|rfl|rfl|rfl|rfl|rfl|rfl|rfl|rfl|rfl|rfl
  all_goals first|exact absurd rfl h0|skip
  all_goals
    first
      | (have e1:d=0:=ZEd h1;subst e1)
      | skip
    first
      | (have e2:a=0:=ZEd h2;subst e2)
      | skip
    first
      | (have e3:b=0:=ZEd h3;subst e3)
      | skip
    first
      | (have e4:i=0:=by
          have h5:=h4;simp[rfB] at h5
          first|exact h5|omega
         subst e4)
      | skip
    first|rfl|(simp[ZB2,RH,ZGU])
def insV (o d a b i:Nat):Value:=.agg #[.int .i64 (o:Int),.int .i64 (d:Int),.int .i64 (a:Int),.int .i64 (b:Int),.int .i64 (i:Int)]
structure PsH (x t0:List UInt8) (ts:List (List UInt8)) (R:Value) (code:Int):Prop where
 cut:cutR [] x=t0::ts
 len:x.length≤65536
 how:(opP t0 42=0∧0<ts.length∧R=insV 0 0 0 0 0∧code=2)∨(∃o d a b i:Nat,ZA9 o d a b i=true∧x=printL o d a b i∧(d<16777216∧a<16777216∧b<16777216∧i<16777216)∧R=insV o d a b i∧code=0)
theorem opP_step (t:List UInt8) (k:Nat):opP t (k+1)=if wordsL.getD k []=t then k+1 else opP t k:=rfl
theorem ZCO (a b:List UInt8):((str a).toList==(str b).toList)=decide (a=b):=by
 rw[Bool.eq_iff_iff];simp[Lib.toList_data,str]
theorem blk5 {W:World} {g:Nat} {t:TypeId} {c0 c1 c2 c3 c4:Value} (h:Blk W g t #[c0,c1,c2,c3,c4]) (a b c d e:Value):Blk (((((W.setCell ⟨g,0,none⟩ a).setCell ⟨g,1,none⟩ b).setCell ⟨g,2,none⟩ c).setCell ⟨g,3,none⟩ d).setCell ⟨g,4,none⟩ e) g t #[a,b,c,d,e]:=((((h.set_ 0 a).set_ 1 b).set_ 2 c).set_ 3 d).set_ 4 e
theorem bel5 {B g:Nat} {w W:World} (h:Below B w W) (hg:B≤g) (a b c d e:Value):Below B w (((((W.setCell ⟨g,0,none⟩ a).setCell ⟨g,1,none⟩ b).setCell ⟨g,2,none⟩ c).setCell ⟨g,3,none⟩ d).setCell ⟨g,4,none⟩ e):=ZIu (ZIu (ZIu (ZIu (ZIu h hg a) hg b) hg c) hg d) hg e
theorem ZFx {W:World} {g:Nat} {t:TypeId} {a b c d e:Value} (h:Blk W g t #[a,b,c,d,e]):W.cell? ⟨g,0,none⟩=some a∧W.cell? ⟨g,1,none⟩=some b∧W.cell? ⟨g,2,none⟩=some c∧W.cell? ⟨g,3,none⟩=some d∧W.cell? ⟨g,4,none⟩=some e:=
 ⟨(h.cell 0).trans rfl,(h.cell 1).trans rfl,(h.cell 2).trans rfl,(h.cell 3).trans rfl,(h.cell 4).trans rfl⟩
theorem rowOf_lt {W:World} {v:Value} {n:Nat} {xs:List Value} (h:RowOf W v n xs) (hn:0<n):∀g,v.ownBlock=some g→g<W.heap.size:=by
 obtain ⟨g',off,cap,rfl,-,-,hg,-⟩:=h.open_ hn;intro g e
 cases e
 exact hg
structure PaW (w:World) (gw gx:Nat) (tv:Value) (tl:List (List UInt8)) (cs:Array Value) (W:World):Prop where
 rb:Blk W w.heap.size 127 #[.int .i64 0,.int .i64 0,.int .i64 0,.int .i64 0,.int .i64 0]
 wb:Blk W gw 9 ZP
 xb:Blk W gx 127 cs
 st:Strs W tv tl
 be:Below w.heap.size w W
 lt:∀g,tv.ownBlock=some g→g<gx
 wl:w.heap.size<gx
theorem PaW.below {w W W':World} {gw gx:Nat} {tv:Value} {tl:List (List UInt8)} {cs:Array Value} (h:PaW w gw gx tv tl cs W) (hb:Below W.heap.size W W'):PaW w gw gx tv tl cs W':=
 ⟨h.rb.below hb h.rb.lt,h.wb.below hb h.wb.lt,h.xb.below hb h.xb.lt,h.st.below hb,h.be.trans (ZA hb h.be.size),h.lt,h.wl⟩
theorem PaW.set {w W:World} {gw gx:Nat} {tv:Value} {tl:List (List UInt8)} {cs cs':Array Value} (h:PaW w gw gx tv tl cs W) (j:Nat) (v:Value) (hc:Blk (W.setCell ⟨gx,j,none⟩ v) gx 127 cs'):PaW w gw gx tv tl cs' (W.setCell ⟨gx,j,none⟩ v):=by
 have hk:ZE (fun q=>q=gx) W (W.setCell ⟨gx,j,none⟩ v):=(ZE.refl (fun q=>q=gx) W).setCell (p:=⟨gx,j,none⟩) (Or.inr rfl) v;have hwl:=h.wl;refine ⟨h.rb.keeps hk (by omega),h.wb.keeps hk (fun e=>absurd (Blk.kind (e▸h.wb) h.xb) (by decide)),hc,?_,ZIu h.be (by omega) v,h.lt,h.wl⟩;exact RowOf.keeps h.st hk (fun g hg e=>by have:=h.lt g hg;omega)
theorem parse_any (x t0:List UInt8) (ts:List (List UInt8)) (R:Value) (code:Int) (w:World) (h:PsH x t0 ts R code) :
  Calls Tryz.prog 112 #[.string (str x)] w fun e w'=>e=.returned (.tuple #[R,.int .i64 code])∧Below w.heap.size w w':=by
 have HC:=Zh (fun W=>cut2_any x W h.len);have HW:=Zh (fun W=>ZDw W);have H:=Zh h;have hsz:(str x).size≤65536:=by rw[Zb];exact h.len
 have hB1:=ZV w (.cells #[.int .i64 0,.int .i64 0,.int .i64 0,.int .i64 0,.int .i64 0] 127);have HR:=Zh (Za (Blk.new w 127 #[.int .i64 0,.int .i64 0,.int .i64 0,.int .i64 0,.int .i64 0]) hB1);obtain ⟨s,hs⟩:∃s,str x=s:=⟨_,rfl⟩
 rw[hs] at hsz HC;rw[hs];have HS:=Zh hs;have e1:decide ((65536:Int)<(s.size:Int))=false:=by simp;omega
 clear h hB1 hs hsz;go_enter Tryz.func112,Tryz.ntmps112
 go_wp2_with fail
 refine (HC.out _).mono ?_;rintro e w1 ⟨⟨tv,rfl,ho⟩,hb1⟩;rw[H.out.cut] at ho;have HO:=Zh ho.strs;have HR1:=Zh (show Blk w1 w.heap.size 127 #[.int .i64 0,.int .i64 0,.int .i64 0,.int .i64 0,.int .i64 0]∧Below w.heap.size w w1 from ⟨HR.out.1.below hb1 HR.out.1.lt,HR.out.2.trans (ZA hb1 HR.out.2.size)⟩);obtain ⟨At,ct,rfl,-,-⟩:=ho.form;clear ho hb1 HC HR;go_wp2_with fail
 refine (HW.out _).mono ?_;rintro e w2 ⟨rfl,rfl⟩;have hlt0:∀g,(Value.slice At (t0::ts).length ct).ownBlock=some g→g<w1.heap.size+1:=fun g hg=>by
  have:=rowOf_lt HO.out (by simp) g hg;omega
 have hal:=ZV w1 (.cells ZP 9);have hbx:=bel2 w1 (.cells ZP 9) (.cells #[.int .i64 0,.int .i64 0,.int .i64 0,.int .i64 0,.int .i64 0] 127);have H0:=Zh (show PaW w w1.heap.size (w1.heap.size+1) (.slice At (t0::ts).length ct) (t0::ts) #[.int .i64 ((opP t0 0:Nat):Int),.int .i64 0,.int .i64 0,.int .i64 0,.int .i64 0] ((w1.alloc (.cells ZP 9)).alloc (.cells #[.int .i64 0,.int .i64 0,.int .i64 0,.int .i64 0,.int .i64 0] 127)) from
  ⟨HR1.out.1.below hbx HR1.out.1.lt,(Blk.new w1 _ ZP).alloc _,ZY (w:=w1.alloc _) (by simp[World.size_alloc]) _ _,HO.out.below hbx,HR1.out.2.trans (ZA hbx HR1.out.2.size),hlt0,by have:=HR1.out.2.size;omega⟩)
 obtain ⟨tv,htv⟩:∃tv,Value.slice At (ts.length+1) ct=tv:=⟨_,rfl⟩
 obtain ⟨gw,hgw⟩:∃gw,w1.heap.size=gw:=⟨_,rfl⟩
 obtain ⟨W0,hW0⟩:∃W0,(w1.alloc (.cells ZP 9)).alloc (.cells #[.int .i64 0,.int .i64 0,.int .i64 0,.int .i64 0,.int .i64 0] 127)=W0:=⟨_,rfl⟩
 rw[hW0] at H0;have HX0:=Zh (Za hW0 hgw);rw[hgw] at H0;clear hlt0 hal hbx HR1 HW hW0 htv tv;go_wp2_with fail
 rw[HX0.out.1];try rw[HX0.out.2]
 clear HX0 HO hgw
 go_loopw [7] (fun i wr=>∃k:Nat,k≤42∧i=.int .i64 k∧Hid (PaW w gw (gw+1) (.slice At (t0::ts).length ct) (t0::ts) #[.int .i64 ((opP t0 k:Nat):Int),.int .i64 0,.int .i64 0,.int .i64 0,.int .i64 0] wr)) (fun i _=>42-(intOf i).toNat)
 case atStart=>exact ⟨0,by omega,rfl,H0.out⟩
 case round=>
  clear H0;obtain ⟨k,hk,rfl,HA⟩:=hrel
  by_cases hlt:k<42
  ·obtain ⟨g,off,cap,ea,h3,h4,hg,hcc⟩:=HA.out.st.open_ (by simp)
   cases ea
   have y0:=hcc 0 (by simp);rw[Nat.add_zero] at y0;have hkw:k<wordsL.length:=by
    have:wordsL.length=42:=rfl;omega
   have y1:wr.cell? ⟨gw,k,none⟩=some (.string (str (wordsL.getD k []))):=by
    refine (HA.out.wb.cell k).trans ?_;simp[ZP,sv,hkw]
   have hst:=opP_step t0 k;obtain ⟨wk,hwk⟩:∃wk,wordsL.getD k []=wk:=⟨_,rfl⟩
   rw[hwk] at y1 hst;obtain ⟨bb,hbb⟩:∃bb,decide (wk=t0)=bb:=⟨_,rfl⟩
   have heq:((str wk).toList==(str t0).toList)=bb:=by rw[ZCO,hbb]
   have y0':=fun q=>(show (wr.drewN q).cell? ⟨g,off,none⟩=_ from y0)
   have y1':=fun q=>(show (wr.drewN q).cell? ⟨gw,k,none⟩=_ from y1)
   have hk42:(k:Int)<42:=by omega
   have h0n:(0:Int)<(((t0::ts).length:Nat):Int):=by rw[List.length_cons];omega
   have h0n':(0:Int)<(ts.length:Int)+1:=by omega
   have hfz:∀q,(wr.drewN q).frozen? ⟨gw+1,0,none⟩=false:=fun q=>HA.out.xb.frozen 0;have hx0:∀q,(wr.drewN q).cell? ⟨gw+1,0,none⟩=some (.int .i64 ((opP t0 k:Nat):Int)):=fun q=>(HA.out.xb.cell 0).trans rfl;have HA2:=Zh (fun q=>HA.out.below (ZM (Below.refl _ _) q));clear hcc hwk HA
   cases bb with
   | true=>
    have hN:opP t0 (k+1)=k+1:=by rw[hst,if_pos (by simpa using hbb)]
    have HN:=Zh hN;clear hst hbb hN;go_wp2_with fail
    go_quiet (fail)
    go_wp2_with fail
    go_roundw
    case rel=>exact ⟨k+1,by omega,by go_num,by rw[HN.out];exact (HA2.out nq).set 0 _ ((HA2.out nq).xb.set_ 0 _)⟩
    case measure=>simp[intOf];omega
   | false=>
    have hN:opP t0 (k+1)=opP t0 k:=by rw[hst,if_neg (by simpa using hbb)]
    have HN:=Zh hN;clear hst hbb hN;go_wp2_with fail
    go_quiet (fail)
    go_wp2_with fail
    go_roundw
    case rel=>exact ⟨k+1,by omega,by go_num,by rw[HN.out];exact HA2.out nq⟩
    case measure=>simp[intOf];omega
  ·have hke:k=42:=by omega
   subst hke;rcases H.out.how with ⟨ho,hts,rfl,rfl⟩|⟨o,d,a,b,i,hch,rfl,hbd,rfl,rfl⟩
   ·have ha:=HA.out
    rw[ho] at ha;have c0:wr.cell? ⟨gw+1,0,none⟩=some (.int .i64 0):=(ha.xb.cell 0).trans rfl;have HF:=Zh (fun W=>Zo 0 W);rw[show RF 0=32 by decide] at HF;have HH:=Zh (fun W=>ZCr 32 W (by unfold IsF;decide));rw[show RH 32=⟨#[]⟩ by decide] at HH;have hR:=blk5 ha.rb (.int .i64 0) (.int .i64 0) (.int .i64 0) (.int .i64 0) (.int .i64 0);obtain ⟨x0,x1,x2,x3,x4⟩:=ZFx hR;have f0:=fun j=>ha.rb.frozen j;have HBE:=Zh (bel5 ha.be (Nat.le_refl _) (.int .i64 0) (.int .i64 0) (.int .i64 0) (.int .i64 0) (.int .i64 0));have hne:((ts.length:Int)+1==1)=false:=by
     have:(ts.length:Int)+1≠1:=by omega
     simpa using this
    obtain ⟨r0,r1,r2,r3,r4⟩:=ZFx ha.rb;clear HA ha hR ho;go_wp2_with fail
    refine (HF.out _).mono ?_;rintro e w3 ⟨rfl,rfl⟩;go_wp2_with fail
    refine (HH.out _).mono ?_;rintro e w3 ⟨rfl,rfl⟩;go_wp2_with fail
    refine bodyPost_ret (v:=.tuple #[insV 0 0 0 0 0,.int .i64 2]) (by simp[results,Tryz.results112,go_sem,x0,x1,x2,x3,x4,insV]) rfl ⟨rfl,HBE.out⟩
   ·have hcut:=H.out.cut
    rw[ZFz] at hcut;injection hcut with ht0 hts
    have h32:RF o≠32:=by
     have h9:=hch;unfold ZA9 at h9;simp only[Bool.and_eq_true,decide_eq_true_eq] at h9;exact h9.1.1.1.1
    obtain ⟨o1,o2⟩:=RF_op o h32;have hop:opP t0 42=o:=by rw[←ht0];exact opP_word o o1 o2
    have ha:=HA.out;rw[hop] at ha;have HALL:=Zh (ZJB hch);have HPR:=Zh (fun W=>ZH2 o d a b i W hch (by omega) (by omega) (by omega) (by omega));have HF:=Zh (fun W=>Zo o W);have HH:=Zh (fun W=>ZCr (RF o) W (ZIq o));have c0:wr.cell? ⟨gw+1,0,none⟩=some (.int .i64 (o:Int)):=(ha.xb.cell 0).trans rfl;have HA1:=Zh ha;obtain ⟨fl,hfl⟩:∃fl,ZT o=fl:=⟨_,rfl⟩
    obtain ⟨s2,hs2⟩:∃s2,RH (RF o)=s2:=⟨_,rfl⟩
    have hsz2:s2.size=fl.length:=by rw[←hs2,←hfl,ZT,Array.length_toList];rfl
    have hfn:fl.length≤3:=hfl▸ZAa o;have HIN:=Zh (show ∀c∈fl,c.toNat=100∨c.toNat=97∨c.toNat=98∨c.toNat=105 from hfl▸ZFy o);have HG:=Zh (show ∀k (h:k<s2.size) (h2:k<fl.length),s2[k]'h=fl[k] from by
     intro k h h2;subst hs2 hfl;simp[ZT,ByteArray.getElem_eq_getElem_data])
    rw[hs2] at HH;rw[hfl] at HALL hts;have hlen:ts.length=fl.length:=by rw[←hts,List.length_map]
    have HTS:=Zh hts;have hne:((ts.length:Int)+1==(s2.size:Int)+1)=true:=by
     have:(ts.length:Int)+1=(s2.size:Int)+1:=by omega
     simpa using this
    have hch':=hch;clear HA ha ht0 hts h32 hop hfl hs2 hch o1 o2;go_wp2_with fail
    refine (HF.out _).mono ?_;rintro e w3 ⟨rfl,rfl⟩;go_wp2_with fail
    refine (HH.out _).mono ?_;rintro e w3 ⟨rfl,rfl⟩;clear c0;go_wp2_with fail
    clear hne
    go_loopw [9] (fun iv wr=>∃j:Nat,j≤s2.size∧iv=.int .i64 j∧Hid (PaW w gw (gw+1) (.slice At (t0::ts).length ct) (t0::ts) #[.int .i64 (o:Int),.int .i64 ((ZB2 d a b i (fl.take j)).1:Nat),.int .i64 ((ZB2 d a b i (fl.take j)).2.1:Nat),.int .i64 ((ZB2 d a b i (fl.take j)).2.2.1:Nat),.int .i64 ((ZB2 d a b i (fl.take j)).2.2.2:Nat)] wr)) (fun iv _=>s2.size-(intOf iv).toNat)
    case atStart=>exact ⟨0,Nat.zero_le _,rfl,HA1.out⟩
    case round=>
     clear HA1;obtain ⟨j,hj,rfl,HA⟩:=hrel
     by_cases hlt:j<s2.size
     ·have hjl:j<fl.length:=by omega
      obtain ⟨g,off,cap,ea,h3,h4,hg,hcc⟩:=HA.out.st.open_ (by simp)
      cases ea
      have y0:=hcc (j+1) (by simp;omega);rw[List.getElem_cons_succ] at y0;have htk0:ts[j]'(by omega)=ZDh d a b i fl[j]:=by
       have h9:=HTS.out;subst h9;simp
      rw[htk0] at y0;have hin:=HIN.out fl[j] (List.getElem_mem hjl);have hgk:=HG.out j hlt hjl;have hji:(j:Int)+1<(((t0::ts).length:Nat):Int):=by rw[List.length_cons];omega
      have hji':(j:Int)+1<(ts.length:Int)+1:=by omega
      obtain ⟨⟨x1,x2,x3,x4⟩,hq⟩:∃q,ZB2 d a b i (fl.take j)=q:=⟨_,rfl⟩
      have ha:=HA.out;rw[hq] at ha;have HA2:=Zh ha;have hfz:=fun m=>ha.xb.frozen m;obtain ⟨q0,q1,q2,q3,q4⟩:=ZFx ha.xb;clear hcc htk0 HA ha;rcases hin with hin|hin|hin|hin
      all_goals
       have hc:=hin
       rw[←hgk] at hc
      all_goals clear hgk
      ·have htk:ZDh d a b i fl[j]=114::decDigits d:=by unfold ZDh;rw[if_pos hin]
       have hst:ZB2 d a b i (fl.take (j+1))=(d,x2,x3,x4):=by rw[ZBW d a b i hjl,hq];unfold ZGU;rw[if_pos hin]
       rw[htk] at y0;have hdg:Dg (decDigits d):=Dg.dec (by omega);have HNU:=Zh (fun W=>ZCu (decDigits d) W hdg);rw[ZAP,show decide (((d:Nat):Int)≤16777216)=true by simp;omega] at HNU;have hsz1:(str (114::decDigits d)).size=(decDigits d).length+1:=by rw[Zb];rfl
       have hext:(str (114::decDigits d)).extract 1 (str (114::decDigits d)).size=str (decDigits d):=by
        rw[ZAA,hsz1,List.take_of_length_le (by simp)];rfl
       have hne:(str (114::decDigits d)).toList.isEmpty=false:=by
        rw[Lib.toList_data,ZU];rfl
       obtain ⟨tk,htk2⟩:∃tk,str (114::decDigits d)=tk:=⟨_,rfl⟩
       rw[htk2] at y0 hext hne hsz1;have h1s:1≤tk.size:=by omega
       have HN:=Zh hst;clear htk hst hdg hq hin hsz1 htk2;go_wp2_with fail
       refine (HNU.out _).mono ?_;rintro e w4 ⟨rfl,rfl⟩;go_wp2_with fail
       go_roundw
       case rel=>exact ⟨j+1,by omega,by go_num,by show PaW _ _ _ _ _ _ _;rw[HN.out];exact HA2.out.set 1 _ (HA2.out.xb.set_ 1 _)⟩
       case measure=>simp[intOf];omega
      ·have htk:ZDh d a b i fl[j]=114::decDigits a:=by unfold ZDh;rw[if_neg (by omega),if_pos hin]
       have hst:ZB2 d a b i (fl.take (j+1))=(x1,a,x3,x4):=by rw[ZBW d a b i hjl,hq];unfold ZGU;rw[if_neg (by omega),if_pos hin]
       rw[htk] at y0;have hdg:Dg (decDigits a):=Dg.dec (by omega);have HNU:=Zh (fun W=>ZCu (decDigits a) W hdg);rw[ZAP,show decide (((a:Nat):Int)≤16777216)=true by simp;omega] at HNU;have hsz1:(str (114::decDigits a)).size=(decDigits a).length+1:=by rw[Zb];rfl
       have hext:(str (114::decDigits a)).extract 1 (str (114::decDigits a)).size=str (decDigits a):=by
        rw[ZAA,hsz1,List.take_of_length_le (by simp)];rfl
       have hne:(str (114::decDigits a)).toList.isEmpty=false:=by
        rw[Lib.toList_data,ZU];rfl
       obtain ⟨tk,htk2⟩:∃tk,str (114::decDigits a)=tk:=⟨_,rfl⟩
       rw[htk2] at y0 hext hne hsz1;have h1s:1≤tk.size:=by omega
       have HN:=Zh hst;clear htk hst hdg hq hin hsz1 htk2;go_wp2_with fail
       refine (HNU.out _).mono ?_;rintro e w4 ⟨rfl,rfl⟩;go_wp2_with fail
       go_roundw
       case rel=>exact ⟨j+1,by omega,by go_num,by show PaW _ _ _ _ _ _ _;rw[HN.out];exact HA2.out.set 2 _ (HA2.out.xb.set_ 2 _)⟩
       case measure=>simp[intOf];omega
      ·have htk:ZDh d a b i fl[j]=114::decDigits b:=by unfold ZDh;rw[if_neg (by omega),if_neg (by omega),if_pos hin]
       have hst:ZB2 d a b i (fl.take (j+1))=(x1,x2,b,x4):=by rw[ZBW d a b i hjl,hq];unfold ZGU;rw[if_neg (by omega),if_neg (by omega),if_pos hin]
       rw[htk] at y0;have hdg:Dg (decDigits b):=Dg.dec (by omega);have HNU:=Zh (fun W=>ZCu (decDigits b) W hdg);rw[ZAP,show decide (((b:Nat):Int)≤16777216)=true by simp;omega] at HNU;have hsz1:(str (114::decDigits b)).size=(decDigits b).length+1:=by rw[Zb];rfl
       have hext:(str (114::decDigits b)).extract 1 (str (114::decDigits b)).size=str (decDigits b):=by
        rw[ZAA,hsz1,List.take_of_length_le (by simp)];rfl
       have hne:(str (114::decDigits b)).toList.isEmpty=false:=by
        rw[Lib.toList_data,ZU];rfl
       obtain ⟨tk,htk2⟩:∃tk,str (114::decDigits b)=tk:=⟨_,rfl⟩
       rw[htk2] at y0 hext hne hsz1;have h1s:1≤tk.size:=by omega
       have HN:=Zh hst;clear htk hst hdg hq hin hsz1 htk2;go_wp2_with fail
       refine (HNU.out _).mono ?_;rintro e w4 ⟨rfl,rfl⟩;go_wp2_with fail
       go_roundw
       case rel=>exact ⟨j+1,by omega,by go_num,by show PaW _ _ _ _ _ _ _;rw[HN.out];exact HA2.out.set 3 _ (HA2.out.xb.set_ 3 _)⟩
       case measure=>simp[intOf];omega
      ·have htk:ZDh d a b i fl[j]=decDigits i:=by unfold ZDh;rw[if_neg (by omega),if_neg (by omega),if_neg (by omega)]
       have hst:ZB2 d a b i (fl.take (j+1))=(x1,x2,x3,i):=by rw[ZBW d a b i hjl,hq];unfold ZGU;rw[if_neg (by omega),if_neg (by omega),if_neg (by omega)]
       rw[htk] at y0;have hdg:Dg (decDigits i):=Dg.dec (by omega);have HNU:=Zh (fun W=>ZCu (decDigits i) W hdg);rw[ZAP,show decide (((i:Nat):Int)≤16777216)=true by simp;omega] at HNU;have HN:=Zh hst;clear htk hst hdg hq hin;go_wp2_with fail
       refine (HNU.out _).mono ?_;rintro e w4 ⟨rfl,rfl⟩;go_wp2_with fail
       go_roundw
       case rel=>exact ⟨j+1,by omega,by go_num,by show PaW _ _ _ _ _ _ _;rw[HN.out];exact HA2.out.set 4 _ (HA2.out.xb.set_ 4 _)⟩
       case measure=>simp[intOf];omega
     ·have hje:j=fl.length:=by omega
      have ha:=HA.out;rw[hje,List.take_length,HALL.out] at ha;obtain ⟨q0,q1,q2,q3,q4⟩:=ZFx ha.xb;have HA2:=Zh ha;clear HA ha;go_wp2_with fail
      refine (HPR.out _).mono ?_;rintro e w4 ⟨rfl,hb4⟩;clear q0 q1 q2 q3 q4;have ha4:=HA2.out.below hb4;obtain ⟨q0,q1,q2,q3,q4⟩:=ZFx ha4.xb;have hR:=blk5 ha4.rb (.int .i64 (o:Int)) (.int .i64 (d:Int)) (.int .i64 (a:Int)) (.int .i64 (b:Int)) (.int .i64 (i:Int));obtain ⟨x0,x1,x2,x3,x4⟩:=ZFx hR;have f0:=fun m=>ha4.rb.frozen m;obtain ⟨r0,r1,r2,r3,r4⟩:=ZFx ha4.rb;have HBE:=Zh (bel5 ha4.be (Nat.le_refl _) (.int .i64 (o:Int)) (.int .i64 (d:Int)) (.int .i64 (a:Int)) (.int .i64 (b:Int)) (.int .i64 (i:Int)));have heq:((str (printL o d a b i)).toList==s.toList)=true:=by rw[HS.out];simp
      have heq2:((str (printL o d a b i)).toList != s.toList)=false:=by rw[HS.out];simp
      obtain ⟨pl,hpl⟩:∃pl,str (printL o d a b i)=pl:=⟨_,rfl⟩
      rw[hpl] at heq heq2;try rw[hpl]
      clear hb4 HA2 ha4 hR hpl;go_wp2_with fail
      refine bodyPost_ret (v:=.tuple #[insV o d a b i,.int .i64 0]) (by simp[results,Tryz.results112,go_sem,x0,x1,x2,x3,x4,insV]) rfl ⟨rfl,HBE.out⟩
end Go.Proofs.YtggmkofbikafhaaGreatDoor
