/- Walks and plain laws on the way to FramePrologue (MC, SY, MN). Conditions: those that each theorem states. -/
import Derived.Test.YtggmkofbikafhaaGreatDoorXX1
set_option linter.unusedVariables false
set_option linter.unusedSimpArgs false
set_option maxRecDepth 100000
set_option maxHeartbeats 40000000
namespace Go.Proofs.YtggmkofbikafhaaGreatDoor
open Go.RowKit Go.Lib
theorem ZIE:nameB textS=true:=by decide +kernel
theorem ZIF:nameB dataS=true:=by decide +kernel
theorem ZGl:nameB stackS=true:=by decide +kernel
theorem ZGY {r:Rng} (hn:nameB r.nm=true) (h1:16≤r.fr) (h2:r.fr≤1000000000) (h3:0≤r.sz) (h4:r.sz≤16777216) (h5:r.fr%16=0) (h6:r.sz%16=0):ZFK r=true:=by
 unfold ZFK;simp only[hn,Bool.true_and,Bool.and_eq_true,decide_eq_true_eq];omega
theorem ZHh {T:Nat} (hT:T≤100000) (h16:T%16=0):ZAU (ZC4 T)=0:=by
 unfold ZAU;rw[if_neg (by simp[ZC4])];rw[if_pos];unfold ZCl;rw[List.all_eq_true];intro k hk;rw[List.mem_range] at hk;simp only[ZC4,List.length_cons,List.length_nil] at hk;have e1:(textS.toList==dataS.toList)=false:=by decide +kernel
 have e2:(textS.toList==stackS.toList)=false:=by decide +kernel
 have e3:(dataS.toList==stackS.toList)=false:=by decide +kernel
 rcases (show k=0∨k=1∨k=2 by omega) with rfl|rfl|rfl
 ·show (ZFK (ZAv T) && !(([]:List Rng).any (clash (ZAv T))))=true
  rw[ZGY ZIE (by simp[ZAv]) (by simp[ZAv]) (by simp[ZAv]) (by simp[ZAv];omega) (by simp[ZAv]) (by simp[ZAv];omega)]
  rfl
 ·show (ZFK (ZEb T) && !(([ZAv T]:List Rng).any (clash (ZEb T))))=true
  rw[ZGY ZIF (by simp[ZEb];omega) (by simp[ZEb];omega) (by simp[ZEb]) (by simp[ZEb]) (by simp[ZEb];omega) (by simp[ZEb])];simp only[List.any_cons,List.any_nil,Bool.or_false,Bool.true_and,clash,ZEb,ZAv,e1,Bool.false_or,ZFh];simp
 ·show (ZFK (ZDi T) && !(([ZAv T,ZEb T]:List Rng).any (clash (ZDi T))))=true
  rw[ZGY ZGl (by simp[ZDi];omega) (by simp[ZDi];omega) (by simp[ZDi]) (by simp[ZDi]) (by simp[ZDi];omega) (by simp[ZDi])];simp only[List.any_cons,List.any_nil,Bool.or_false,Bool.true_and,clash,ZEb,ZAv,ZDi,e2,e3,Bool.false_or,ZFh];simp
theorem ZD9 {w:World} {B:Nat} {v:Value} {l:List Rng} (h:ZAg w B v l) (hn:∀r∈l,r.nm.size≤maxLen):ZBn w v l:=by
 obtain ⟨A,c,rfl,h1,h2⟩:=h.form;refine ⟨A,c,rfl,h1,h2,hn,fun hne=>?_⟩;have hl:0<l.length:=List.length_pos_iff.2 hne;obtain ⟨g,off,e,hg,hc⟩:=ZB3 h.row hl;refine ⟨g,off,e,hg,fun i hi j u hu=>?_⟩;obtain ⟨x0,x1,x2,x3,x4⟩:=hc i hi;have hj:j<5:=by
  rcases Nat.lt_or_ge j 5 with h|h
  ·exact h
  ·rw[Array.getElem?_eq_none (by simp[ZAM];omega)] at hu
   cases hu
 rcases (show j=0∨j=1∨j=2∨j=3∨j=4 by omega) with rfl|rfl|rfl|rfl|rfl
 ·simp[ZAM] at hu;subst hu;exact x0
 ·simp[ZAM] at hu;subst hu;exact x1
 ·simp[ZAM] at hu;subst hu;exact x2
 ·simp[ZAM] at hu;subst hu;exact x3
 ·simp[ZAM] at hu;subst hu;exact x4
theorem ZJK (T:Nat):∀r∈ZC4 T,r.nm.size≤maxLen:=by
 intro r hr;simp only[ZC4,List.mem_cons,List.not_mem_nil,or_false] at hr;rcases hr with rfl|rfl|rfl
 ·show textS.size≤_;decide +kernel
 ·show dataS.size≤_;decide +kernel
 ·show stackS.size≤_;decide +kernel
structure RC3 (w:World) (g T:Nat):Prop where
 a0:w.cell? ⟨g,0,none⟩=some (.string textS)
 a1:w.cell? ⟨g,1,none⟩=some (.int .i64 4096)
 a2:w.cell? ⟨g,2,none⟩=some (.int .i64 (T:Int))
 a3:w.cell? ⟨g,3,none⟩=some (.bool false)
 a4:w.cell? ⟨g,4,none⟩=some (.bool true)
 b0:w.cell? ⟨g,5,none⟩=some (.string dataS)
 b1:w.cell? ⟨g,6,none⟩=some (.int .i64 (4096+(T:Int)))
 b2:w.cell? ⟨g,7,none⟩=some (.int .i64 0)
 b3:w.cell? ⟨g,8,none⟩=some (.bool true)
 b4:w.cell? ⟨g,9,none⟩=some (.bool false)
 c0:w.cell? ⟨g,10,none⟩=some (.string stackS)
 c1:w.cell? ⟨g,11,none⟩=some (.int .i64 (4096+(T:Int)))
 c2:w.cell? ⟨g,12,none⟩=some (.int .i64 16384)
 c3:w.cell? ⟨g,13,none⟩=some (.bool true)
 c4:w.cell? ⟨g,14,none⟩=some (.bool false)
theorem ZAg.rc3 {w:World} {B:Nat} {v:Value} {T:Nat} (h:ZAg w B v (ZC4 T)):∃g c,v=.slice (some ⟨g,0,none⟩) 3 c∧RC3 w g T∧g<w.heap.size:=by
 obtain ⟨g,c,rfl⟩:=ZAJ h (by simp[ZC4]);obtain ⟨g',off,e1,hg,hc⟩:=ZB3 h.row (j:=0) (by simp[ZC4]);injection e1 with e1
 injection e1 with e1 e2
 subst e1;subst e2;obtain ⟨x0,x1,x2,x3,x4⟩:=hc 0 (by simp[ZC4]);obtain ⟨y0,y1,y2,y3,y4⟩:=hc 1 (by simp[ZC4]);obtain ⟨z0,z1,z2,z3,z4⟩:=hc 2 (by simp[ZC4]);exact ⟨g,c,rfl,⟨x0,x1,x2,x3,x4,y0,y1,y2,y3,y4,z0,z1,z2,z3,z4⟩,hg⟩
theorem RC3.below {w w':World} {g T:Nat} (h:RC3 w g T) (hb:Below w.heap.size w w'):RC3 w' g T:=by
 have hk:∀ {a:Addr} {v:Value},w.cell? a=some v→w'.cell? a=some v:=fun h=>(hb.cell (cell_lt h)).trans h;exact ⟨hk h.a0,hk h.a1,hk h.a2,hk h.a3,hk h.a4,hk h.b0,hk h.b1,hk h.b2,hk h.b3,hk h.b4,hk h.c0,hk h.c1,hk h.c2,hk h.c3,hk h.c4⟩
theorem ZIh (T n gr cr gF cF:Nat) (Ab:Option Addr) (cb:Nat) (w:World) (hs:ZBn w (.slice (some ⟨gr,0,none⟩) 3 cr) (ZC4 T)) (hr:RC3 w gr T) (hf0:w.cell? ⟨gF,0,none⟩=some (.int .i64 4096)) (hf1:w.cell? ⟨gF,1,none⟩=some (.slice Ab n cb)) (hn:0<n) (hnT:n≤T) (hT:T≤100000) (h16:T%16=0) :
  Calls Tryz.prog 33 #[.agg #[.slice (some ⟨gr,0,none⟩) 3 cr,.slice (some ⟨gF,0,none⟩) 1 cF,.int .i64 4096]] w fun e w'=>e=.returned (.int .i64 0)∧Below w.heap.size w w':=by
 have hb:=ZV w (.cells #[.slice (some ⟨gr,0,none⟩) 3 cr,.slice (some ⟨gF,0,none⟩) 1 cF,.int .i64 4096] 46);have HCK:=Zh (ZBs (.slice (some ⟨gr,0,none⟩) 3 cr) (ZC4 T) _ (hs.below hb));rw[ZHh hT h16] at HCK;have HB:=Zh hb;have HBL:=Zh (Blk.new w 46 #[.slice (some ⟨gr,0,none⟩) 3 cr,.slice (some ⟨gF,0,none⟩) 1 cF,.int .i64 4096]);have HR:=Zh (hr.below hb);have HF:=Zh (Za ((hb.cell (cell_lt hf0)).trans hf0) ((hb.cell (cell_lt hf1)).trans hf1));clear hs hr hf0 hf1 hb;go_enter Tryz.func33,Tryz.ntmps33
 obtain ⟨q,hq⟩:∃q,w.heap.size=q:=⟨_,rfl⟩
 obtain ⟨w1,hw1⟩:∃w1,w.alloc (.cells #[.slice (some ⟨gr,0,none⟩) 3 cr,.slice (some ⟨gF,0,none⟩) 1 cF,.int .i64 4096] 46)=w1:=⟨_,rfl⟩
 go_upto_region 1 with fail
 rw[hw1,hq] at HB HBL;rw[hw1] at HCK HR HF;try rw[hw1,hq]
 have HQ:=Zh hq;clear hw1 hq;have i0:=(HBL.out.cellq rfl:w1.cell? ⟨q,0,none⟩=some (.slice (some ⟨gr,0,none⟩) 3 cr))
 have i1:=(HBL.out.cellq rfl:w1.cell? ⟨q,1,none⟩=some (.slice (some ⟨gF,0,none⟩) 1 cF))
 have i2:=(HBL.out.cellq rfl:w1.cell? ⟨q,2,none⟩=some (.int .i64 4096))
 go_wp2_with fail
 refine HCK.out.mono ?_;rintro e w2 ⟨rfl,hb2⟩;have H2:Hid (Below w.heap.size w w2∧RC3 w2 gr T∧(w2.cell? ⟨gF,0,none⟩=some (.int .i64 4096)∧w2.cell? ⟨gF,1,none⟩=some (.slice Ab n cb))∧w2.cell? ⟨q,0,none⟩=some (.slice (some ⟨gr,0,none⟩) 3 cr)∧w2.cell? ⟨q,1,none⟩=some (.slice (some ⟨gF,0,none⟩) 1 cF)∧w2.cell? ⟨q,2,none⟩=some (.int .i64 4096)):=
  ⟨by rw[HQ.out];exact HB.out.trans (ZA hb2 (by have:=HB.out.size;have:=HQ.out;omega)),HR.out.below hb2,⟨(hb2.cell (cell_lt HF.out.1)).trans HF.out.1,(hb2.cell (cell_lt HF.out.2)).trans HF.out.2⟩,(hb2.cell (cell_lt i0)).trans i0,(hb2.cell (cell_lt i1)).trans i1,(hb2.cell (cell_lt i2)).trans i2⟩
 clear hb2 i0 i1 i2 HCK HB HBL HR HF;have i0:=H2.out.2.2.2.1;have i1:=H2.out.2.2.2.2.1;have i2:=H2.out.2.2.2.2.2;have r2:=H2.out.2.1.a2;have r7:=H2.out.2.1.b2;have r12:=H2.out.2.1.c2;have e1:IntKind.i64.wrap (T:Int)=(T:Int):=IntWalk.i64_in _ (by omega);obtain ⟨S,hS⟩:∃S:Int,(T:Int)+16384=S:=⟨_,rfl⟩
 have e2:IntKind.i64.wrap ((T:Int)+16384)=S:=by rw[IntWalk.i64_in _ (by omega)];exact hS
 have e3:S≤1048576:=by omega
 clear hS;go_wp2_with fail
 go_loopw [4,3] (fun iv sv W=>∃(k:Nat) (s:Int),k≤3∧iv=.int .i64 k∧sv=.int .i64 s∧W=w2∧(k=0→s=0)∧(k=1→s=T)∧(k=2→s=T)∧(k=3→s=S)) (fun iv _ _=>3-(Go.RowKit.intOf iv).toNat)
 case atStart=>exact ⟨0,0,by omega,rfl,rfl,rfl,fun _=>rfl,fun h=>by omega,fun h=>by omega,fun h=>by omega⟩
 case round=>
  obtain ⟨k,s,hk,rfl,rfl,rfl,h0,h1,h2,h3⟩:=hrel;rcases (show k=0∨k=1∨k=2∨k=3 by omega) with rfl|rfl|rfl|rfl
  ·obtain rfl:=h0 rfl
   clear h0 h1 h2 h3;go_wp2_with fail
   go_roundw
   case rel=>exact ⟨1,T,by omega,by go_num,by go_num,trivial,fun h=>by omega,fun h=>rfl,fun h=>by omega,fun h=>by omega⟩
   case measure=>first|(simp[Go.RowKit.intOf];done)|(simp[Go.RowKit.intOf];omega)
  ·obtain rfl:=h1 rfl
   clear h0 h1 h2 h3;go_wp2_with fail
   go_roundw
   case rel=>exact ⟨2,T,by omega,by go_num,by go_num,trivial,fun h=>by omega,fun h=>by omega,fun h=>rfl,fun h=>by omega⟩
   case measure=>first|(simp[Go.RowKit.intOf];done)|(simp[Go.RowKit.intOf];omega)
  ·obtain rfl:=h2 rfl
   clear h0 h1 h2 h3;go_wp2_with fail
   go_roundw
   case rel=>exact ⟨3,S,by omega,by go_num,by go_num,trivial,fun h=>by omega,fun h=>by omega,fun h=>by omega,fun h=>rfl⟩
   case measure=>first|(simp[Go.RowKit.intOf];done)|(simp[Go.RowKit.intOf];omega)
  ·obtain rfl:=h3 rfl
   clear h0 h1 h2 h3 r2 r7 r12 e1 e2;go_wp2_with fail
   clear e3;obtain ⟨wA,hwA⟩:∃wA,wA=wr:=⟨_,rfl⟩
   subst hwA
   go_loopw [5] (fun iv W=>∃k:Nat,k≤1∧iv=.int .i64 k∧Hid (Below wA.heap.size wA W)) (fun iv _=>1-(Go.RowKit.intOf iv).toNat)
   case atStart=>exact ⟨0,by omega,rfl,Below.refl _ _⟩
   case round=>
    obtain ⟨k,hk,rfl,HB0⟩:=hrel;have HRC:=Zh H2.out.2.1;have f0:=(HB0.out.cell (cell_lt H2.out.2.2.1.1)).trans H2.out.2.2.1.1;have f1:=(HB0.out.cell (cell_lt H2.out.2.2.1.2)).trans H2.out.2.2.1.2;replace i0:=(HB0.out.cell (cell_lt i0)).trans i0;replace i1:=(HB0.out.cell (cell_lt i1)).trans i1;clear i2;rcases (show k=0∨k=1 by omega) with rfl|rfl
    ·have en:((n:Int)==0)=false:=beq_eq_false_iff_ne.2 (by omega)
     obtain ⟨wk,hwk⟩:∃wk,wk=wr:=⟨_,rfl⟩
     subst hwk;have HBK:=Zh (ZV wk (.cells #[.int .i64 4096,.slice Ab n cb] 114));have HFB:=Zh (Blk.new wk 114 #[.int .i64 4096,.slice Ab n cb]);replace HRC:=Zh (HRC.out.below HB0.out);go_wp2_with fail
     obtain ⟨qf,hqf⟩:∃qf,wk.heap.size=qf:=⟨_,rfl⟩
     obtain ⟨w5,hw5⟩:∃w5,wk.alloc (.cells #[.int .i64 4096,.slice Ab n cb] 114)=w5:=⟨_,rfl⟩
     replace i0:=(HBK.out.cell (cell_lt i0)).trans i0;replace i1:=(HBK.out.cell (cell_lt i1)).trans i1;rw[hw5,hqf] at HFB;rw[hw5] at HBK i0 i1 ⊢;try rw[hqf]
     clear f0 f1;have f0:w5.cell? ⟨qf,0,none⟩=some (.int .i64 4096):=HFB.out.cellq rfl;have f1:w5.cell? ⟨qf,1,none⟩=some (.slice Ab n cb):=HFB.out.cellq rfl;have g1:IntKind.i64.wrap (4096+(T:Int))=4096+(T:Int):=IntWalk.i64_in _ (by omega);have g2:IntKind.i64.wrap (4096+(T:Int)-4096)=(T:Int):=by rw[IntWalk.i64_in _ (by omega)];omega
     have g3:decide ((4096:Int)<4096+(T:Int))=true:=decide_eq_true (by omega);have g4:(n:Int)≤(T:Int):=by omega
     have g5:(0:Int)<(T:Int):=by omega
     have g6:0<T:=by omega
     clear hw5 hqf en
     go_loopw [8,7] (fun jv nv W=>∃j:Nat,j≤3∧jv=.int .i64 j∧nv=.bool (decide (0<j))∧Hid (Below w5.heap.size w5 W)) (fun jv _ _=>3-(Go.RowKit.intOf jv).toNat)
     case atStart=>exact ⟨0,by omega,rfl,by rfl,Below.refl _ _⟩
     case round=>
      obtain ⟨j,hj,rfl,rfl,HBI⟩:=hrel;obtain ⟨wi,hwi⟩:∃wi,wi=wr:=⟨_,rfl⟩
      subst hwi;have R:=Zh ((HRC.out.below HBK.out).below HBI.out);replace i0:=(HBI.out.cell (cell_lt i0)).trans i0;have f0:∀o,(wi.alloc o).cell? ⟨qf,0,none⟩=some (.int .i64 4096):=fun o=>ZJ ((HBI.out.cell (cell_lt f0)).trans f0) o;have f1:∀o,(wi.alloc o).cell? ⟨qf,1,none⟩=some (.slice Ab n cb):=fun o=>ZJ ((HBI.out.cell (cell_lt f1)).trans f1) o;rcases (show j=0∨j=1∨j=2∨j=3 by omega) with rfl|rfl|rfl|rfl
      ·have x0:=R.out.a0
       have x1:=R.out.a1;have x2:=R.out.a2;have x3:=R.out.a3;have x4:=R.out.a4;go_wp2_with fail
       refine ⟨?_,?measure⟩;iterate 60 (try apply Exists.intro)
       repeat apply Exists.intro
       refine ⟨?rel,rfl⟩
       case rel=>exact ⟨1,by omega,by go_num,by rfl,belA HBI.out _⟩
       case measure=>first|(simp[Go.RowKit.intOf];done)|(simp[Go.RowKit.intOf];omega)
      ·have x0:=R.out.b0
       have x1:=R.out.b1;have x2:=R.out.b2;have x3:=R.out.b3;have x4:=R.out.b4;go_wp2_with fail
       refine ⟨?_,?measure⟩;iterate 60 (try apply Exists.intro)
       repeat apply Exists.intro
       refine ⟨?rel,rfl⟩
       case rel=>exact ⟨2,by omega,by go_num,by rfl,belA HBI.out _⟩
       case measure=>first|(simp[Go.RowKit.intOf];done)|(simp[Go.RowKit.intOf];omega)
      ·have x0:=R.out.c0
       have x1:=R.out.c1;have x2:=R.out.c2;have x3:=R.out.c3;have x4:=R.out.c4;go_wp2_with fail
       refine ⟨?_,?measure⟩;iterate 60 (try apply Exists.intro)
       repeat apply Exists.intro
       refine ⟨?rel,rfl⟩
       case rel=>exact ⟨3,by omega,by go_num,by rfl,belA HBI.out _⟩
       case measure=>first|(simp[Go.RowKit.intOf];done)|(simp[Go.RowKit.intOf];omega)
      ·go_wp2_with fail
       go_roundw
       case rel=>exact ⟨1,by omega,by go_num,(HB0.out.trans (ZA (HBK.out.trans (ZA HBI.out HBK.out.size)) HB0.out.size))⟩
       case measure=>first|(simp[Go.RowKit.intOf];done)|(simp[Go.RowKit.intOf];omega)
    ·go_wp2_with fail
     go_ret;exact ⟨rfl,H2.out.1.trans (ZA HB0.out H2.out.1.size)⟩
structure Sy where
 nm:ByteArray
 at_:Int
def Sy.cells (s:Sy):List Value:=[.string s.nm,.int .i64 s.at_]
theorem sy_len (s:Sy):s.cells.length=2:=rfl
theorem und_sys:Tryz.prog.underlying 50=some (.slice 116):=by kernel_rfl
theorem inf_sy:(Tryz.prog.info? 116).map (fun i=>(i.zero,i.size,i.bytes))=some (some (.agg #[.string ⟨#[]⟩,.int .i64 0]),2,24):=by kernel_rfl
theorem arowY:ZHl 50 116 2 24:=ZAy und_sys inf_sy rfl (by decide)
def OwnY (W:World) (B:Nat) (v:Value) (l:List Sy):Prop:=W.ownsRow B 116 2 v l.length (l.flatMap Sy.cells)
theorem OwnY.row {W:World} {B:Nat} {v:Value} {l:List Sy} (h:OwnY W B v l):RowOf W v l.length (l.flatMap Sy.cells):=RowOf.own h
theorem ZC3 {W:World} {A:Option Addr} {n c:Nat} {l:List Sy} (h:RowOf W (.slice A n c) l.length (l.flatMap Sy.cells)) {j:Nat} (hj:j<l.length) :
  ∃g off,A=some ⟨g,off,none⟩∧g<W.heap.size∧∀i (hi:i<l.length),W.cell? ⟨g,off+i*2,none⟩=some (.string l[i].nm)∧W.cell? ⟨g,off+i*2+1,none⟩=some (.int .i64 l[i].at_):=by
 obtain ⟨g,off,cap,e,h2,h3,h4,h5⟩:=RowOf.open_ h (by omega);injection e with e1 e2 e3
 refine ⟨g,off,e1,h4,fun i hi=>?_⟩;have hf:=fun q (hq:q<2)=>Zg Sy.cells 2 sy_len l i hi q hq;refine ⟨?_,?_⟩
 ·exact h5 (i*2) _ (by have:=hf 0 (by omega);rw[Nat.add_zero] at this;rw[this];rfl)
 ·rw[Nat.add_assoc];exact h5 (i*2+1) _ (by rw[hf 1 (by omega)];rfl)
def atY:List Sy→ByteArray→Int
 | [],_=>-1
 | x::l,s=>if x.nm.toList==s.toList then x.at_ else atY l s
theorem ZKw:∀ {l:List Sy} {k:Nat} (hk:k<l.length) {s:ByteArray},(l[k].nm.toList==s.toList)=true→(∀i (hi:i<l.length),i<k→(l[i].nm.toList==s.toList)=false)→atY l s=l[k].at_
 | x::l,0,_,s,h,_=>by
  rw[atY];simp only[List.getElem_cons_zero] at h ⊢;rw[if_pos h]
 | x::l,k+1,hk,s,h,hn=>by
  have h0:=hn 0 (by simp) (by omega);simp only[List.getElem_cons_zero] at h0;rw[atY,h0];simp only[List.getElem_cons_succ] at h ⊢;exact ZKw (by simpa using hk) h (fun i hi hik=>by have:=hn (i+1) (by simpa using hi) (by omega);simpa using this)
theorem ZHj:∀ {l:List Sy} {s:ByteArray},(∀i (hi:i<l.length),(l[i].nm.toList==s.toList)=false)→atY l s=-1
 | [],_,_=>rfl
 | x::l,s,hn=>by
  have h0:=hn 0 (by simp);simp only[List.getElem_cons_zero] at h0;rw[atY,h0];exact ZHj (fun i hi=>by have:=hn (i+1) (by simpa using hi);simpa using this)
theorem at25_any (A:Option Addr) (c:Nat) (l:List Sy) (s:ByteArray) (w:World) (h:RowOf w (.slice A l.length c) l.length (l.flatMap Sy.cells)) (hl:l.length≤1000) :
  Calls Tryz.prog 12 #[.slice A l.length c,.string s] w fun e w'=>e=.returned (.int .i64 (atY l s))∧w'=w:=by
 have HR:=Zh h;clear h;obtain ⟨n,hn⟩:∃n,l.length=n:=⟨_,rfl⟩
 have HN:=Zh hn;rw[hn] at HR hl ⊢;clear hn;obtain ⟨R,hR⟩:∃R,atY l s=R:=⟨_,rfl⟩
 have HQ:=Zh hR;rw[hR];clear hR;go_enter Tryz.func12,Tryz.ntmps12
 go_wp2_with fail
 go_loopw [5] (fun v W=>∃k:Nat,k≤n∧v=.int .i64 k∧W=w∧Hid (∀i (hi:i<l.length),i<k→(l[i].nm.toList==s.toList)=false)) (fun v _=>n-(Go.RowKit.intOf v).toNat)
 case atStart=>exact ⟨0,by omega,rfl,rfl,fun i hi h=>by omega⟩
 case round=>
  obtain ⟨k,hk,rfl,rfl,HM⟩:=hrel
  by_cases hlt:k<n
  ·have hkl:k<l.length:=by rw[HN.out];exact hlt
   have hrow:RowOf wr (.slice A n c) l.length (l.flatMap Sy.cells):=by rw[HN.out];exact HR.out
   obtain ⟨g,off,rfl,hg,hc⟩:=ZC3 hrow hkl;obtain ⟨c0,c1⟩:=hc k hkl;obtain ⟨x,hx⟩:∃x,l[k]=x:=⟨_,rfl⟩
   rw[hx] at c0 c1;obtain ⟨nm,at_⟩:=x;dsimp only at c0 c1;clear hc hrow hg
   cases he:(nm.toList==s.toList) with
   | true=>
    have HF:Hid (at_=R):=by
     show _=_
     rw[←HQ.out,ZKw hkl (by rw[hx];exact he) HM.out,hx]
    clear HM hx;go_wp2_with fail
    go_ret;exact ⟨by rw[HF.out];rfl,rfl⟩
   | false=>
    have HM2:=Zh (show ∀i (hi:i<l.length),i<k+1→(l[i].nm.toList==s.toList)=false from fun i hi hik=>by
     rcases Nat.lt_or_ge i k with h|h
     ·exact HM.out i hi h
     ·have:i=k:=by omega
      subst this;rw[hx];exact he)
    clear HM hx;go_wp2_with fail
    go_roundw
    case rel=>exact ⟨k+1,by omega,by go_num,trivial,HM2.out⟩
    case measure=>first|(simp[Go.RowKit.intOf];done)|(simp[Go.RowKit.intOf];omega)
  ·have hke:k=n:=by omega
   subst hke;have HF:Hid (R=-1):=by
    show _=_
    rw[←HQ.out]
    exact ZHj (fun i hi=>HM.out i hi (by rw[←HN.out];exact hi))
   go_wp2_with fail
   go_ret;exact ⟨by rw[HF.out];rfl,rfl⟩
theorem ZCD (v:Value) (l:List UInt8) (w:World) (h:RowOf w v l.length (l.map byt)) (hl:l.length≤16777216) :
  Calls Tryz.prog 30 #[v] w fun e w'=>(∃v',e=.returned v'∧OwnB w' w.heap.size v' l)∧Below w.heap.size w w':=by
 have hA:Below w.heap.size w (w.alloc (.cells #[] 5)):=ZV _ _;have hown:OwnB (w.alloc (.cells #[] 5)) w.heap.size (.slice (some ⟨w.heap.size,0,none⟩) 0 0) []:=ZAT _ _;obtain ⟨v',w1,e1,e2,e3,e4⟩:=app_any arowB 32 hown (h.below hA) (by simp) (by
  intro y hy;obtain ⟨i,_,rfl⟩:=List.mem_map.1 hy
  rfl) (by simp[maxLen];omega) (by simp;omega) (by simp[World.size_alloc])
 have e2':OwnB w1 w.heap.size v' l:=by
  unfold OwnB
  simpa using e2
 have hb:Below w.heap.size w w1:=hA.trans (((ZE.refl (fun k=>k=w.heap.size) _).grown e3 (fun g hg=>Or.inr (by cases hg;rfl))).toBelow (by simp[World.size_alloc]) (fun k hk e=>by omega));have HAP:=Zh e1;have HN:=Zh (Za e2' hb);obtain ⟨Av,cv,rfl,-,-⟩:=ZR e2';obtain ⟨A,c,rfl,-,-⟩:=h.form;clear h e1 e2 e3 e4 e2' hb hA hown;go_enter Tryz.func30,Tryz.ntmps30
 go_wp2_with (at_builtin;refine ZK rfl (.tmp 3) (.tmp 4) 32 rfl rfl rfl HAP.out ?_)
 go_ret;exact ⟨⟨_,rfl,HN.out.1⟩,HN.out.2⟩
def nums (l:List UInt8):List Int:=l.map fun c=>(c.toNat:Int)
theorem ZBC (l:List UInt8):(nums l).length=l.length:=by simp[nums]
theorem ZIC (l:List UInt8):isBytes (nums l):=by
 intro x hx;obtain ⟨c,-,rfl⟩:=List.mem_map.1 hx;have:=c.toNat_lt;omega
theorem OwnB.bsl {w:World} {B:Nat} {v:Value} {l:List UInt8} (h:OwnB w B v l):BSl w v (nums l):=by
 obtain ⟨A,c,rfl,h1,h2,h3⟩:=RowOf.own h;refine ⟨A,c,by rw[ZBC],by rw[ZBC];exact h1,h2,ZIC l,fun hne=>?_⟩;have hl:0<l.length:=by
  rw[←ZBC]
  exact List.length_pos_iff.2 hne
 obtain ⟨g,off,e,hg,hc⟩:=h3 hl;refine ⟨g,off,e,hg,fun i hi=>?_⟩;rw[ZBC] at hi;have:=hc i (byt l[i]) (by simp[hi]);rw[this];simp[nums,byt,hi]
def keys0 (T:Nat) (cs:List Int):List (Rng×List Int×List Int):=
 [(ZAv T,splice (List.replicate T 0) 0 cs,splice (List.replicate T 0) 0 cs),(ZEb T,[],[]),(ZDi T,List.replicate 16384 0,List.replicate 16384 0)]
theorem ZIT {w:World} {T:Nat} {ns:List Area} {cs:List Int} (h:Fresh w (ZC4 T) ns) (hl:∀a∈ns,(a.xs.length:Int)=a.r.sz) (h0:0<cs.length) (h1:cs.length≤T) (hT:T≤100000):(fillR ns 4096 cs).1=0∧((fillR ns 4096 cs).2.map ZDn).map Area.key=keys0 T cs:=by
 obtain ⟨a,b,c,rfl⟩:∃a b c,ns=[a,b,c]:=by
  have:=congrArg List.length h.ranges;simp only[List.length_map,ZC4,List.length_cons,List.length_nil] at this
  match ns,this with
  | [a,b,c],_=>exact ⟨a,b,c,rfl⟩
 have hr:=h.ranges;simp only[ZC4,List.map_cons,List.map_nil,List.cons.injEq,and_true] at hr;obtain ⟨ra,rb,rc⟩:=hr;have za:=h.zero a (by simp);have zb:=h.zero b (by simp);have zc:=h.zero c (by simp);have la:=hl a (by simp);have lb:=hl b (by simp);have lc:=hl c (by simp);rw[ra] at la;rw[rb] at lb;rw[rc] at lc;simp only[ZAv,ZEb,ZDi] at la lb lc;have la':a.xs.length=T:=by omega
 have lb':b.xs.length=0:=by omega
 have lc':c.xs.length=16384:=by omega
 have hha:a.has 4096 (cs.length:Int)=true:=by
  simp[Area.has,hasB,ra,ZAv];omega
 have hne:cs≠[]:=by
  intro e;rw[e] at h0
  simp at h0
 have hfd:ZBK [a,b,c] 4096 (cs.length:Int)=some a:=by
  unfold ZBK;rw[List.find?_cons_of_pos (by simpa using hha)]
 unfold fillR;rw[if_neg (by omega),if_neg hne,hfd];refine ⟨rfl,?_⟩;dsimp only;unfold ZH7 updA;rw[if_pos hha];simp only[List.map_cons,List.map_nil,Area.key,ZDn,keys0];rw[ra,rb,rc];have e1:a.xs=List.replicate T 0:=by rw[←la'];exact za.1
 have e2:b.xs=[]:=List.length_eq_zero_iff.1 lb';have e3:c.xs=List.replicate 16384 0:=by rw[←lc'];exact zc.1
 simp only[ZAv];rw[e1,e2,e3]
 rfl
theorem new4_any (T gr cr gF cF B0 B1:Nat) (bv:Value) (tx:List UInt8) (w:World) (hr:ZAg w B0 (.slice (some ⟨gr,0,none⟩) 3 cr) (ZC4 T)) (hf0:w.cell? ⟨gF,0,none⟩=some (.int .i64 4096)) (hf1:w.cell? ⟨gF,1,none⟩=some bv) (hb:OwnB w B1 bv tx) (hn:0<tx.length) (hnT:tx.length≤T) (hT:T≤100000) (h16:T%16=0) :
  Calls Tryz.prog 11 #[.agg #[.slice (some ⟨gr,0,none⟩) 3 cr,.slice (some ⟨gF,0,none⟩) 1 cF,.int .i64 4096],.slice none 0 0] w fun e w'=>(∃bm gm iv ns,e=.returned (.tuple #[.pointer (some ⟨bm,0,none⟩),.int .i64 0])∧MAt w' bm gm iv 0 ⟨List.replicate 16 0,4096,false,0,0,ns⟩∧ns.map Area.key=keys0 T (nums tx)∧w.heap.size≤bm∧(∀g∈rowsOf ns,w.heap.size≤g))∧Below w.heap.size w w':=by
 have hal:=ZV w (.cells #[.slice (some ⟨gr,0,none⟩) 3 cr,.slice (some ⟨gF,0,none⟩) 1 cF,.int .i64 4096] 46);have HBS:=Zh (hb.bsl.below hal);have HOR:=Zh (hr.below hal);obtain ⟨Ab,cb,hbv,-,-⟩:=ZR hb;have HTX:=Zh (show ∀b n c,bv=.slice (some b) n c→b.block<w.heap.size from fun b n c e=>by
  subst e;rcases hb.2 with ⟨e,_⟩|⟨g,cap,cur,e,_,hh,_⟩
  ·cases e
  ·injection e with e1 e2 e3
   injection e1 with e1
   subst e1;exact Blk.lt hh)
 subst hbv;obtain ⟨n,hnn⟩:∃n,tx.length=n:=⟨_,rfl⟩
 have HNN:=Zh hnn;rw[hnn] at hn hnT hf1 HBS HTX;have HRC:Hid (RC3 (w.alloc (.cells #[.slice (some ⟨gr,0,none⟩) 3 cr,.slice (some ⟨gF,0,none⟩) 1 cF,.int .i64 4096] 46)) gr T∧gr<w.heap.size):=by
  obtain ⟨g,c,e,h1,h2⟩:=hr.rc3;injection e with e1 e2 e3
  injection e1 with e1
  injection e1 with e1
  subst e1;exact ⟨h1.below hal,h2⟩
 have HF:=Zh (Za ((hal.cell (cell_lt hf0)).trans hf0) (Za ((hal.cell (cell_lt hf1)).trans hf1) (cell_lt hf0)));have HB:=Zh hal;have HBL:=Zh (Blk.new w 46 #[.slice (some ⟨gr,0,none⟩) 3 cr,.slice (some ⟨gF,0,none⟩) 1 cF,.int .i64 4096]);have HCK:=Zh (ZIh T n gr cr gF cF Ab cb _ (ZD9 HOR.out (ZJK T)) HRC.out.1 HF.out.1 HF.out.2.1 hn hnT hT h16);have HNW:=Zh (fun W (hW:Below (w.alloc (.cells #[.slice (some ⟨gr,0,none⟩) 3 cr,.slice (some ⟨gF,0,none⟩) 1 cF,.int .i64 4096] 46)).heap.size (w.alloc (.cells #[.slice (some ⟨gr,0,none⟩) 3 cr,.slice (some ⟨gF,0,none⟩) 1 cF,.int .i64 4096] 46)) W)=>rnew_any _ (ZC4 T) W ((ZD9 HOR.out (ZJK T)).below hW));clear hal hr hf0 hf1 hb hnn HOR HRC;go_enter Tryz.func11,Tryz.ntmps11
 go_upto_region 1 with fail
 obtain ⟨q,hq⟩:∃q,w.heap.size=q:=⟨_,rfl⟩
 obtain ⟨w1,hw1⟩:∃w1,w.alloc (.cells #[.slice (some ⟨gr,0,none⟩) 3 cr,.slice (some ⟨gF,0,none⟩) 1 cF,.int .i64 4096] 46)=w1:=⟨_,rfl⟩
 rw[hw1] at HBS HF HB HBL HCK HNW;rw[hq] at HBL;rw[hw1];try rw[hq]
 have HQ:=Zh hq;clear hw1 hq;have i0:=(HBL.out.cellq rfl:w1.cell? ⟨q,0,none⟩=some (.slice (some ⟨gr,0,none⟩) 3 cr))
 have i1:=(HBL.out.cellq rfl:w1.cell? ⟨q,1,none⟩=some (.slice (some ⟨gF,0,none⟩) 1 cF))
 have i2:=(HBL.out.cellq rfl:w1.cell? ⟨q,2,none⟩=some (.int .i64 4096))
 go_wp2_with fail
 refine HCK.out.mono ?_;rintro e w2 ⟨rfl,hb2⟩;have HB2:=Zh hb2;have HN2:=Zh (HNW.out w2 hb2);replace i0:=(hb2.cell (cell_lt i0)).trans i0;replace i1:=(hb2.cell (cell_lt i1)).trans i1;replace i2:=(hb2.cell (cell_lt i2)).trans i2;clear hb2 HCK HNW;go_wp2_with fail
 refine HN2.out.mono ?_;rintro e w3 ⟨hb3,⟨h,-⟩|⟨-,gm,ns0,rfl,hgm,hr3,hfr,hwb,hlb⟩⟩
 ·exact absurd (ZHh hT h16) h
 have HFF:=Zh (ZIT hfr (fun a ha=>(hr3.each a ha).lx) (cs:=nums tx) (by rw[ZBC,HNN.out];exact hn) (by rw[ZBC,HNN.out];exact hnT) hT);have H3:Hid (Below w.heap.size w w3∧ZW w3 gm ns0∧(∀g∈rowsOf ns0,w2.heap.size≤g)∧w2.heap.size≤gm∧(∀g,Zm w3 gm=some g→w2.heap.size≤g)∧w.heap.size<w2.heap.size):=
  ⟨(HB.out.trans (ZA HB2.out HB.out.size)).trans (ZA hb3 (Nat.le_trans HB.out.size HB2.out.size)),hr3,hfr.new,hgm,hwb,by have:=HBL.out.lt;have:=HQ.out;have:=HB2.out.size;omega⟩
 have HBS3:=Zh ((HBS.out.below HB2.out).below hb3);replace i0:=(hb3.cell (cell_lt i0)).trans i0;replace i1:=(hb3.cell (cell_lt i1)).trans i1;replace i2:=(hb3.cell (cell_lt i2)).trans i2;have HF3:Hid (w3.cell? ⟨gF,0,none⟩=some (.int .i64 4096)∧w3.cell? ⟨gF,1,none⟩=some (.slice Ab n cb)∧gF<w.heap.size):=
  ⟨(hb3.cell (cell_lt ((HB2.out.cell (cell_lt HF.out.1)).trans HF.out.1))).trans ((HB2.out.cell (cell_lt HF.out.1)).trans HF.out.1),(hb3.cell (cell_lt ((HB2.out.cell (cell_lt HF.out.2.1)).trans HF.out.2.1))).trans ((HB2.out.cell (cell_lt HF.out.2.1)).trans HF.out.2.1),HF.out.2.2⟩
 clear hb3 hr3 hfr hgm hwb hlb HN2 HB HBL HBS HF;obtain ⟨ns1,hns1⟩:∃ns1,(fillR ns0 4096 (nums tx)).2=ns1:=⟨_,rfl⟩
 have HNS1:=Zh hns1;clear hns1;go_wp2_with fail
 go_loopw [8] (fun iv W=>∃k:Nat,k≤1∧iv=.int .i64 k∧Hid (k=0→W=w3)∧Hid (k=1→ZW W gm ns1∧ZE (·∈rowsOf ns0) w3 W∧rowsOf ns1=rowsOf ns0)) (fun iv _=>1-(Go.RowKit.intOf iv).toNat)
 case atStart=>exact ⟨0,by omega,rfl,fun _=>rfl,fun h=>by omega⟩
 case round=>
  obtain ⟨k,hk,rfl,HA,HC⟩:=hrel;rcases (show k=0∨k=1 by omega) with rfl|rfl
  ·obtain ⟨wA,hwA⟩:∃wA,wA=wr:=⟨_,rfl⟩
   subst hwA;have hwa:=HA.out rfl;subst hwa;clear HA HC;obtain ⟨f0,f1,hgF⟩:=HF3.out;have en:(0:Int)<(n:Int):=by omega
   have en2:0<n:=hn;go_upto_region 10 with fail
   refine wp_region_held_drew (S:=(fun W=>W.cell? ⟨q,1,none⟩=some (.slice (some ⟨gF,0,none⟩) 1 cF)∧W.cell? ⟨gF,0,none⟩=some (.int .i64 4096)∧W.cell? ⟨gF,1,none⟩=some (.slice Ab n cb))) (by kernel_rfl) ?_ (fun hHeld=>?_)
   ·exact ⟨i1,f0,f1⟩
   have HS5:Hid (Below w.heap.size w wA.drew∧ZW wA.drew gm ns0∧ZE (fun _=>False) wA wA.drew):=⟨H3.out.1.trans (ZAO (Below.refl _ _)),H3.out.2.1.below (ZAO (Below.refl _ _)),(ZE.refl _ _).drew⟩
   have HQL:=Zh (show (⟨q,1,none⟩:Addr).block<w2.heap.size from by have:=H3.out.2.2.2.2.2;have:=HQ.out;show q<_;omega);have HFL:=Zh (show (⟨gF,0,none⟩:Addr).block<w2.heap.size from by have:=H3.out.2.2.2.2.2;show gF<_;omega);have HFR:=Zh H3.out.2.2.1;have HW25:=Zh (show w2.heap.size≤wA.drew.heap.size from by have h1:=H3.out.2.1.lt;have h2:=H3.out.2.2.2.1;show _≤wA.heap.size;omega);have HFI:=Zh (ZJU gm ns0 4096 (.slice Ab n cb) (nums tx) _ HS5.out.2.1 (by omega) (by omega) (HBS3.out.below (ZAO (Below.refl _ _))) (fun _ b n' c e hm=>by
    have h1:=HTX.out b n' c e;have h2:=HFR.out _ hm;have h3:=H3.out.2.2.2.2.2
    omega))
   unfold ZBT at HFI;rw[HFF.out.1,HNS1.out] at HFI;clear f0 f1 hgF i0 i1 i2;generalize wA.drew=W5 at HS5 HFI HW25 hHeld ⊢;refine FU 15 rfl ?_;iterate 14 (refine TN 15 rfl ?_;try simp only[AP,Nat.reduceAdd,Nat.reduceSub])
   refine RW 14 rfl fun K hK=>?_;go_simp;go_at_call 35;refine HFI.out.mono ?_;rintro e W6 ⟨rfl,hr6,hk6,hrw6⟩;try go_simp
   have HN6:=Zh (Za hr6 (Za hk6 hrw6));have hb6:Below w2.heap.size W5 W6:=hk6.toBelow (show w2.heap.size≤W5.heap.size by have:=HW25.out;omega) (fun g hg e=>by have:=HFR.out g e;omega);refine hK.out _ _ (show _∧_∧_ from ⟨(hb6.cell (p:=⟨q,1,none⟩) (HQL.out)).trans hHeld.1,(hb6.cell (p:=⟨gF,0,none⟩) (HFL.out)).trans hHeld.2.1,(hb6.cell (p:=⟨gF,1,none⟩) (HFL.out)).trans hHeld.2.2⟩) (fun hHeld=>?_);have HB6:=Zh hb6;clear hr6 hk6 hrw6 hb6 HFI;clear hK K;try simp only[AP]
   refine wpAnyH_done (by kernel_rfl) ?_ _;clear hHeld;go_wp2_with fail
   go_roundw
   case rel=>exact ⟨1,by omega,by go_num,fun h=>by omega,fun _=>⟨HN6.out.1,(HS5.out.2.2.mono (fun _ _ h=>h.elim)).trans HN6.out.2.1 (fun _ _ h=>h),HN6.out.2.2⟩⟩
   case measure=>first|(simp[Go.RowKit.intOf];done)|(simp[Go.RowKit.intOf];omega)
  ·obtain ⟨hr4,hk4,hrw4⟩:=HC.out rfl
   have hb4:Below w2.heap.size w3 wr:=hk4.toBelow (by have:=H3.out.2.1.lt;have:=H3.out.2.2.2.1;omega) (fun g hg e=>by have:=H3.out.2.2.1 g e;omega);have i1':=(hb4.cell (show q<_ by have:=H3.out.2.2.2.2.2;have:=HQ.out;omega)).trans i1;have i2':=(hb4.cell (show q<_ by have:=H3.out.2.2.2.2.2;have:=HQ.out;omega)).trans i2;have hwb4:Zm wr gm=Zm w3 gm:=ZBN H3.out.2.1 hk4 (fun hg=>by
    obtain ⟨c,hc⟩:=H3.out.2.1.row_blk hg;obtain ⟨_,_,_,hb,_⟩:=H3.out.2.1.top;exact absurd (hc.kind hb) (by decide))
   have HMK:=Zh (ZJQ gm ns1 wr hr4);have H4:=Zh (Za hb4 (Za hwb4 (Za hrw4 hr4)));clear hr4 hk4 hrw4 hb4 hwb4 HA HC i0 i1 i2;go_wp2_with fail
   refine HMK.out.mono ?_;rintro e w7 ⟨rfl,ns2,hr7,hkey,hk7,hrow7,hwb7⟩;have hb7:Below w2.heap.size wr w7:=hk7.toBelow (by have:=H4.out.2.2.2.lt;have:=H3.out.2.2.2.1;omega) (fun g hg e=>by rw[H4.out.2.1] at e;have:=H3.out.2.2.2.2.1 g e;omega);have i2'':=(hb7.cell (show q<_ by have:=H3.out.2.2.2.2.2;have:=HQ.out;omega)).trans i2';have H7:Hid (ZW w7 gm ns2∧ns2.map Area.key=keys0 T (nums tx)∧(∀g∈rowsOf ns2,w.heap.size≤g)∧Below w.heap.size w w7∧w2.heap.size≤w7.heap.size):=by
    have hle:=H3.out.2.2.2.2.2;refine ⟨hr7,?_,fun g hg=>?_,?_,?_⟩
    ·rw[hkey,←HNS1.out]
     exact HFF.out.2
    ·rcases hrow7 g hg with h|h
     ·rw[H4.out.2.2.1] at h
      have:=H3.out.2.2.1 g h;omega
     ·have:=H4.out.2.2.2.lt
      have:=H3.out.2.2.2.1;omega
    ·exact H3.out.1.trans (ZA (H4.out.1.trans hb7) (by omega))
    ·have h1:=hr7.lt
     have h2:=H3.out.2.2.2.1;omega
   have HBY:=Zh (fun W=>ZCD (.slice none 0 0) [] W ⟨none,0,rfl,Nat.le_refl _,by decide,fun h=>absurd h (by decide)⟩ (by simp));clear hr7 hkey hk7 hrow7 hwb7 hb7 HMK H4 i1' i2';go_upto_region 12 with fail
   refine wp_region_held_drew (S:=(fun W=>W.cell? ⟨q,2,none⟩=some (.int .i64 4096))) (by kernel_rfl) ?_ (fun hHeld=>?_)
   ·exact i2''
   have H8:Hid (ZW w7.drew gm ns2∧Below w.heap.size w w7.drew∧w2.heap.size≤w7.drew.heap.size):=⟨H7.out.1.below (ZAO (Below.refl _ _)),H7.out.2.2.2.1.trans (ZAO (Below.refl _ _)),H7.out.2.2.2.2⟩
   generalize w7.drew=W7 at H8 hHeld ⊢;clear i2'';refine FU 9 rfl ?_;iterate 4 (refine TN 9 rfl ?_;try simp only[AP,Nat.reduceAdd,Nat.reduceSub])
   refine RW 4 rfl fun K hK=>?_;go_simp;go_at_call 30;refine (HBY.out _).mono ?_;rintro e W8 ⟨⟨iv,rfl,ho8⟩,hb8⟩;obtain ⟨Av,cv,rfl,-,-⟩:=ZR ho8;clear ho8;try go_simp
   refine hK.out _ _ ((hb8.cell (cell_lt hHeld)).trans hHeld) (fun hHeld=>?_);have HB8:=Zh hb8;clear hb8;clear hK K;try simp only[AP]
   refine TW 5 rfl ?_;try simp only[AP]
   refine RW 6 rfl fun K hK=>?_;go_simp;have hal8:=ZV W8 (.cells #[.pointer (some ⟨gm,0,none⟩),.int .u32 0,.int .u32 0,.int .u32 0,.int .u32 0,.int .u32 0,.int .u32 0,.int .u32 0,.int .u32 0,.int .u32 0,.int .u32 0,.int .u32 0,.int .u32 0,.int .u32 0,.int .u32 0,.int .u32 0,.int .u32 0,.int .i64 4096,.int .i64 0,.slice Av 0 cv,.slice none 0 0,.int .i64 0,.bool false,.int .i64 0,.int .i64 0] 59);have hbl8:=Blk.new W8 59 #[.pointer (some ⟨gm,0,none⟩),.int .u32 0,.int .u32 0,.int .u32 0,.int .u32 0,.int .u32 0,.int .u32 0,.int .u32 0,.int .u32 0,.int .u32 0,.int .u32 0,.int .u32 0,.int .u32 0,.int .u32 0,.int .u32 0,.int .u32 0,.int .u32 0,.int .i64 4096,.int .i64 0,.slice Av 0 cv,.slice none 0 0,.int .i64 0,.bool false,.int .i64 0,.int .i64 0];obtain ⟨bm,hbm⟩:∃bm,W8.heap.size=bm:=⟨_,rfl⟩
   obtain ⟨W9,hW9⟩:∃W9,W8.alloc (.cells #[.pointer (some ⟨gm,0,none⟩),.int .u32 0,.int .u32 0,.int .u32 0,.int .u32 0,.int .u32 0,.int .u32 0,.int .u32 0,.int .u32 0,.int .u32 0,.int .u32 0,.int .u32 0,.int .u32 0,.int .u32 0,.int .u32 0,.int .u32 0,.int .u32 0,.int .i64 4096,.int .i64 0,.slice Av 0 cv,.slice none 0 0,.int .i64 0,.bool false,.int .i64 0,.int .i64 0] 59)=W9:=⟨_,rfl⟩
   rw[hW9] at hal8 hbl8 ⊢;rw[hbm] at hbl8;try rw[hbm]
   have HN9:Hid (MAt W9 bm gm (.slice Av 0 cv) 0 ⟨List.replicate 16 0,4096,false,0,0,ns2⟩∧w.heap.size≤bm∧Below w.heap.size w W9):=by
    have hle:=H3.out.2.2.2.2.2;have hs8:=HB8.out.size;have h72:=H8.out.2.2;exact ⟨⟨hbl8,(H8.out.1.below HB8.out).below hal8,by simp,by simp,by decide,by decide,by show 4096≤1000000000;decide⟩,by omega,(H8.out.2.1.trans (ZA HB8.out (by omega))).trans (ZA hal8 (by omega))⟩
   refine hK.out _ _ ((hal8.cell (cell_lt hHeld)).trans hHeld) (fun hHeld=>?_);clear hal8 hbl8 hW9 HB8 H8;clear hK K;try simp only[AP]
   refine TW 7 rfl ?_;try simp only[AP]
   refine TW 8 rfl ?_;try simp only[AP]
   refine wpAnyH_done (by kernel_rfl) ?_ _;clear hHeld;go_wp2_with fail
   go_ret2
   exact ⟨⟨bm,gm,_,ns2,rfl,HN9.out.1,H7.out.2.1,HN9.out.2.1,H7.out.2.2.1⟩,HN9.out.2.2⟩
end Go.Proofs.YtggmkofbikafhaaGreatDoor
