/- Walks and plain laws on the way to FramePrologue (XU, FW, FX, FY, FO). Conditions: those that each theorem states. -/
import Derived.Test.YtggmkofbikafhaaGreatDoorXU1
set_option linter.unusedVariables false
set_option linter.unusedSimpArgs false
set_option maxRecDepth 100000
set_option maxHeartbeats 40000000
namespace Go.Proofs.YtggmkofbikafhaaGreatDoor
open Go.RowKit Go.Lib
def ZDp (w:World) (p:Nat) (a b c d e f:Value):World:=((((((w.setCell ⟨p,0,none⟩ a).setCell ⟨p,1,none⟩ b).setCell ⟨p,2,none⟩ c).setCell ⟨p,3,none⟩ d).setCell ⟨p+1,0,none⟩ e).setCell ⟨p+1,1,none⟩ f)
theorem ZEz {w:World} {p:Nat} {x1 x2 x3 x4 y1 y2:Value} {t u:TypeId} (h0:Blk w p t #[x1,x2,x3,x4]) (h1:Blk w (p+1) u #[y1,y2]) (a b c d e f:Value) :
  Blk (ZDp w p a b c d e f) p t #[a,b,c,d]∧Blk (ZDp w p a b c d e f) (p+1) u #[e,f]∧ZE (fun k=>k=p∨k=p+1) w (ZDp w p a b c d e f):=by
 unfold ZDp;refine ⟨(((((h0.set_ 0 a).set_ 1 b).set_ 2 c).set_ 3 d).far (p:=⟨p+1,0,none⟩) (by simp) e).far (p:=⟨p+1,1,none⟩) (by simp) f,
  ((((((h1.far (p:=⟨p,0,none⟩) (by simp) a).far (p:=⟨p,1,none⟩) (by simp) b).far (p:=⟨p,2,none⟩) (by simp) c).far (p:=⟨p,3,none⟩) (by simp) d).set_ 0 e).set_ 1 f),?_⟩
 exact ((((((ZE.refl _ w).setCell (p:=⟨p,0,none⟩) (Or.inr (by simp)) a).setCell (p:=⟨p,1,none⟩) (Or.inr (by simp)) b).setCell (p:=⟨p,2,none⟩) (Or.inr (by simp)) c).setCell (p:=⟨p,3,none⟩) (Or.inr (by simp)) d).setCell (p:=⟨p+1,0,none⟩) (Or.inr (by simp)) e).setCell (p:=⟨p+1,1,none⟩) (Or.inr (by simp)) f
theorem asm5_any (l:List UInt8) (w:World) (hll:l.length≤1000000) (tx:List UInt8) (lb:List Lb) (hrun:Run (ZE3 [] l) [] [] tx lb) (hlb:lb.length≤1000) :
  Calls Tryz.prog 8 #[.string (str l)] w fun e w'=>(∃tv lv r,e=.returned (.tuple #[.agg #[tv,.slice none 0 0,lv,.slice (some ⟨r,0,none⟩) 0 0],.agg #[.int .i64 0,.int .i64 0]])∧OwnB w' w.heap.size tv tx∧OwnL w' w.heap.size lv lb)∧Below w.heap.size w w':=by
 have hsz:(str l).size=l.length:=Zb l;have hx:∀a b,(str l).extract a b=str ((l.take b).drop a):=ZAA l;have hg:∀k (h:k<(str l).size) (h2:k<l.length),((str l)[k]'h)=l[k]:=fun k h h2=>ZAu h;obtain ⟨s,hs⟩:∃s,str l=s:=⟨_,rfl⟩
 rw[hs] at hsz hx;have HG:Hid (∀k (h:k<s.size) (h2:k<l.length),(s[k]'h)=l[k]):=by subst hs;exact hg
 have HX:=Zh hx;have HSZ:=Zh hsz;rw[hs];have hl2:s.size≤1000000:=by omega
 have HR:=Zh hrun;clear hs hg hx hsz hll hrun;go_enter Tryz.func8,Tryz.ntmps8
 go_wp2_with fail
 go_loopw [7,6,5] (fun iv fv av wr=>∃(k a n:Nat) (tx1:List UInt8) (lb1:List Lb) (tv lv:Value),k≤s.size+1∧a≤k∧n≤k∧iv=.int .i64 k∧fv=.int .i64 a∧av=.int .i64 n∧Hid (if k≤s.size then Run (ZE3 ((l.take k).drop a) (l.drop k)) tx1 lb1 tx lb else tx1=tx∧lb1=lb)∧Hid (StV wr (w.heap.size+2) tv lv tx1 lb1∧Blk wr w.heap.size 36 #[.slice none 0 0,.slice none 0 0,.slice none 0 0,.slice none 0 0]∧Blk wr (w.heap.size+1) 38 #[.int .i64 0,.int .i64 0]∧Below w.heap.size w wr)) (fun iv _ _ _=>s.size+1-(intOf iv).toNat)
 case atStart=>
  refine ⟨0,0,0,[],[],.slice none 0 0,.slice none 0 0,by omega,by omega,by omega,rfl,rfl,rfl,?_,?_⟩
  ·show _
   rw[if_pos (by omega)];exact HR.out
  ·refine ⟨⟨ZY (by simp[World.size_alloc]) _ _,⟨by simp,Or.inl ⟨rfl,rfl⟩⟩,⟨by simp,Or.inl ⟨rfl,rfl⟩⟩⟩,?_,?_,?_⟩
   ·exact ((Blk.new w _ _).alloc _).alloc _
   ·exact (ZY (by simp[World.size_alloc]) _ _).alloc _
   ·exact belA (bel2 w _ _) _
 case round=>
  clear HR;obtain ⟨k,a,n,tx1,lb1,tv,lv,hk,hak,hnk,rfl,rfl,rfl,HA,HW⟩:=hrel
  by_cases hle:k≤s.size
  ·have hrun:=HA.out
   rw[if_pos hle] at hrun
   by_cases hlt:k<s.size
   ·have hkl:k<l.length:=by rw[←HSZ.out];exact hlt
    obtain ⟨c,hc⟩:∃c:Nat,(s[k]'hlt).toNat=c:=⟨_,rfl⟩
    have hcl:l[k].toNat=c:=by rw[←HG.out k hlt hkl];exact hc
    have e0:((k:Int)==(s.size:Int))=false:=by
     have:(k:Int)≠(s.size:Int):=by omega
     simpa using this
    by_cases h10:c=10
    ·rw[cutN_nl hkl (by rw[hcl];exact h10)] at hrun
     subst h10;obtain ⟨t,b,hln,hrest⟩:=hrun;have HREST:=Zh hrest;have HL:=Zh (hln (w.heap.size+2) (n:Int) tv lv wr HW.out.1);clear hln hrest HA;have hext:=HX.out a k;go_wp2_with fail
     refine HL.out.mono ?_;rintro e w4 ⟨rfl,⟨tv',lv',hs4⟩,hb4⟩;have HW4:=Zh (show StV w4 (w.heap.size+2) tv' lv' t b∧Blk w4 w.heap.size 36 #[.slice none 0 0,.slice none 0 0,.slice none 0 0,.slice none 0 0]∧Blk w4 (w.heap.size+1) 38 #[.int .i64 0,.int .i64 0]∧Below w.heap.size w w4 from
      ⟨hs4,HW.out.2.1.below hb4 (by omega),HW.out.2.2.1.below hb4 (by omega),HW.out.2.2.2.trans (ZA hb4 (by omega))⟩)
     clear hs4 hb4 HL HW;go_wp2_with fail
     go_roundw
     case rel=>exact ⟨k+1,k+1,n+1,t,b,tv',lv',by omega,by omega,by omega,by go_num,by go_num,by go_num,show _ from by rw[if_pos (by omega)];exact HREST.out,HW4.out⟩
     case measure=>first|(simp[intOf];done)|(simp[intOf];omega)
    ·rw[ZKc hak hkl (by rw[hcl];exact h10)] at hrun
     have hcb:((c:Int)==10)=false:=by
      have:(c:Int)≠10:=by omega
      simpa using this
     have HREST:=Zh hrun;clear hrun HA h10;go_wp2_with fail
     go_roundw
     case rel=>exact ⟨k+1,a,n,tx1,lb1,tv,lv,by omega,by omega,by omega,by go_num,rfl,rfl,show _ from by rw[if_pos (by omega)];exact HREST.out,HW.out⟩
     case measure=>first|(simp[intOf];done)|(simp[intOf];omega)
   ·have hke:k=s.size:=by omega
    subst hke;rw[cutN_end (by rw[←HSZ.out];exact Nat.le_refl _)] at hrun;obtain ⟨t,b,hln,hrest⟩:=hrun;have HREST:=Zh hrest;have HL:=Zh (hln (w.heap.size+2) (n:Int) tv lv wr HW.out.1);clear hln hrest HA;have hext:=HX.out a s.size;go_wp2_with fail
    refine HL.out.mono ?_;rintro e w4 ⟨rfl,⟨tv',lv',hs4⟩,hb4⟩;have HW4:=Zh (show StV w4 (w.heap.size+2) tv' lv' t b∧Blk w4 w.heap.size 36 #[.slice none 0 0,.slice none 0 0,.slice none 0 0,.slice none 0 0]∧Blk w4 (w.heap.size+1) 38 #[.int .i64 0,.int .i64 0]∧Below w.heap.size w w4 from
     ⟨hs4,HW.out.2.1.below hb4 (by omega),HW.out.2.2.1.below hb4 (by omega),HW.out.2.2.2.trans (ZA hb4 (by omega))⟩)
    clear hs4 hb4 HL HW;go_wp2_with fail
    go_roundw
    case rel=>exact ⟨s.size+1,s.size+1,n+1,t,b,tv',lv',by omega,by omega,by omega,by go_num,by go_num,by go_num,show _ from by rw[if_neg (by omega)];exact ⟨HREST.out.1.symm,HREST.out.2.symm⟩,HW4.out⟩
    case measure=>first|(simp[intOf];done)|(simp[intOf];omega)
  ·have hfin:=HA.out
   rw[if_neg hle] at hfin;obtain ⟨rfl,rfl⟩:=hfin;clear HA;have d5:wr.cell? ⟨w.heap.size+2,5,none⟩=some (.slice none 0 0):=(HW.out.1.b.cell 5).trans rfl;go_wp2_with fail
   obtain ⟨w3,hw3⟩:∃w3,wr=w3:=⟨_,rfl⟩
   rw[hw3] at HW d5 ⊢;clear hw3
   go_loopw [9] (fun iv wx=>iv=.int .i64 0∧wx=w3) (fun _ _=>0)
   case atStart=>exact ⟨rfl,rfl⟩
   case round=>
    obtain ⟨rfl,rfl⟩:=hrel;have d0:wr.cell? ⟨w.heap.size+2,0,none⟩=some tv:=(HW.out.1.b.cell 0).trans rfl;have d1:wr.cell? ⟨w.heap.size+2,1,none⟩=some (.slice none 0 0):=(HW.out.1.b.cell 1).trans rfl;have d2:wr.cell? ⟨w.heap.size+2,2,none⟩=some lv:=(HW.out.1.b.cell 2).trans rfl;have d3:wr.cell? ⟨w.heap.size+2,3,none⟩=some (.slice none 0 0):=(HW.out.1.b.cell 3).trans rfl;obtain ⟨At,ct,rfl,-,-⟩:=ZR HW.out.1.t;have HO:=Zh (ZDD (.slice At tx1.length ct) lv lb1 wr HW.out.1.l.row ⟨_,_,_,rfl⟩ hlb);go_wp2_with fail
    refine HO.out.mono ?_;rintro e w4 ⟨⟨lv',rfl,hl4⟩,hb4⟩;have b0:=HW.out.2.1.below hb4 HW.out.2.1.lt;have b1:=HW.out.2.2.1.below hb4 HW.out.2.2.1.lt;have ht4:OwnB w4 (w.heap.size+3) (.slice At tx1.length ct) tx1:=ZB HW.out.1.t (ZC (fun _=>False) hb4) (fun _ _=>id);have hbw:Below w.heap.size w w4:=HW.out.2.2.2.trans (ZA hb4 HW.out.2.2.2.size);have hsz:w.heap.size+2<wr.heap.size:=HW.out.1.b.lt;have HB:=Zh (Za b0 (Za b1 (Za ht4 (Za hbw (Za hl4 hsz)))));have q0:w4.cell? ⟨w.heap.size,0,none⟩=some (.slice none 0 0):=(b0.cell 0).trans rfl;have q1:w4.cell? ⟨w.heap.size,1,none⟩=some (.slice none 0 0):=(b0.cell 1).trans rfl;have q2:w4.cell? ⟨w.heap.size,2,none⟩=some (.slice none 0 0):=(b0.cell 2).trans rfl;have q3:w4.cell? ⟨w.heap.size,3,none⟩=some (.slice none 0 0):=(b0.cell 3).trans rfl;have p0:=b0.frozen 0;have p1:=b0.frozen 1;have p2:=b0.frozen 2;have p3:=b0.frozen 3;have z0:w4.cell? ⟨w.heap.size+1,0,none⟩=some (.int .i64 0):=(b1.cell 0).trans rfl;have z1:w4.cell? ⟨w.heap.size+1,1,none⟩=some (.int .i64 0):=(b1.cell 1).trans rfl;have p4:=b1.frozen 0;have p5:=b1.frozen 1;obtain ⟨Al,cl,rfl,-,-⟩:=hl4.form;clear b0 b1 ht4 hbw hsz hb4 HO HW hl4 d0 d1 d2 d3;go_wp2_with fail
    obtain ⟨W6,hW6⟩:∃W6,ZDp w4 w.heap.size (.slice At tx1.length ct) (.slice none 0 0) (.slice Al lb1.length cl) (.slice (some ⟨wr.heap.size+3,0,none⟩) 0 0) (.int .i64 0) (.int .i64 0)=W6:=⟨_,rfl⟩
    have hF:=ZEz HB.out.1 HB.out.2.1 (.slice At tx1.length ct) (.slice none 0 0) (.slice Al lb1.length cl) (.slice (some ⟨wr.heap.size+3,0,none⟩) 0 0) (.int .i64 0) (.int .i64 0);show bodyPost _ _ _ _ _ (ZDp w4 w.heap.size (.slice At tx1.length ct) (.slice none 0 0) (.slice Al lb1.length cl) (.slice (some ⟨wr.heap.size+3,0,none⟩) 0 0) (.int .i64 0) (.int .i64 0));rw[hW6] at hF ⊢;clear q0 q1 q2 q3 p0 p1 p2 p3 z0 z1 p4 p5 hW6;obtain ⟨h0,h1,hk⟩:=hF;have y0:=h0.cell 0;have y1:=h0.cell 1;have y2:=h0.cell 2;have y3:=h0.cell 3;have u0:=h1.cell 0;have u1:=h1.cell 1;refine bodyPost_ret (v:=.tuple #[.agg #[.slice At tx1.length ct,.slice none 0 0,.slice Al lb1.length cl,.slice (some ⟨wr.heap.size+3,0,none⟩) 0 0],.agg #[.int .i64 0,.int .i64 0]]) (by simp[results,Tryz.results8,y0,y1,y2,y3,u0,u1,go_sem]) rfl ?_;obtain ⟨-,-,ht4,hbw,hl4,hsz⟩:=HB.out;refine ⟨⟨_,_,_,rfl,?_,?_⟩,?_⟩
    ·refine ZO (ZB ht4 hk (fun g hg h=>?_)) (by omega)
     have:=ZAB ht4 hg;omega
    ·refine ZO (ZB hl4 hk (fun g hg h=>?_)) (by omega)
     have:=hl4.ge g hg;omega
    ·exact hbw.trans (hk.toBelow hbw.size (fun k hk h=>by omega))
theorem Zq {x y:Bool} (h:x=y):Ending.returned (.bool x)=.returned (.bool y):=by rw[h]
def wiB (a s z:Int):Bool:=decide (0≤a)&&decide (a%4=0)&&decide (s≤z)&&decide (a≤z-s)
theorem Blk.cell0' {w:World} {g:Nat} {t:TypeId} {a b:Value} (h:Blk w g t #[a,b]):w.cell? ⟨g,0,none⟩=some a:=(h.cell 0).trans rfl
theorem Blk.cell1' {w:World} {g:Nat} {t:TypeId} {a b:Value} (h:Blk w g t #[a,b]):w.cell? ⟨g,1,none⟩=some b:=(h.cell 1).trans rfl
theorem ZDx (a s z:Int) (w:World) (hs0:0≤s) (hs1:s≤1000) (hz0:0≤z) (hz1:z≤16777216):Calls Tryz.prog 96 #[.agg #[.int .i64 a,.int .i64 s],.int .i64 z] w fun e w'=>e=.returned (.bool (wiB a s z))∧Below w.heap.size w w':=by
 have R:=Zh (show wiB a s z=(decide (0≤a)&&decide (a%4=0)&&decide (s≤z)&&decide (a≤z-s)) from rfl);obtain ⟨b,hb⟩:∃b,wiB a s z=b:=⟨_,rfl⟩
 rw[hb] at R ⊢;clear hb;have e4:IntKind.i64.wrap (z-s)=z-s:=IntWalk.i64_in _ (by omega);rcases Int.lt_or_le a 0 with h1|h1
 ·have g1:decide (0≤a)=false:=decide_eq_false (by omega)
  have Q:Hid (b=false):=by show _=_;rw[R.out,g1];rfl
  clear h1;go_enter Tryz.func96,Tryz.ntmps96
  go_wp2_with fail
  go_ret;exact ⟨Zq Q.out.symm,ZV _ _⟩
 have e1:a.tmod 4=a%4:=Int.tmod_eq_emod_of_nonneg h1;have g1:decide (0≤a)=true:=decide_eq_true h1;obtain ⟨m,hm⟩:∃m,a%4=m:=⟨_,rfl⟩
 rw[hm] at e1 R;clear hm;rcases Decidable.em (m=0) with h2|h2
 ·subst h2
  rcases Int.lt_or_le z s with h3|h3
  ·have g3:decide (s≤z)=false:=decide_eq_false (by omega)
   have Q:Hid (b=false):=by show _=_;rw[R.out,g1,g3];rfl
   clear h3;go_enter Tryz.func96,Tryz.ntmps96
   go_wp2_with fail
   go_ret;exact ⟨Zq Q.out.symm,ZV _ _⟩
  ·have g3:decide (s≤z)=true:=decide_eq_true h3
   have Q:Hid (b=decide (a≤z-s)):=by show _=_;rw[R.out,g1,g3];simp
   go_enter Tryz.func96,Tryz.ntmps96
   go_wp2_with fail
   go_ret;exact ⟨Zq Q.out.symm,ZV _ _⟩
 ·have g2:(m==0)=false:=beq_eq_false_iff_ne.2 h2
  have g2':decide (m=0)=false:=decide_eq_false h2;have Q:Hid (b=false):=by show _=_;rw[R.out,g1,g2'];rfl
  clear h2;go_enter Tryz.func96,Tryz.ntmps96
  go_wp2_with fail
  go_ret;exact ⟨Zq Q.out.symm,ZV _ _⟩
def meB (a s b t:Int):Bool:=decide (0<s)&&decide (0<t)&&decide (a<b+t)&&decide (b<a+s)
theorem ZJo (a s b t:Int) (w:World) (ha:0≤a∧a≤100000000) (hs:0≤s∧s≤1000) (hb:0≤b∧b≤100000000) (ht:0≤t∧t≤1000):Calls Tryz.prog 98 #[.agg #[.int .i64 a,.int .i64 s],.agg #[.int .i64 b,.int .i64 t]] w fun e w'=>e=.returned (.bool (meB a s b t))∧Below w.heap.size w w':=by
 have R:=Zh (show meB a s b t=(decide (0<s)&&decide (0<t)&&decide (a<b+t)&&decide (b<a+s)) from rfl);obtain ⟨r,hr⟩:∃r,meB a s b t=r:=⟨_,rfl⟩
 rw[hr] at R ⊢;clear hr;obtain ⟨x,hx⟩:∃x,b+t=x:=⟨_,rfl⟩
 obtain ⟨y,hy⟩:∃y,a+s=y:=⟨_,rfl⟩
 have e1:IntKind.i64.wrap (b+t)=x:=by rw[IntWalk.i64_in _ (by omega)];exact hx
 have e2:IntKind.i64.wrap (a+s)=y:=by rw[IntWalk.i64_in _ (by omega)];exact hy
 rw[hx,hy] at R;clear hx hy ha hb hs ht;have z0:∀o,(w.alloc (.cells #[.int .i64 a,.int .i64 s] 146)).alloc o=(w.alloc (.cells #[.int .i64 a,.int .i64 s] 146)).alloc o:=fun _=>rfl;have hA0:=ZJ (Blk.new w 146 #[.int .i64 a,.int .i64 s]).cell0' (.cells #[.int .i64 b,.int .i64 t] 146);have hA1:=ZJ (Blk.new w 146 #[.int .i64 a,.int .i64 s]).cell1' (.cells #[.int .i64 b,.int .i64 t] 146);clear z0
 cases g1:decide (0<s) with
 | false=>
  have Q:Hid (r=false):=by show _=_;rw[R.out,g1];rfl
  go_enter Tryz.func98,Tryz.ntmps98
  go_wp2_with fail
  go_ret;exact ⟨Zq Q.out.symm,bel2 _ _ _⟩
 | true=>
  cases g2:decide (0<t) with
  | false=>
   have Q:Hid (r=false):=by show _=_;rw[R.out,g1,g2];rfl
   go_enter Tryz.func98,Tryz.ntmps98
   go_wp2_with fail
   go_ret;exact ⟨Zq Q.out.symm,bel2 _ _ _⟩
  | true=>
   cases g3:decide (a<x) with
   | false=>
    have Q:Hid (r=false):=by show _=_;rw[R.out,g1,g2,g3];rfl
    go_enter Tryz.func98,Tryz.ntmps98
    go_wp2_with fail
    go_ret;exact ⟨Zq Q.out.symm,bel2 _ _ _⟩
   | true=>
    have Q:Hid (r=decide (b<y)):=by show _=_;rw[R.out,g1,g2,g3];simp
    go_enter Tryz.func98,Tryz.ntmps98
    go_wp2_with fail
    go_ret;exact ⟨Zq Q.out.symm,bel2 _ _ _⟩
def szB (z:Int):Bool:=decide (16≤z)&&decide (z≤16777216)&&decide (z%16=0)
theorem ZJA (z v1 v2 v3 v4:Int) (v5 v6:Value) (w:World) (h5:v5.oneCell'=true) (h6:v6.oneCell'=true):Calls Tryz.prog 59 #[.agg #[.int .i64 z,.int .i64 v1,.int .i64 v2,.int .i64 v3,.int .i64 v4,v5,v6]] w fun e w'=>e=.returned (.bool (szB z))∧Below w.heap.size w w':=by
 have R:=Zh (show szB z=(decide (16≤z)&&decide (z≤16777216)&&decide (z%16=0)) from rfl);obtain ⟨r,hr⟩:∃r,szB z=r:=⟨_,rfl⟩
 rw[hr] at R ⊢;clear hr
 cases g1:decide (16≤z) with
 | false=>
  have Q:Hid (r=false):=by show _=_;rw[R.out,g1];rfl
  go_enter Tryz.func59,Tryz.ntmps59
  go_wp2_with fail
  go_ret;exact ⟨Zq Q.out.symm,ZV _ _⟩
 | true=>
  have e1:z.tmod 16=z%16:=Int.tmod_eq_emod_of_nonneg (by have:=of_decide_eq_true g1;omega)
  cases g2:decide (z≤16777216) with
  | false=>
   have Q:Hid (r=false):=by show _=_;rw[R.out,g1,g2];rfl
   go_enter Tryz.func59,Tryz.ntmps59
   go_wp2_with fail
   go_ret;exact ⟨Zq Q.out.symm,ZV _ _⟩
  | true=>
   obtain ⟨m,hm⟩:∃m,z%16=m:=⟨_,rfl⟩
   rw[hm] at e1 R;clear hm;have Q:Hid (r=(m==0)):=by
    show _=_;rw[R.out,g1,g2];simp only[Bool.true_and]
    rfl
   go_enter Tryz.func59,Tryz.ntmps59
   go_wp2_with fail
   go_ret;exact ⟨Zq Q.out.symm,ZV _ _⟩
theorem indexS0 (A:Option Addr) (c:Nat) (F:Value) (w:World):Calls Tryz.prog 136 #[.slice A 0 c,F] w fun e w'=>e=.returned (.int .i64 (-1))∧w'=w:=by
 go_enter Tryz.func136,Tryz.ntmps136
 go_wp2_with fail
 go_loopw [8] (fun v W=>v=.int .i64 0∧W=w) (fun _ _=>0)
 case atStart=>exact ⟨rfl,rfl⟩
 case round=>
  obtain ⟨rfl,rfl⟩:=hrel;go_wp2_with fail
  go_ret;exact ⟨rfl,rfl⟩
theorem ZId (A:Option Addr) (c:Nat) (F:Value) (w:World):Calls Tryz.prog 97 #[.slice A 0 c,F] w fun e w'=>e=.returned (.bool false)∧w'=w:=by
 have HI:=Zh (indexS0 A c F w);go_enter Tryz.func97,Tryz.ntmps97
 go_wp2_with fail
 refine HI.out.mono ?_;rintro e w1 ⟨rfl,hw⟩;replace hw:=hw.symm;subst hw;go_wp2_with fail
 go_ret;exact ⟨rfl,rfl⟩
theorem indexS1 (g c:Nat) (a s b t:Int) (w:World) (ha:0≤a∧a≤100000000) (hs:0≤s∧s≤1000) (hb:0≤b∧b≤100000000) (ht:0≤t∧t≤1000) (h0:w.cell? ⟨g,0,none⟩=some (.int .i64 b)) (h1:w.cell? ⟨g,1,none⟩=some (.int .i64 t)):Calls Tryz.prog 136 #[.slice (some ⟨g,0,none⟩) 1 c,.func (.func 98) #[.agg #[.int .i64 a,.int .i64 s]] #[]] w fun e w'=>e=.returned (.int .i64 (if meB a s b t then 0 else -1))∧Below w.heap.size w w':=by
 have HM:=Zh (ZJo a s b t w ha hs hb ht);obtain ⟨R,hR⟩:∃R:Int,(if meB a s b t then (0:Int) else -1)=R:=⟨_,rfl⟩
 have HR:=Zh hR;rw[hR];clear ha hs hb ht hR;go_enter Tryz.func136,Tryz.ntmps136
 go_wp2_with fail
 go_loopw [8] (fun v W=>(v=.int .i64 0∧W=w)∨(v=.int .i64 1∧Hid (Below w.heap.size w W∧meB a s b t=false))) (fun v _=>1-(intOf v).toNat)
 case atStart=>exact Or.inl ⟨rfl,rfl⟩
 case round=>
  rcases hrel with ⟨rfl,rfl⟩|⟨rfl,HB⟩
  ·go_wp2_with fail
   refine HM.out.mono ?_;rintro e w1 ⟨rfl,hb1⟩;have HB1:=Zh hb1;clear hb1 h0 h1
   cases hm:meB a s b t with
   | true=>
    have HT:=Zh hm;clear hm;go_wp2_with fail
    go_ret;refine ⟨?_,HB1.out⟩;show Ending.returned (.int .i64 0)=.returned (.int .i64 R)
    rw[←HR.out,HT.out]
    rfl
   | false=>
    have HT:=Zh hm;clear hm;go_wp2_with fail
    go_roundw
    case rel=>exact Or.inr ⟨by go_num,HB1.out,HT.out⟩
    case measure=>first|(simp[intOf];done)|(simp[intOf];omega)
  ·go_wp2_with fail
   go_ret;refine ⟨?_,HB.out.1⟩;show Ending.returned (.int .i64 (-1))=.returned (.int .i64 R)
   rw[←HR.out,HB.out.2]
   rfl
theorem ZIc (g c:Nat) (a s b t:Int) (w:World) (ha:0≤a∧a≤100000000) (hs:0≤s∧s≤1000) (hb:0≤b∧b≤100000000) (ht:0≤t∧t≤1000) (h0:w.cell? ⟨g,0,none⟩=some (.int .i64 b)) (h1:w.cell? ⟨g,1,none⟩=some (.int .i64 t)):Calls Tryz.prog 97 #[.slice (some ⟨g,0,none⟩) 1 c,.func (.func 98) #[.agg #[.int .i64 a,.int .i64 s]] #[]] w fun e w'=>e=.returned (.bool (meB a s b t))∧Below w.heap.size w w':=by
 have HI:=Zh (indexS1 g c a s b t w ha hs hb ht h0 h1);clear ha hs hb ht h0 h1;go_enter Tryz.func97,Tryz.ntmps97
 go_wp2_with fail
 refine HI.out.mono ?_;rintro e w1 ⟨rfl,hb⟩;have HB:=Zh hb;clear hb HI
 cases hm:meB a s b t with
 | true=>
  have HT:=Zh hm;simp only[hm,if_true];clear hm;go_wp2_with fail
  go_ret;refine ⟨?_,HB.out⟩;show Ending.returned (.bool true)=.returned (.bool (meB a s b t));rw[HT.out]
 | false=>
  have HT:=Zh hm;simp only[hm,if_false,Bool.false_eq_true];clear hm;go_wp2_with fail
  go_ret;refine ⟨?_,HB.out⟩;show Ending.returned (.bool false)=.returned (.bool (meB a s b t));rw[HT.out]
theorem wiB_le {a s z:Int} (h:wiB a s z=true) (hs:0≤s) (hz:z≤16777216):0≤a∧a≤16777216:=by
 unfold wiB at h;simp only[Bool.and_eq_true,decide_eq_true_eq] at h;omega
theorem ZIj (g:Nat) (a s b t z:Int) (w:World) (hs:0≤s∧s≤1000) (ht:0≤t∧t≤1000) (hz:0≤z∧z≤16777216) (h0:w.cell? ⟨g,0,none⟩=some (.int .i64 a)) (h1:w.cell? ⟨g,1,none⟩=some (.int .i64 s)) (h2:w.cell? ⟨g,2,none⟩=some (.int .i64 b)) (h3:w.cell? ⟨g,3,none⟩=some (.int .i64 t)) :
  Calls Tryz.prog 60 #[.int .i64 z,.slice (some ⟨g,0,none⟩) 2 2] w fun e w'=>e=.returned (.bool (wiB a s z&&(wiB b t z && !meB b t a s)))∧Below w.heap.size w w':=by
 obtain ⟨R,hR⟩:∃R:Bool,(wiB a s z&&(wiB b t z && !meB b t a s))=R:=⟨_,rfl⟩
 have HR:=Zh hR;rw[hR];clear hR;have HW0:=Zh (fun W=>ZDx a s z W hs.1 hs.2 hz.1 hz.2);have HW1:=Zh (fun W=>ZDx b t z W ht.1 ht.2 hz.1 hz.2);have HZ:=Zh (Za hs (Za ht hz));have HC:=Zh (Za h0 (Za h1 (Za h2 h3)));clear hs ht hz h0 h1 h2 h3;go_enter Tryz.func60,Tryz.ntmps60
 go_wp2_with fail
 go_loopw [9] (fun v W=>∃k:Nat,k≤2∧v=.int .i64 k∧Hid (Below w.heap.size w W∧(0<k→wiB a s z=true)∧(1<k→(wiB b t z && !meB b t a s)=true))) (fun v _=>2-(intOf v).toNat)
 case atStart=>exact ⟨0,by omega,rfl,Below.refl _ _,fun h=>by omega,fun h=>by omega⟩
 case round=>
  obtain ⟨k,hk,rfl,HB⟩:=hrel;rcases (show k=0∨k=1∨k=2 by omega) with rfl|rfl|rfl
  ·have c0:=(HB.out.1.cell (cell_lt HC.out.1)).trans HC.out.1
   have c1:=(HB.out.1.cell (cell_lt HC.out.2.1)).trans HC.out.2.1;go_upto_region 4 with fail
   obtain ⟨w1,hw1⟩:∃w1,wr.alloc (.cells #[.int .i64 a,.int .i64 s] 146)=w1:=⟨_,rfl⟩
   obtain ⟨q,hq⟩:∃q,wr.heap.size=q:=⟨_,rfl⟩
   have hbl:=Blk.new wr 146 #[.int .i64 a,.int .i64 s];have hal:=ZV wr (.cells #[.int .i64 a,.int .i64 s] 146);rw[hw1,hq] at hbl;rw[hw1] at hal
   first|rw[hw1,hq]|(rw[hw1];try rw[hq])
   have HA1:=Zh (HB.out.1.trans (ZA hal HB.out.1.size));have b0:=hbl.cell0';have b1:=hbl.cell1';clear hw1 hq hbl hal c0 c1
   cases hw:wiB a s z
   case false=>
    have HT:=Zh hw;have HWF:Hid (∀W,Calls Tryz.prog 96 #[.agg #[.int .i64 a,.int .i64 s],.int .i64 z] W fun e w'=>e=.returned (.bool false)∧Below W.heap.size W w'):=fun W=>by
     have h9:=HW0.out W;rwa[hw] at h9
    clear hw;refine wp_region_held_drew (S:=(fun W=>W.cell? ⟨q,0,none⟩=some (.int .i64 a)∧W.cell? ⟨q,1,none⟩=some (.int .i64 s))) (by kernel_rfl) ?_ (fun hHeld=>?_)
    ·exact ⟨b0,b1⟩
    clear b0 b1;refine FU 12 rfl ?_;iterate 2 (refine TN 12 rfl ?_;try simp only[AP,Nat.reduceAdd,Nat.reduceSub])
    refine RW 2 rfl fun K hK=>?_;go_simp;go_at_call 96;refine (HWF.out _).mono ?_;rintro e w2 ⟨rfl,hb2⟩;try go_simp
    refine hK.out _ _ (show _∧_ from ⟨(hb2.cell (cell_lt hHeld.1)).trans hHeld.1,(hb2.cell (cell_lt hHeld.2)).trans hHeld.2⟩) (fun hHeld=>?_);have HB2:=Zh (show Below w.heap.size w w2∧Below w1.drew.heap.size w1.drew w2 from ⟨HA1.out.trans (ZA ((ZAO (Below.refl _ _)).trans hb2) HA1.out.size),hb2⟩);clear hb2;clear hK K;try simp only[AP]
    iterate 9 ((first|refine TN 12 rfl ?_|refine TM 12 rfl ?_);try simp only[AP,Nat.reduceAdd,Nat.reduceSub])
    refine wpAnyH_done (by kernel_rfl) ?_ _;clear hHeld HWF;go_wp2_with fail
    go_ret;refine ⟨?_,HB2.out.1⟩;show Ending.returned (.bool false)=.returned (.bool R)
    rw[←HR.out,HT.out]
    rfl
   case true=>
    have HT:=Zh hw;have HWF:Hid (∀W,Calls Tryz.prog 96 #[.agg #[.int .i64 a,.int .i64 s],.int .i64 z] W fun e w'=>e=.returned (.bool true)∧Below W.heap.size W w'):=fun W=>by
     have h9:=HW0.out W;rwa[hw] at h9
    clear hw;refine wp_region_held_drew (S:=(fun W=>W.cell? ⟨q,0,none⟩=some (.int .i64 a)∧W.cell? ⟨q,1,none⟩=some (.int .i64 s))) (by kernel_rfl) ?_ (fun hHeld=>?_)
    ·exact ⟨b0,b1⟩
    clear b0 b1;refine FU 12 rfl ?_;iterate 2 (refine TN 12 rfl ?_;try simp only[AP,Nat.reduceAdd,Nat.reduceSub])
    refine RW 2 rfl fun K hK=>?_;go_simp;go_at_call 96;refine (HWF.out _).mono ?_;rintro e w2 ⟨rfl,hb2⟩;try go_simp
    refine hK.out _ _ (show _∧_ from ⟨(hb2.cell (cell_lt hHeld.1)).trans hHeld.1,(hb2.cell (cell_lt hHeld.2)).trans hHeld.2⟩) (fun hHeld=>?_);have HB2:=Zh (show Below w.heap.size w w2∧Below w1.drew.heap.size w1.drew w2 from ⟨HA1.out.trans (ZA ((ZAO (Below.refl _ _)).trans hb2) HA1.out.size),hb2⟩);clear hb2;clear hK K;try simp only[AP]
    iterate 7 (refine TN 12 rfl ?_;try simp only[AP,Nat.reduceAdd,Nat.reduceSub])
    refine RW 10 rfl fun K hK=>?_;go_simp;go_at_call 97;refine (ZId _ _ _ _).mono ?_;rintro e w3 ⟨rfl,hw3⟩;replace hw3:=hw3.symm;subst hw3;try go_simp
    refine hK.out _ _ hHeld (fun hHeld=>?_);have HN:=Zh HB2.out.1;clear hK K;try simp only[AP]
    refine TW 11 rfl ?_;try simp only[AP]
    refine wpAnyH_done (by kernel_rfl) ?_ _;clear hHeld HWF;go_wp2_with fail
    go_roundw
    case rel=>exact ⟨1,by omega,by go_num,HN.out,fun _=>HT.out,fun h=>by omega⟩
    case measure=>first|(simp[intOf];done)|(simp[intOf];omega)
  ·have c0:=(HB.out.1.cell (cell_lt HC.out.2.2.1)).trans HC.out.2.2.1
   have c1:=(HB.out.1.cell (cell_lt HC.out.2.2.2)).trans HC.out.2.2.2;go_upto_region 4 with fail
   obtain ⟨w1,hw1⟩:∃w1,wr.alloc (.cells #[.int .i64 b,.int .i64 t] 146)=w1:=⟨_,rfl⟩
   obtain ⟨q,hq⟩:∃q,wr.heap.size=q:=⟨_,rfl⟩
   have hbl:=Blk.new wr 146 #[.int .i64 b,.int .i64 t];have hal:=ZV wr (.cells #[.int .i64 b,.int .i64 t] 146);rw[hw1,hq] at hbl;rw[hw1] at hal
   first|rw[hw1,hq]|(rw[hw1];try rw[hq])
   have HA1:=Zh (HB.out.1.trans (ZA hal HB.out.1.size));have b0:=hbl.cell0';have b1:=hbl.cell1';clear hw1 hq hbl hal c0 c1;have HLA:=Zh (wiB_le (HB.out.2.1 (by omega)) HZ.out.1.1 HZ.out.2.2.2)
   cases hw:wiB b t z
   case false=>
    have HT:=Zh hw;have HWF:Hid (∀W,Calls Tryz.prog 96 #[.agg #[.int .i64 b,.int .i64 t],.int .i64 z] W fun e w'=>e=.returned (.bool false)∧Below W.heap.size W w'):=fun W=>by
     have h9:=HW1.out W;rwa[hw] at h9
    clear hw;refine wp_region_held_drew (S:=(fun W=>W.cell? ⟨q,0,none⟩=some (.int .i64 b)∧W.cell? ⟨q,1,none⟩=some (.int .i64 t))) (by kernel_rfl) ?_ (fun hHeld=>?_)
    ·exact ⟨b0,b1⟩
    clear b0 b1;refine FU 12 rfl ?_;iterate 2 (refine TN 12 rfl ?_;try simp only[AP,Nat.reduceAdd,Nat.reduceSub])
    refine RW 2 rfl fun K hK=>?_;go_simp;go_at_call 96;refine (HWF.out _).mono ?_;rintro e w2 ⟨rfl,hb2⟩;try go_simp
    refine hK.out _ _ (show _∧_ from ⟨(hb2.cell (cell_lt hHeld.1)).trans hHeld.1,(hb2.cell (cell_lt hHeld.2)).trans hHeld.2⟩) (fun hHeld=>?_);have HB2:=Zh (show Below w.heap.size w w2∧Below w1.drew.heap.size w1.drew w2 from ⟨HA1.out.trans (ZA ((ZAO (Below.refl _ _)).trans hb2) HA1.out.size),hb2⟩);clear hb2;clear hK K;try simp only[AP]
    iterate 9 ((first|refine TN 12 rfl ?_|refine TM 12 rfl ?_);try simp only[AP,Nat.reduceAdd,Nat.reduceSub])
    refine wpAnyH_done (by kernel_rfl) ?_ _;clear hHeld HWF;go_wp2_with fail
    go_ret;refine ⟨?_,HB2.out.1⟩;show Ending.returned (.bool false)=.returned (.bool R)
    rw[←HR.out,HB.out.2.1 (by omega),HT.out]
    rfl
   case true=>
    have HT:=Zh hw;have HWF:Hid (∀W,Calls Tryz.prog 96 #[.agg #[.int .i64 b,.int .i64 t],.int .i64 z] W fun e w'=>e=.returned (.bool true)∧Below W.heap.size W w'):=fun W=>by
     have h9:=HW1.out W;rwa[hw] at h9
    have hlb:=wiB_le hw HZ.out.2.1.1 HZ.out.2.2.2;have HCN:Hid (∀W,Below w1.drew.heap.size w1.drew W→Calls Tryz.prog 97 #[.slice (some ⟨g,0,none⟩) 1 2,.func (.func 98) #[.agg #[.int .i64 b,.int .i64 t]] #[]] W fun e w'=>e=.returned (.bool (meB b t a s))∧Below W.heap.size W w'):=fun W hW=>by
     have d0:W.cell? ⟨g,0,none⟩=some (.int .i64 a):=(hW.cell (cell_lt ((HA1.out.cell (cell_lt HC.out.1)).trans HC.out.1))).trans ((HA1.out.cell (cell_lt HC.out.1)).trans HC.out.1);have d1:W.cell? ⟨g,1,none⟩=some (.int .i64 s):=(hW.cell (cell_lt ((HA1.out.cell (cell_lt HC.out.2.1)).trans HC.out.2.1))).trans ((HA1.out.cell (cell_lt HC.out.2.1)).trans HC.out.2.1);exact ZIc g 2 b t a s W (by omega) HZ.out.2.1 (by have:=HLA.out;omega) HZ.out.1 d0 d1
    clear hw hlb;obtain ⟨mb,hmb⟩:∃mb,meB b t a s=mb:=⟨_,rfl⟩
    rw[hmb] at HCN;have HMB:=Zh hmb;clear hmb;refine wp_region_held_drew (S:=(fun W=>W.cell? ⟨q,0,none⟩=some (.int .i64 b)∧W.cell? ⟨q,1,none⟩=some (.int .i64 t))) (by kernel_rfl) ?_ (fun hHeld=>?_)
    ·exact ⟨b0,b1⟩
    clear b0 b1;refine FU 12 rfl ?_;iterate 2 (refine TN 12 rfl ?_;try simp only[AP,Nat.reduceAdd,Nat.reduceSub])
    refine RW 2 rfl fun K hK=>?_;go_simp;go_at_call 96;refine (HWF.out _).mono ?_;rintro e w2 ⟨rfl,hb2⟩;try go_simp
    refine hK.out _ _ (show _∧_ from ⟨(hb2.cell (cell_lt hHeld.1)).trans hHeld.1,(hb2.cell (cell_lt hHeld.2)).trans hHeld.2⟩) (fun hHeld=>?_);have HB2:=Zh (show Below w.heap.size w w2∧Below w1.drew.heap.size w1.drew w2 from ⟨HA1.out.trans (ZA ((ZAO (Below.refl _ _)).trans hb2) HA1.out.size),hb2⟩);clear hb2;clear hK K;try simp only[AP]
    iterate 7 (refine TN 12 rfl ?_;try simp only[AP,Nat.reduceAdd,Nat.reduceSub])
    refine RW 10 rfl fun K hK=>?_;go_simp;go_at_call 97;refine (HCN.out _ HB2.out.2).mono ?_;rintro e w3 ⟨rfl,hb3⟩;try go_simp
    refine hK.out _ _ (show _∧_ from ⟨(hb3.cell (cell_lt hHeld.1)).trans hHeld.1,(hb3.cell (cell_lt hHeld.2)).trans hHeld.2⟩) (fun hHeld=>?_);have HN:=Zh (HB2.out.1.trans (ZA hb3 HB2.out.1.size));clear hb3;clear hK K;try simp only[AP]
    refine TW 11 rfl ?_;try simp only[AP]
    refine wpAnyH_done (by kernel_rfl) ?_ _;clear hHeld HWF HCN
    cases mb
    case false=>
     go_wp2_with fail
     go_roundw
     case rel=>exact ⟨2,by omega,by go_num,HN.out,fun _=>HB.out.2.1 (by omega),fun _=>by rw[HT.out,HMB.out];rfl⟩
     case measure=>first|(simp[intOf];done)|(simp[intOf];omega)
    case true=>
     go_wp2_with fail
     go_ret;refine ⟨?_,HN.out⟩;show Ending.returned (.bool false)=.returned (.bool R)
     rw[←HR.out,HB.out.2.1 (by omega),HT.out,HMB.out]
     rfl
  ·go_wp2_with fail
   go_ret;refine ⟨?_,HB.out.1⟩;show Ending.returned (.bool true)=.returned (.bool R)
   rw[←HR.out,HB.out.2.1 (by omega),HB.out.2.2 (by omega)]
   rfl
theorem Blk.cellp {w:World} {g:Nat} {t:TypeId} {cs:Array Value} (h:Blk w g t cs) {j:Nat} {v:Value} (hv:cs[j]? = some v):w.cell? ⟨g,j,none⟩=some v:=(h.cell j).trans hv
def okS (l:List Int) (k:Nat):Bool:=decide (4≤l.getD k 0)&&decide (l.getD k 0≤10)&&(decide (k=0) || decide (l.getD (k-1) 0<l.getD k 0))
def ZCg (l:List Int):Bool:=(List.range l.length).all (okS l)
theorem ZC2 {l:List Int} (h:ZCg l=true) {k:Nat} (hk:k<l.length):okS l k=true:=by
 unfold ZCg at h;rw[List.all_eq_true] at h;exact h k (List.mem_range.2 hk)
theorem ZJC {l:List Int} {k:Nat} (hk:k<l.length) (h:okS l k=false):ZCg l=false:=by
 cases hs:ZCg l with
 | false=>rfl
 | true=>rw[ZC2 hs hk] at h;cases h
theorem ZD7 {l:List Int} (h:∀k,k<l.length→okS l k=true):ZCg l=true:=by
 unfold ZCg;rw[List.all_eq_true];intro k hk;exact h k (List.mem_range.1 hk)
theorem okS_ge {l:List Int} (h:∀k,k<l.length→okS l k=true):∀k,k<l.length→4+(k:Int)≤l.getD k 0
 | 0,hk=>by
  have:=h 0 hk;simp only[okS,Bool.and_eq_true,decide_eq_true_eq] at this;omega
 | k+1,hk=>by
  have h1:=okS_ge h k (by omega);have h2:=h (k+1) hk;simp only[okS,Bool.and_eq_true,Bool.or_eq_true,decide_eq_true_eq,Nat.add_sub_cancel] at h2;omega
theorem ZD8 {l:List Int} (h:∀k,k<l.length→okS l k=true):l.length≤7:=by
 rcases Nat.lt_or_ge 7 l.length with hl|hl
 ·have h1:=okS_ge h 7 hl
  have h2:=h 7 hl;simp only[okS,Bool.and_eq_true,decide_eq_true_eq] at h2;omega
 ·exact hl
def ownB (z at_ lk:Int) (l:List Int):Bool:=ZCg l&&(szB z&&(wiB at_ (4*l.length) z&&(wiB lk 4 z && !meB lk 4 at_ (4*l.length))))
def ZGB (w:World) (v:Value) (l:List Int):Prop:=RowOf w v l.length (l.map (Value.int .i64))
theorem ZGB.open_ {w:World} {A:Option Addr} {n c:Nat} {l:List Int} (h:RowOf w (.slice A n c) l.length (l.map (Value.int .i64))) {k:Nat} (hk:k<l.length):∃g off,A=some ⟨g,off,none⟩∧g<w.heap.size∧∀j,j<l.length→w.cell? ⟨g,off+j,none⟩=some (.int .i64 (l.getD j 0)):=by
 obtain ⟨g,off,cap,e,h2,h3,h4,h5⟩:=RowOf.open_ h (by omega);injection e with e1 e2 e3
 exact ⟨g,off,e1,h4,fun j hj=>h5 j _ (by simp[hj])⟩
theorem ZEj (z v1 v2 at_ lk:Int) (sl:Value) (hsl:∃A n c,sl=.slice A n c) (A:Option Addr) (c:Nat) (l:List Int) (w:World) (h:RowOf w (.slice A l.length c) l.length (l.map (Value.int .i64))) (hl:l.length≤maxLen) :
  Calls Tryz.prog 22 #[.agg #[.int .i64 z,.int .i64 v1,.int .i64 v2,.int .i64 at_,.int .i64 lk,sl,.slice A l.length c]] w fun e w'=>e=.returned (.bool (ownB z at_ lk l))∧Below w.heap.size w w':=by
 obtain ⟨As,ns,cs,rfl⟩:=hsl;have hal:=ZV w (.cells #[.int .i64 z,.int .i64 v1,.int .i64 v2,.int .i64 at_,.int .i64 lk,.slice As ns cs,.slice A l.length c] 24);have HL:=Zh (h.below hal);have HAL:=Zh hal;have HBL:=Zh (Blk.new w 24 #[.int .i64 z,.int .i64 v1,.int .i64 v2,.int .i64 at_,.int .i64 lk,.slice As ns cs,.slice A l.length c]);obtain ⟨R,hR⟩:∃R:Bool,ownB z at_ lk l=R:=⟨_,rfl⟩
 have HR:=Zh hR;rw[hR];obtain ⟨n,hn⟩:∃n,l.length=n:=⟨_,rfl⟩
 have HN:=Zh hn;unfold maxLen at hl;rw[hn] at HL HAL HBL hl ⊢;clear h hal hR hn;go_enter Tryz.func22,Tryz.ntmps22
 go_upto_region 1 with fail
 obtain ⟨q,hq⟩:∃q,w.heap.size=q:=⟨_,rfl⟩
 obtain ⟨w1,hw1⟩:∃w1,w.alloc (.cells #[.int .i64 z,.int .i64 v1,.int .i64 v2,.int .i64 at_,.int .i64 lk,.slice As ns cs,.slice A n c] 24)=w1:=⟨_,rfl⟩
 rw[hw1,hq] at HBL;rw[hw1] at HL HAL
 first|rw[hw1,hq]|(rw[hw1];try rw[hq])
 clear hw1 hq;have b6:w1.cell? ⟨q,6,none⟩=some (.slice A n c):=HBL.out.cellp rfl;go_wp2_with fail
 go_loopw [8] (fun v W=>∃k:Nat,k≤n∧v=.int .i64 k∧W=w1∧Hid (∀j,j<k→okS l j=true)) (fun v _=>n-(intOf v).toNat)
 case atStart=>exact ⟨0,by omega,rfl,rfl,fun j h=>by omega⟩
 case round=>
  obtain ⟨k,hk,rfl,rfl,HO⟩:=hrel;rcases Nat.lt_or_ge k n with hlt|hge
  ·have hkl:k<l.length:=by rw[HN.out];exact hlt
   have hrow:RowOf wr (.slice A n c) l.length (l.map (Value.int .i64)):=by rw[HN.out];exact HL.out
   obtain ⟨g,off,rfl,hg,hc⟩:=ZGB.open_ hrow hkl;have c0:=hc k hkl;have HP:=Zh (fun (hk0:0<k)=>hc (k-1) (by omega));obtain ⟨r,hr⟩:∃r,l.getD k 0=r:=⟨_,rfl⟩
   rw[hr] at c0;have HRR:=Zh hr;have hkI:(k:Int)<(n:Int):=by omega
   clear hc hrow hg hr;have HF:Hid (okS l k=false→Ending.returned (.bool false)=.returned (.bool R)):=fun h=>by
    rw[←HR.out]
    unfold ownB;rw[ZJC hkl h]
    rfl
   cases g1:decide (r<4) with
   | true=>
    have HX:=Zh (HF.out (by unfold okS;rw[HRR.out];have:=of_decide_eq_true g1;rw[decide_eq_false (show ¬4≤r by omega)];rfl));clear HF;go_wp2_with fail
    go_ret;exact ⟨HX.out,HAL.out⟩
   | false=>
    cases g2:decide (10<r) with
    | true=>
     have HX:=Zh (HF.out (by unfold okS;rw[HRR.out];have:=of_decide_eq_true g2;rw[decide_eq_false (show ¬r≤10 by omega),Bool.and_false];rfl));clear HF;go_wp2_with fail
     go_ret;exact ⟨HX.out,HAL.out⟩
    | false=>
     have G:=Zh (show 4≤r∧r≤10 from ⟨by have:=of_decide_eq_false g1;omega,by have:=of_decide_eq_false g2;omega⟩);rcases Nat.eq_zero_or_pos k with hk0|hk0
     ·have g3:decide ((0:Int)<(k:Int))=false:=decide_eq_false (by omega)
      have HX:Hid (∀j,j<k+1→okS l j=true):=fun j hj=>by
       have:j=k:=by omega
       subst this;unfold okS;rw[HRR.out,decide_eq_true G.out.1,decide_eq_true G.out.2,decide_eq_true hk0]
       rfl
      have g3':decide (0<k)=false:=decide_eq_false (by omega);clear hk0;go_wp2_with fail
      go_roundw
      case rel=>exact ⟨k+1,by omega,by go_num,trivial,HX.out⟩
      case measure=>first|(simp[intOf];done)|(simp[intOf];omega)
     ·have c1:=HP.out hk0
      have g3:decide ((0:Int)<(k:Int))=true:=decide_eq_true (by omega);obtain ⟨k1,hk1⟩:∃k1,k-1=k1:=⟨_,rfl⟩
      obtain ⟨r1,hr1⟩:∃r1,l.getD (k-1) 0=r1:=⟨_,rfl⟩
      rw[hr1,hk1] at c1;have HR1:=Zh hr1;have e1:IntKind.i64.wrap ((k:Int)-1)=(k1:Int):=by rw[IntWalk.i64_in _ (by omega)];omega
      have hk1I:(k1:Int)<(n:Int):=by omega
      have hk1N:k1<n:=by omega
      have hkne:¬k=0:=by omega
      have HKN:=Zh (Za hkne hk0);clear hr1 hk1 hkne
      cases g4:decide (r≤r1) with
      | true=>
       have HX:=Zh (HF.out (by unfold okS;rw[HRR.out,HR1.out];have:=of_decide_eq_true g4;rw[decide_eq_false (show ¬r1<r by omega),decide_eq_false HKN.out.1,Bool.or_false,Bool.and_false]));clear HF;go_wp2_with fail
       go_ret;exact ⟨HX.out,HAL.out⟩
      | false=>
       have HX:Hid (∀j,j<k+1→okS l j=true):=fun j hj=>by
        rcases Nat.lt_or_ge j k with h|h
        ·exact HO.out j h
        ·have:j=k:=by omega
         subst this;unfold okS;have:=of_decide_eq_false g4;rw[HRR.out,HR1.out,decide_eq_true G.out.1,decide_eq_true G.out.2,decide_eq_true (show r1<r by omega),Bool.or_true]
         rfl
       clear HF;go_wp2_with fail
       go_roundw
       case rel=>exact ⟨k+1,by omega,by go_num,trivial,HX.out⟩
       case measure=>first|(simp[intOf];done)|(simp[intOf];omega)
  ·have hkn:k=n:=by omega
   subst hkn;have HSV:Hid (ZCg l=true∧l.length≤7):=⟨ZD7 (fun j hj=>HO.out j (by rw[←HN.out];exact hj)),ZD8 (fun j hj=>HO.out j (by rw[←HN.out];exact hj))⟩
   have hk7:k≤7:=by rw[←HN.out];exact HSV.out.2
   have b0:wr.cell? ⟨q,0,none⟩=some (.int .i64 z):=HBL.out.cellp rfl;have b1:wr.cell? ⟨q,1,none⟩=some (.int .i64 v1):=HBL.out.cellp rfl;have b2:wr.cell? ⟨q,2,none⟩=some (.int .i64 v2):=HBL.out.cellp rfl;have b3:wr.cell? ⟨q,3,none⟩=some (.int .i64 at_):=HBL.out.cellp rfl;have b4:wr.cell? ⟨q,4,none⟩=some (.int .i64 lk):=HBL.out.cellp rfl;have b5:wr.cell? ⟨q,5,none⟩=some (.slice As ns cs):=HBL.out.cellp rfl;have HSZ:=Zh (ZJA z v1 v2 at_ lk (.slice As ns cs) (.slice A k c) wr rfl rfl);have e1:IntKind.i64.wrap (4*(k:Int))=4*(k:Int):=IntWalk.i64_in _ (by omega);go_wp2_with fail
   refine HSZ.out.mono ?_;rintro e w2 ⟨rfl,hb2⟩;have HB2:=Zh (HAL.out.trans (ZA hb2 HAL.out.size));replace b0:=(hb2.cell (cell_lt b0)).trans b0;replace b3:=(hb2.cell (cell_lt b3)).trans b3;replace b4:=(hb2.cell (cell_lt b4)).trans b4;replace b6:=(hb2.cell (cell_lt b6)).trans b6;clear hb2 b1 b2 b5 HSZ
   cases hz:szB z with
   | false=>
    have HX:Hid (Ending.returned (.bool false)=.returned (.bool R)):=by
     show _=_
     rw[←HR.out]
     unfold ownB;rw[HSV.out.1,hz]
     rfl
    clear hz;go_wp2_with fail
    go_ret;exact ⟨HX.out,HB2.out⟩
   | true=>
    have hzr:0≤z∧z≤16777216:=by
     unfold szB at hz;simp only[Bool.and_eq_true,decide_eq_true_eq] at hz;omega
    have hal2:=ZV w2 (.cells #[.int .i64 at_,.int .i64 (4*(k:Int)),.int .i64 lk,.int .i64 4] 146);have hbl2:=Blk.new w2 146 #[.int .i64 at_,.int .i64 (4*(k:Int)),.int .i64 lk,.int .i64 4];have HAP:=Zh (ZIj w2.heap.size at_ (4*(k:Int)) lk 4 z _ (by omega) (by omega) hzr (hbl2.cellp rfl) (hbl2.cellp rfl) (hbl2.cellp rfl) (hbl2.cellp rfl));have HX:Hid ((wiB at_ (4*(k:Int)) z&&(wiB lk 4 z && !meB lk 4 at_ (4*(k:Int))))=R):=by
     show _=_
     rw[←HR.out]
     unfold ownB;rw[HSV.out.1,hz,HN.out]
     rfl
    have HB3:=Zh (HB2.out.trans (ZA hal2 HB2.out.size));rw[HX.out] at HAP;clear hal2 hbl2 hz hzr;go_wp2_with fail
    refine HAP.out.mono ?_;rintro e w3 ⟨rfl,hb3⟩;have HB4:=Zh (HB3.out.trans (ZA hb3 HB3.out.size));clear hb3 HAP b0 b3 b4 b6;go_wp2_with fail
    go_ret;exact ⟨rfl,HB4.out⟩
end Go.Proofs.YtggmkofbikafhaaGreatDoor
