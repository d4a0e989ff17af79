/- Walks and plain laws on the way to FramePrologue (F4, G1, G2, G3, G4, F5). Conditions: those that each theorem states. -/
import Derived.Test.YtggmkofbikafhaaGreatDoorF3
import Derived.Test.YtggmkofbikafhaaGreatDoorShelf2
set_option linter.unusedVariables false
set_option linter.unusedSimpArgs false
set_option maxRecDepth 100000
set_option maxHeartbeats 40000000
namespace Go.Proofs.YtggmkofbikafhaaGreatDoor
open Go.RowKit
def ZFM (w:World):Prop:=TabAt 2 Lib.deBruijn64tab w
theorem ZFM.keeps {w w':World} {F:Nat→Prop} (h:ZFM w) (hk:ZE F w w') (hF:¬F 2):ZFM w':=fun j hj=>(hk.cell (p:=⟨2,j,none⟩) (cell_lt (h j hj)) hF).trans (h j hj)
theorem ZFM.below {w w':World} (h:ZFM w) (hb:Below w.heap.size w w'):ZFM w':=h.keeps (ZC (fun _=>False) hb) id
theorem and_nat (a b:Nat) (ha:a<2^64) (hb:b<2^64):bits .and .u64 (a:Int) (b:Int)=((a &&& b:Nat):Int):=u64_and_nat a b (by simpa using ha) (by simpa using hb)
theorem ZEt (g:Nat) (ws:List Nat) (most:Nat) (w:World) (hs:SetAt w g ws most) (hm:most≤4096) (ht:ZFM w) :
  Calls Tryz.prog 154 #[.pointer (some ⟨g,0,none⟩)] w fun e w'=>(∃v,e=.returned v∧OwnI w' w.heap.size v (listW ws ((most+63) / 64)))∧Below w.heap.size w w':=by
 have c64:=hs.top;have HS:=Zh hs;have HT:=Zh ht;clear hs ht;have hq:((most:Int)+63) / 64=((most+63) / 64:Nat):=by omega
 have hN:(most+63) / 64≤64:=by omega
 obtain ⟨N,hNe⟩:∃N,(most+63) / 64=N:=⟨_,rfl⟩
 rw[hNe] at hq hN ⊢;clear hNe;go_enter Tryz.func154,Tryz.ntmps154
 go_wp2;rw[hq];clear hq
 go_loopw [12,3] (fun i ov wr=>∃k:Nat,k≤N∧i=.int .i64 k∧Hid (OwnI wr w.heap.size ov (listW ws k)∧Below w.heap.size w wr)) (fun i _ _=>N-(intOf i).toNat)
 case atStart=>exact ⟨0,Nat.zero_le _,rfl,OwnI.nil _ _,Below.refl _ _⟩
 case round=>
  obtain ⟨k,hk,rfl,HW⟩:=hrel
  by_cases hlt:k<N
  ·have hk64:k<64:=by omega
   obtain ⟨x,hx,hx2,c0⟩:=(HS.out.below HW.out.2).val k hk64;have HSU:=Zh (show listW ws (k+1)=listW ws k++ZHU k x by rw[ZEL,hx]);have HLL:=Zh (show (listW ws (k+1)).length≤4096 from Nat.le_trans (ZDJ HS.out.hi (k+1)) (by omega));have HX:=Zh hx2;clear hx hx2;go_wp2
   go_loopw [5,3] (fun xv ov wr=>∃y:Nat,xv=.int .u64 (y:Int)∧Hid (y<2^64)∧∃l,Hid (OwnI wr w.heap.size ov l∧Below w.heap.size w wr)∧Hid (l++ZHU k y=listW ws (k+1))) (fun xv _ _=>(intOf xv).toNat)
   case atStart=>exact ⟨x,rfl,HX.out,_,HW.out,HSU.out.symm⟩
   case round=>
    clear HW;obtain ⟨y,rfl,HY,l,HW,HL⟩:=hrel
    by_cases h0:y=0
    ·have HE:=Zh (show l=listW ws (k+1) by rw[←HL.out,h0,ZJn,List.append_nil])
     subst h0;go_wp2;go_roundw
     case rel=>exact ⟨k+1,by omega,by go_num,by rw[←HE.out];exact HW.out⟩
     case measure=>simp[intOf];omega
    ·have HM:=memW_pos (i:=k) h0
     have hl2:(l++[((k:Int)*64+(Lib.ctz 64 y:Int))]).length≤4096:=by
      have h1:=HLL.out
      rw[←HL.out,HM] at h1
      simp at h1 ⊢
      omega
     have hc:=(ZKd h0 HY.out).2;have HTZ:=Zh (fun W (h:Below w.heap.size w W)=>Tryz.bits_TrailingZeros64 y (by simpa using HY.out) W (fun _=>HT.out.below h));obtain ⟨z,hz⟩:∃z,Lib.ctz 64 y=z:=⟨_,rfl⟩
     rw[hz] at HTZ HM hl2 hc;obtain ⟨v',w3,hap,how,hkp⟩:=HW.out.1.push HW.out.2.size (by rw[List.length_append] at hl2;simp at hl2;omega) ((k:Int)*64+(z:Int)) 22;have HAP3:=Zh hap;have HW3:=Zh (show OwnI w3 w.heap.size v' (l++[((k:Int)*64+(z:Int))])∧Below w.heap.size w w3 from ⟨how,HW.out.2.trans (HW.out.1.keepsB hkp HW.out.2.size)⟩);have HL3:=Zh (show (l++[((k:Int)*64+(z:Int))])++ZHU k (y &&& (y-1))=listW ws (k+1) by rw[←HL.out,HM];simp);have HY3:=Zh (Nat.lt_trans (ZAd h0) HY.out);have HAN:=Zh (and_nat y (y-1) HY.out (by have:=HY.out;omega));have HBE:=Zh HW.out.2;have hy1:((y:Int)==0)=false:=by simp;omega
     have hy2:((y:Int) != 0)=true:=by simp;omega
     have hy3:(y:Int)-1=((y-1:Nat):Int):=by omega
     have hy4:IntKind.u64.wrap ((y:Int)-1)=((y-1:Nat):Int):=by
      have:=HY.out;rw[IntKind.wrap_u64];omega
     clear hap how hkp hz HM hl2 HL HSU HLL HY hy3;go_wp2_with fail
     refine (HTZ.out _ HBE.out).mono ?_;rintro e w4 ⟨rfl,rfl⟩;go_wp2_with (at_builtin;refine ZK rfl (.tmp 27) (.tmp 33) 22 rfl rfl rfl HAP3.out ?_)
     go_roundw
     case rel=>exact ⟨y &&& (y-1),by rw[HAN.out],HY3.out,_,HW3.out,HL3.out⟩
     case measure=>
      have:=ZAd h0;simp[HAN.out,intOf];omega
  ·have hke:k=N:=by omega
   subst hke;go_wp2;go_ret;exact ⟨⟨_,rfl,HW.out.1⟩,HW.out.2⟩
structure FrW (w:World) (B gs:Nat) (n:Nat) (tv:Value) (s:List Bool×List Int) (W:World):Prop where
 se:ZAH W gs s.1
 ln:s.1.length=n
 td:OwnI W B tv s.2
 be:Below w.heap.size w W
 sz:B≤W.heap.size
 rg:∀t∈s.2,0≤t∧t<(n:Int)
theorem FrW.visit {w W W':World} {B gs n:Nat} {tv tv':Value} {s:List Bool×List Int} (h:FrW w B gs n tv s W) (hB:w.heap.size≤B) (hg:gs<B) (hgw:w.heap.size≤gs) {t:Nat} (ht:t<n) (hs:s.1.getD t false=false)
  (how:OwnI W' B tv' (s.2++[(t:Int)])) (hk:ZE (fun k=>tv.ownBlock=some k) (W.setCell ⟨gs,t,none⟩ (.bool true)) W'):FrW w B gs n tv' (visit s (t:Int)) W':=by
 have hv:Go.Proofs.YtggmkofbikafhaaGreatDoor.visit s (t:Int)=(s.1.set t true,s.2++[(t:Int)]):=by
  unfold Go.Proofs.YtggmkofbikafhaaGreatDoor.visit;rw[show ((t:Int)).toNat=t by omega,hs];rfl
 rw[hv];have hne:¬tv.ownBlock=some gs:=fun e=>by have:=h.td.ge gs e;omega
 refine ⟨(h.se.set_ t true).keeps hk hne,by simp[h.ln],how,?_,?_,fun x hx=>?_⟩
 ·have h1:Below w.heap.size w (W.setCell ⟨gs,t,none⟩ (.bool true)):=Below.setC h.be hgw _
  exact h1.trans (hk.toBelow h1.size (fun k hk' e=>by have:=h.td.ge k e;omega))
 ·have:=hk.size
  rw[World.size_setCell] at this;exact Nat.le_trans h.sz this
 ·rcases List.mem_append.1 hx with h1|h1
  ·exact h.rg x h1
  ·rw[List.mem_singleton] at h1;omega
theorem ZH4 (tl:List (List Int)) (f:Nat) (s:List Bool×List Int) (h:s.2=[]):ZA4 tl f s=s.1:=by
 cases f with
 | zero=>rfl
 | succ f=>rw[ZA4,if_pos h]
theorem ZJZ {n:Nat} (hn:0<n) (t:Int) (ht:t∈(ZAQ n).2):0≤t∧t<(n:Int):=by
 have:t=0:=by simpa[ZAQ] using ht
 omega
theorem neq_m1 (t:Nat):((t:Int) != -1)=true:=by
 rw[bne_iff_ne];omega
theorem fr_get {w W:World} {B gs n:Nat} {tv:Value} {s:List Bool×List Int} (h:FrW w B gs n tv s W) {t:Nat} (ht:t<n):∃b,s.1.getD t false=b∧W.cell? ⟨gs,t,none⟩=some (.bool b)∧W.frozen? ⟨gs,t,none⟩=false:=by
 obtain ⟨b,hb,hc⟩:=h.se.val t (by rw[h.ln];exact ht);exact ⟨b,hb,hc,h.se.frozen t⟩
theorem fr_push {w W:World} {B gs n:Nat} {tv:Value} {s:List Bool×List Int} (h:FrW w B gs n tv s W) (hB:w.heap.size≤B) (hg:gs<B) (hgw:w.heap.size≤gs) {t:Nat} (ht:t<n) (hs:s.1.getD t false=false) (hn:s.2.length<16777216) (ty:TypeId) :
  ∃v' W',(Builtin.append_ #[22,22] ty #[tv,.slice (some ⟨W.heap.size,0,none⟩) 1 1]).run Tryz.prog ((W.setCell ⟨gs,t,none⟩ (.bool true)).alloc (.cells #[.int .i64 (t:Int)] 3))=.ok v' W'∧FrW w B gs n v' (visit s (t:Int)) W':=by
 have hsz:(W.setCell ⟨gs,t,none⟩ (.bool true)).heap.size=W.heap.size:=World.size_setCell ..;have h1:OwnI (W.setCell ⟨gs,t,none⟩ (.bool true)) B tv s.2:=h.td.keeps ((ZE.refl (fun k=>k=gs) W).setCell (p:=⟨gs,t,none⟩) (Or.inr rfl) _) (fun g e h2=>by have:=h.td.ge g e;omega);obtain ⟨v',W',e1,e2,e3⟩:=h1.push (by rw[hsz];exact h.sz) (by omega) (t:Int) ty;rw[hsz] at e1;exact ⟨v',W',e1,h.visit hB hg hgw ht hs e2 e3⟩
theorem ZHq {s:List Bool×List Int} {t:Nat} (h:s.1.getD t false=true):visit s (t:Int)=s:=by
 unfold visit;rw[show ((t:Int)).toNat=t by omega,h];rfl
theorem ZHp (l:List Int) (s:List Bool×List Int) {j:Nat} (hj:j<l.length):(l.take (j+1)).foldl visit s=visit ((l.take j).foldl visit s) l[j]:=by
 rw[List.take_succ_eq_append_getElem hj,List.foldl_append];rfl
theorem from_any (gg:Nat) (tl:List (List Int)) (tv:Value) (w:World) (hc5:w.cell? ⟨gg,5,none⟩=some tv) (ht:ZF9 w tv tl) (hok:ToOk tl) (hn:0<tl.length) (hn2:tl.length≤4096) :
  Calls Tryz.prog 224 #[.pointer (some ⟨gg,0,none⟩),.int .i64 0,.int .i64 (-1)] w fun e w'=>(∃g,e=.returned (.slice (some ⟨g,0,none⟩) tl.length tl.length)∧ZAH w' g (ZBj tl)∧w.heap.size≤g)∧Below w.heap.size w w':=by
 obtain ⟨A,c,rfl,h1,h2⟩:=ht.form;unfold maxLen at h2;have HT:=Zh ht;have HOK:=Zh hok;have hgg:=cell_lt hc5;have hmk:=fun w=>ZEJ tl.length (by omega) w;have hs0:FrW w (w.heap.size+1) w.heap.size tl.length (.slice (some ⟨w.heap.size+1,0,none⟩) 1 1) (ZAQ tl.length) ((w.alloc (.cells ((Array.replicate tl.length (.bool false)).setIfInBounds 0 (.bool true)) 4)).alloc (.cells #[.int .i64 0] 3)):=
  ⟨⟨_,(Blk.new w 4 _).alloc _,by simp[ZAQ,bv,List.map_set]⟩,by simp[ZAQ],OwnI.new (B:=w.heap.size+1) (l:=[0]) (ZY (by simp[World.size_alloc]) _ _) rfl rfl (Nat.le_refl _) (by decide),below2 _ _ _,by simp[World.size_alloc],fun t ht=>ZJZ hn t ht⟩
 have HS0:=Zh hs0;have hf0:(w.alloc (.cells (Array.replicate tl.length (.bool false)) 4)).frozen? ⟨w.heap.size,0,none⟩=false:=(ZAH.made w tl.length).frozen 0;have hf1:(w.alloc (.cells (Array.replicate tl.length (.bool false)) 4)).cell? ⟨w.heap.size,0,none⟩=some (.bool false):=by
  obtain ⟨b,hb,hcell⟩:=(ZAH.made w tl.length).val 0 (by simpa using hn);rw[hcell,←hb];simp[hn]
 obtain ⟨i1,i2,i3⟩:=ZEC (tl:=tl) hn;have HI:=Zh (Za i1 i2);have h0n:(0:Int)<(tl.length:Int):=by omega
 clear ht hok hs0 i1 i2 i3;go_enter Tryz.func224,Tryz.ntmps224
 go_wp2_with fail
 go_loopg [8] (2*tl.length+1) (fun f tdv wr=>∃s:List Bool×List Int,Hid (FrW w (w.heap.size+1) w.heap.size tl.length tdv s wr)∧Hid (meas s≤f∧meas s≤8193∧ZA4 tl f s=ZBj tl))
 case atStart=>exact ⟨_,HS0.out,HI.out.2,Nat.le_trans HI.out.2 (by omega),rfl⟩
 case round=>
  clear HS0 HI hf0 hf1;obtain ⟨s,HW,HM⟩:=hrel
  by_cases he:s.2=[]
  ·obtain ⟨At,ct,rfl,q1,q2⟩:=HW.out.td.form
   have hl0:s.2.length=0:=by rw[he];rfl
   have hfin:s.1=ZBj tl:=by
    rw[←HM.out.2.2,ZH4 tl _ s he]
   rw[hl0];have HR:=Zh HW.out.se;rw[hfin] at HR;have HB:=Zh HW.out.be;clear HW HM hfin;go_wp2;go_ret;exact ⟨⟨_,rfl,HR.out,Nat.le_refl _⟩,HB.out⟩
  ·obtain ⟨gt,cap,m,hm,rfl,q1,q2,cl,hpop⟩:=HW.out.td.pop he
   unfold maxLen at q2;obtain ⟨gto,off,cap',ea,h3,h4,hg,hcc⟩:=HT.out.open_ hn
   cases ea
   obtain ⟨f,hf⟩:∃f,gk=f+1:=by
    refine ⟨gk-1,?_⟩;have h5:=HM.out.1;unfold meas at h5;omega
   subst hf;have hk0:(s.2.getLastD 0)∈s.2:=by
    rw[List.getLastD_eq_getLast?,List.getLast?_eq_some_getLast he];exact List.getLast_mem he
   have hkr:=HW.out.rg _ hk0;obtain ⟨k,hk⟩:∃k:Nat,s.2.getLastD 0=(k:Int):=⟨(s.2.getLastD 0).toNat,by omega⟩
   rw[hk] at hkr cl;have hkn:k<tl.length:=by omega
   obtain ⟨v2,d0,hv2⟩:=hcc k hkn;obtain ⟨A2,cc2,rfl,k1,k2⟩:=hv2.form;unfold maxLen at k2;have e2:tl.getD (s.2.getLastD 0).toNat []=tl[k]:=by rw[hk,show ((k:Int)).toNat=k by omega];simp[hkn]
   have hst:ZAS tl s=(tl[k]).foldl visit (s.1,s.2.dropLast):=by rw[ZAS,e2]
   have hmst:=ZB9 HOK.out s HW.out.ln he;have hlk:∀t∈tl[k],0≤t∧t<(tl.length:Int):=HOK.out _ (List.getElem_mem hkn);have hmj:=fun j=>ZC1 ((tl[k]).take j) (s.1,s.2.dropLast) (fun n hn=>by
    have:=hlk n (List.mem_of_mem_take hn);have:=HW.out.ln
    simp;omega)
   have hd1:meas (s.1,s.2.dropLast)≤meas s:=by simp[meas]
   have hrec:ZA4 tl f (ZAS tl s)=ZBj tl:=by rw[←HM.out.2.2,ZA4,if_neg he]
   have HNEW:=Zh (show meas (ZAS tl s)≤f∧meas (ZAS tl s)≤8193∧ZA4 tl f (ZAS tl s)=ZBj tl from ⟨by have:=HM.out.1;omega,by have:=HM.out.2.1;omega,hrec⟩);obtain ⟨l2,hl2⟩:∃l2,tl[k]=l2:=⟨_,rfl⟩
   rw[hl2] at hv2 hst hlk hmj k1;rw[hl2] at d0;have HMJ:=Zh (fun j=>Nat.le_trans (hmj j).1 (Nat.le_trans hd1 HM.out.2.1));have HV2:=Zh hv2;have HST:=Zh hst;have HLK:=Zh hlk;have HWP:=Zh (show FrW w (w.heap.size+1) w.heap.size tl.length (.slice (some ⟨gt,0,none⟩) m cap) (s.1,s.2.dropLast) wr from ⟨HW.out.se,HW.out.ln,hpop,HW.out.be,HW.out.sz,fun t ht=>HW.out.rg t (List.dropLast_subset _ ht)⟩);have e5:wr.cell? ⟨gg,5,none⟩=some (.slice (some ⟨gto,off,none⟩) tl.length c):=(HW.out.be.cell (p:=⟨gg,5,none⟩) hgg).trans hc5;have e6:wr.cell? ⟨gto,off+k,none⟩=some (.slice A2 l2.length cc2):=(HW.out.be.cell (p:=⟨gto,off+k,none⟩) hg).trans d0;clear hm hcc hk0 hkr hk e2 hst hmst hlk hmj hd1 hrec hv2 hpop HM d0 hl2 he HW;go_wp2
   go_loopw [49,8] (fun i tdv wr=>∃j:Nat,j≤l2.length∧i=.int .i64 j∧Hid (FrW w (w.heap.size+1) w.heap.size tl.length tdv ((l2.take j).foldl visit (s.1,s.2.dropLast)) wr)) (fun i _ _=>l2.length-(intOf i).toNat)
   case atStart=>exact ⟨0,Nat.zero_le _,rfl,HWP.out⟩
   case round=>
    clear HWP cl e5 e6;obtain ⟨j,hj,rfl,HW⟩:=hrel
    by_cases hjt:j<l2.length
    ·obtain ⟨g2,off2,cap2,ea,h5,h6,hg2,hc2⟩:=(HV2.out.below HW.out.be).open_ (Nat.lt_of_le_of_lt (Nat.zero_le _) hjt)
     cases ea
     have c0:=hc2 j hjt;have htt:=HLK.out l2[j] (List.getElem_mem hjt);have hvs:=ZHp l2 (s.1,s.2.dropLast) hjt;obtain ⟨t,ht⟩:∃t:Nat,l2[j]=(t:Int):=⟨l2[j].toNat,by omega⟩
     rw[ht] at c0 htt hvs;have htn:t<tl.length:=by omega
     have hne:=neq_m1 t;obtain ⟨b,hb,cb,fb⟩:=fr_get HW.out htn;have hlen:((l2.take j).foldl visit (s.1,s.2.dropLast)).2.length<16777216:=by
      have:=HMJ.out j;unfold meas at this;omega
     cases b with
     | true=>
      have HN:=Zh HW.out
      rw[←ZHq hb,←hvs] at HN
      clear hb hvs hlen HW ht htt hc2;go_wp2;go_roundw
      case rel=>exact ⟨j+1,by omega,by go_num,HN.out⟩
      case measure=>simp[intOf];omega
     | false=>
      obtain ⟨v',w3,hap,hfr⟩:=fr_push HW.out (Nat.le_succ _) (Nat.lt_succ_self _) (Nat.le_refl _) htn hb hlen 22
      rw[←hvs] at hfr
      have HAP:=Zh hap;have HN:=Zh hfr;clear hb hvs hlen HW ht htt hc2 hap hfr;go_wp2_with (at_builtin;refine ZK rfl (.tmp 66) (.tmp 68) 22 rfl rfl rfl HAP.out ?_)
      go_roundw
      case rel=>exact ⟨j+1,by omega,by go_num,HN.out⟩
      case measure=>simp[intOf];omega
    ·have hje:j=l2.length:=by omega
     subst hje;have HW4:=Zh HW.out;rw[List.take_length,←HST.out] at HW4;clear HW;go_wp2
     go_roundg f
     case rel=>exact ⟨_,HW4.out,HNEW.out⟩
     case measure=>omega
theorem ZDY (l:List Int) (v:Value) (x:Int) (w:World) (h:Ints w v l):Calls Tryz.prog 132 #[v,.int .i64 x] w fun e w'=>e=.returned (.bool (l.contains x))∧w'=w:=by
 obtain ⟨A,c,rfl,h1,h2⟩:=h.form;unfold maxLen at h2;rcases Nat.eq_zero_or_pos l.length with hz|hp
 ·have:l=[]:=List.length_eq_zero_iff.1 hz
  subst this;exact Tryz.slices_Contains_int_empty A c x w
 ·obtain ⟨g,off,cap,e,h3,h4,hg,hc⟩:=h.open_ hp
  cases e
  have:=Tryz.slices_Contains_int g off l.length c l x w (Nat.le_refl _) (by omega) (fun j hj=>by
   rw[hc j hj];simp[hj])
  rw[List.take_length] at this;exact this
theorem und27:Tryz.prog.underlying 189=some (.slice 22):=by kernel_rfl
theorem inf34:(Tryz.prog.info? 22).map (fun i=>(i.zero,i.size,i.bytes))=some (some (.slice none 0 0),1,24):=by kernel_rfl
theorem arowRW:ZHl 189 22 1 24:=ZAy und27 inf34 rfl (by decide)
def ZAz (W:World) (B:Nat) (v:Value) (tl:List (List Int)):Prop:=
 ∃vs:List Value,vs.length=tl.length∧W.ownsRow B 22 1 v tl.length vs∧∀i (h:i<tl.length) (h2:i<vs.length),OwnI W B vs[i] tl[i]
theorem ZAz.nil (W:World) (B:Nat):ZAz W B (.slice none 0 0) []:=⟨[],rfl,⟨by simp,Or.inl ⟨rfl,rfl⟩⟩,fun i h=>by simp at h⟩
theorem ZAz.to {W:World} {B:Nat} {v:Value} {tl:List (List Int)} (h:ZAz W B v tl):ZF9 W v tl:=by
 obtain ⟨vs,h1,h2,h3⟩:=h;exact ⟨vs,h1,RowOf.own h2,fun i a b=>(h3 i a b).ints⟩
theorem ZAz.form {W:World} {B:Nat} {v:Value} {tl:List (List Int)} (h:ZAz W B v tl):∃A c,v=.slice A tl.length c∧tl.length≤c∧c≤maxLen:=h.to.form
theorem ZAz.below {W W':World} {B:Nat} {v:Value} {tl:List (List Int)} (h:ZAz W B v tl) (hb:Below W.heap.size W W'):ZAz W' B v tl:=by
 obtain ⟨vs,h1,h2,h3⟩:=h;exact ⟨vs,h1,ZB h2 (ZC (fun _=>False) hb) (fun _ _=>id),fun i a b=>(h3 i a b).below hb⟩
theorem ZAz.keeps {W W':World} {F:Nat→Prop} {B:Nat} {v:Value} {tl:List (List Int)} (h:ZAz W B v tl) (hk:ZE F W W') (hF:∀g,B≤g→¬F g):ZAz W' B v tl:=by
 obtain ⟨vs,h1,h2,h3⟩:=h;refine ⟨vs,h1,ZB h2 hk (fun g hg=>hF g ?_),fun i a b=>(h3 i a b).keeps hk (fun g hg=>hF g ((h3 i a b).ge g hg))⟩;rcases h2.2 with ⟨rfl,_⟩|⟨g',cap,cur,rfl,hb,_⟩
 ·cases hg
 ·cases hg;exact hb
theorem ZAz.ge {W:World} {B:Nat} {v:Value} {tl:List (List Int)} (h:ZAz W B v tl):∀g,v.ownBlock=some g→B≤g:=by
 intro g hg;obtain ⟨vs,h1,h2,h3⟩:=h;rcases h2.2 with ⟨rfl,_⟩|⟨g',cap,cur,rfl,hb,_⟩
 ·cases hg
 ·cases hg;exact hb
theorem ZAz.push {W:World} {B:Nat} {v v2:Value} {tl:List (List Int)} {l:List Int} (h:ZAz W B v tl) (hl:OwnI W B v2 l) (hB:B≤W.heap.size) (hs:tl.length<16777216) (ty:TypeId) :
  ∃v' W',(Builtin.append_ #[189,189] ty #[v,.slice (some ⟨W.heap.size,0,none⟩) 1 1]).run Tryz.prog (W.alloc (.cells #[v2] 22))=.ok v' W'∧ZAz W' B v' (tl++[l])∧ZE (fun k=>v.ownBlock=some k) W W':=by
 obtain ⟨vs,h1,h2,h3⟩:=h;have ha:Below W.heap.size W (W.alloc (.cells #[v2] 22)):=ZN _ _;have k1:(W.alloc (.cells #[v2] 22)).ownsRow B 22 1 v tl.length vs:=ZB h2 (ZC (fun _=>False) ha) (fun _ _=>id);have hu:RowOf (W.alloc (.cells #[v2] 22)) (.slice (some ⟨W.heap.size,0,none⟩) 1 1) 1 [v2]:=by
  refine ⟨_,_,rfl,Nat.le_refl _,by decide,fun _=>⟨_,0,rfl,by simp[World.size_alloc],fun j u hj=>?_⟩⟩;rw[Nat.zero_add,(Blk.new W _ #[v2]).cell]
  simpa using hj
 have ho:∀y∈[v2],y.oneCell'=true:=by
  intro y hy;obtain rfl:=List.mem_singleton.1 hy;obtain ⟨A,c,rfl,-,-⟩:=hl.form
  rfl
 obtain ⟨v',W',e1,e2,e3,e4⟩:=app_any arowRW ty k1 hu rfl ho (by unfold maxLen;omega) (by omega) (by simp[World.size_alloc];omega);have hk:ZE (fun k=>v.ownBlock=some k) W W':=((ZE.refl (fun k=>v.ownBlock=some k) W).alloc _).trans ((ZE.refl _ _).grown e3 (fun g hg=>Or.inr hg)) (fun _ _ h=>h);have hne:∀ {u:Value} {m:List Int},OwnI W B u m→∀g,u.ownBlock=some g→¬v.ownBlock=some g:=by
  intro u m hu g hg hv;obtain ⟨cu,hcu⟩:=ZI hu hg;obtain ⟨cv,hcv⟩:=ZI h2 hv;exact absurd (Blk.kind hcu hcv) (by decide)
 refine ⟨v',W',e1,⟨vs++[v2],by simp[h1],by rw[List.length_append];exact e2,fun i hi hi2=>?_⟩,hk⟩
 by_cases hlt:i<tl.length
 ·rw[List.getElem_append_left hlt,List.getElem_append_left (by omega)]
  exact (h3 i hlt (by omega)).keeps hk (hne (h3 i hlt (by omega)))
 ·have:i=tl.length:=by simp at hi;omega
  subst this;rw[List.getElem_append_right (Nat.le_refl _),List.getElem_append_right (by omega)];simp only[h1,Nat.sub_self];exact hl.keeps hk (hne hl)
def grA (F:Fn) (sv bv tov rv:Value):Array Value:=#[.string F.nm,.int .i64 F.ps,.int .i64 F.rs,sv,bv,tov,rv]
structure GrAt (W:World) (B gg:Nat) (F:Fn) (sv bv:Value):Prop where
 ge:B≤gg
 ra:∃tov gr,Blk W gg 279 (grA F sv bv tov (.slice (some ⟨gr,0,none⟩) F.bl.length F.bl.length))∧ZAz W (gg+1) tov (toL F)∧ZAH W gr (ZEg F)∧gg<gr
structure DrW (w:World) (F:Fn) (sv bv:Value) (gg:Nat) (tov:Value) (tl:List (List Int)) (W:World):Prop where
 bx:Blk W w.heap.size 82 (fnA F sv bv)
 gb:Blk W gg 279 (grA F sv bv tov (.slice none 0 0))
 ow:ZAz W (gg+1) tov tl
 be:Below w.heap.size w W
 gt:w.heap.size<gg
theorem DrW.next {w W W':World} {F:Fn} {sv bv:Value} {gg:Nat} {tov:Value} {tl:List (List Int)} (h:DrW w F sv bv gg tov tl W) (hb:Below W.heap.size W W'):DrW w F sv bv gg tov tl W':=
 ⟨h.bx.below hb h.bx.lt,h.gb.below hb h.gb.lt,h.ow.below hb,h.be.trans (ZA hb h.be.size),h.gt⟩
theorem DrW.put {w W W':World} {F:Fn} {sv bv:Value} {gg:Nat} {tov tov':Value} {tl tl':List (List Int)} (h:DrW w F sv bv gg tov tl W) (hk:ZE (fun k=>tov.ownBlock=some k) W W') (ho:ZAz W' (gg+1) tov' tl') :
  DrW w F sv bv gg tov' tl' (W'.setCell ⟨gg,5,none⟩ tov')∧Blk W' gg 279 (grA F sv bv tov (.slice none 0 0)):=by
 have hg:¬tov.ownBlock=some gg:=fun e=>by have:=h.ow.ge gg e;omega
 have hg2:¬tov.ownBlock=some w.heap.size:=fun e=>by have:=h.ow.ge _ e;have:=h.gt;omega
 have g1:=h.gb.keeps hk hg;have hb:Below w.heap.size w W':=h.be.trans (hk.toBelow h.be.size (fun k hk' e=>by have:=h.ow.ge k e;have:=h.gt;omega));have hk2:ZE (fun k=>k=gg) W' (W'.setCell ⟨gg,5,none⟩ tov'):=(ZE.refl (fun k=>k=gg) W').setCell (p:=⟨gg,5,none⟩) (Or.inr rfl) _;exact ⟨⟨(h.bx.keeps hk hg2).far (by have:=h.gt;show w.heap.size≠gg;omega) _,g1.set_ 5 tov',ho.keeps hk2 (fun g hg=>by omega),Below.setC hb (by have:=h.gt;omega) _,h.gt⟩,g1⟩
theorem toL_step {F:Fn} {k:Nat} (hk:k<F.bl.length):(toL F).take (k+1)=(toL F).take k++[ZAY (exT F.bl[k].x)]:=by
 rw[List.take_succ_eq_append_getElem (by rw[ZAD];exact hk)];simp[toL]
theorem ZDU (F:Fn) (sv bv:Value) (w:World) (h:ZG9 w F sv bv) :
  Calls Tryz.prog 188 #[fnv F sv bv] w fun e w'=>(fnB F=false∧e=.returned (.tuple #[.pointer none,errV F])∨fnB F=true∧∃gg,e=.returned (.tuple #[.pointer (some ⟨gg,0,none⟩),.int .i64 0])∧GrAt w' w.heap.size gg F sv bv)∧Below w.heap.size w w':=by
 obtain ⟨A,c,rfl,h1,h2⟩:=h.bl.form;obtain ⟨As,cs,rfl,-,-⟩:=RowOf.form h.sl;unfold maxLen at h2;have HI:=Zh h;have hb1:=ZN w (.cells (fnA F (.slice As F.sl.length cs) (.slice A F.bl.length c)) 82);have HC:=Zh (check_any F (.slice As F.sl.length cs) (.slice A F.bl.length c) _ (h.below hb1));have HBX:=Zh (Za (Blk.new w 82 (fnA F (.slice As F.sl.length cs) (.slice A F.bl.length c))) hb1);obtain ⟨b,hb⟩:∃b,fnB F=b:=⟨_,rfl⟩
 have HE:=Zh (show errV F=.int .i64 (if b then 0 else 180) by rw[errV,hb]);rw[HE.out] at HC;clear h hb1;unfold fnv at HC;unfold fnA at HC HBX;unfold fnv
 cases b with
 | false=>
  have HB:=Zh hb;clear hb;go_enter Tryz.func188,Tryz.ntmps188
  go_wp2_with fail
  refine HC.out.mono ?_;rintro e w1 ⟨rfl,hb1⟩;have HB1:=Zh (HBX.out.2.trans (ZA hb1 HBX.out.2.size));clear hb1;go_wp2_with fail
  refine bodyPost_ret (v:=.tuple #[.pointer none,.int .i64 180]) (by simp[results,Tryz.results188,go_sem]) rfl ⟨Or.inl ⟨HB.out,by rw[HE.out];rfl⟩,HB1.out⟩
 | true=>
  have HOK:=Zh (ZEQ hb);have HB:=Zh hb;have hn1:=HOK.out.b1;have hn2:=HOK.out.b2;clear hb;go_enter Tryz.func188,Tryz.ntmps188
  go_wp2_with fail
  refine HC.out.mono ?_;rintro e w1 ⟨rfl,hb1⟩;have hbx:=HBX.out.1.below hb1 HBX.out.1.lt;have f0:w1.cell? ⟨w.heap.size,0,none⟩=some (.string F.nm):=(hbx.cell 0).trans rfl;have f1:w1.cell? ⟨w.heap.size,1,none⟩=some (.int .i64 F.ps):=(hbx.cell 1).trans rfl;have f2:w1.cell? ⟨w.heap.size,2,none⟩=some (.int .i64 F.rs):=(hbx.cell 2).trans rfl;have f3:w1.cell? ⟨w.heap.size,3,none⟩=some (.slice As F.sl.length cs):=(hbx.cell 3).trans rfl;have f4:w1.cell? ⟨w.heap.size,4,none⟩=some (.slice A F.bl.length c):=(hbx.cell 4).trans rfl;have hb2:=HBX.out.2.trans (ZA hb1 HBX.out.2.size);have HST:=Zh (show DrW w F (.slice As F.sl.length cs) (.slice A F.bl.length c) w1.heap.size (.slice none 0 0) [] (w1.alloc (.cells (grA F (.slice As F.sl.length cs) (.slice A F.bl.length c) (.slice none 0 0) (.slice none 0 0)) 279)) from
   ⟨hbx.alloc _,Blk.new _ _ _,ZAz.nil _ _,hb2.trans (ZA (ZN w1 _) hb2.size),hbx.lt⟩)
  obtain ⟨gg,hgg⟩:∃gg,w1.heap.size=gg:=⟨_,rfl⟩
  rw[hgg] at HST;unfold grA at HST;have g4:(w1.alloc (.cells #[.string F.nm,.int .i64 F.ps,.int .i64 F.rs,.slice As F.sl.length cs,.slice A F.bl.length c,.slice none 0 0,.slice none 0 0] 279)).cell? ⟨w.heap.size,4,none⟩=some (.slice A F.bl.length c):=ZJ f4 _;clear hbx hb1 hb2 HBX;go_wp2_with fail
  go_loopw [24] (fun i wr=>∃k:Nat,k≤F.bl.length∧i=.int .i64 k∧Hid (∃tov,DrW w F (.slice As F.sl.length cs) (.slice A F.bl.length c) gg tov ((toL F).take k) wr)) (fun i _=>F.bl.length-(intOf i).toNat)
  case atStart=>exact ⟨0,Nat.zero_le _,rfl,_,HST.out⟩
  case round=>
   clear f0 f1 f2 f3 f4 HST hgg g4 HC;obtain ⟨k,hk,rfl,HW⟩:=hrel;obtain ⟨tov,hw⟩:=HW.out;obtain ⟨At,ct,rfl,t1,t2⟩:=hw.ow.form;have HD:=Zh hw;obtain ⟨L,hL⟩:∃L,((toL F).take k).length=L:=⟨_,rfl⟩
   rw[hL] at HD t1;clear HW hw
   by_cases hlt:k<F.bl.length
   ·obtain ⟨g,off,cap',ea,h3,h4,hg,hc⟩:=(ZAV.below HI.out.bl HD.out.be).open_ (Nat.lt_of_le_of_lt (Nat.zero_le _) hlt)
    cases ea
    obtain ⟨ov,hcc⟩:=hc k hlt;obtain ⟨c0,c1,c2,c3,c4,c5,car⟩:=hcc;obtain ⟨Ao,co,rfl,-,-⟩:=car.form;have hts:=toL_step hlt;obtain ⟨b,hbk⟩:∃b,F.bl[k]=b:=⟨_,rfl⟩
    rw[hbk] at c0 c1 c2 c3 c4 c5 hts;have HE:=Zh (fun w=>ZCC b.x w);have HTS:=Zh hts;have HLEN:=Zh (ZE0 b.x);have hb1:=ZN wr (.cells #[.slice Ao b.os.length co,.int .i64 b.x.k,.int .i64 b.x.a,.int .i64 b.x.d,.int .i64 b.x.t,.int .i64 b.x.e] 159);have HD1:=Zh (HD.out.next hb1);unfold exv at HE;clear car hc hbk hts hb1;go_wp2_with fail
    refine (HE.out _).mono ?_;rintro e w2 ⟨⟨v1,v2,rfl,-,⟨hv2,-⟩⟩,hb1⟩;obtain ⟨A2,cc2,rfl,k1,k2⟩:=hv2.form;unfold maxLen at k2;have HV2:=Zh hv2;have HD2:=Zh (HD1.out.next hb1);obtain ⟨ts,hte⟩:∃ts,exT b.x=ts:=⟨_,rfl⟩
    rw[hte] at HV2 HTS HLEN k1;rw[hte];clear hv2 hb1 c0 c1 c2 c3 c4 c5 HE HD HD1 hte;go_wp2_with fail
    go_loopw [36,10] (fun i ov wr=>∃j:Nat,j≤ts.length∧i=.int .i64 j∧Hid (OwnI wr w2.heap.size ov (ZAY (ts.take j))∧Below w2.heap.size w2 wr)) (fun i _ _=>ts.length-(intOf i).toNat)
    case atStart=>exact ⟨0,Nat.zero_le _,rfl,OwnI.nil _ _,Below.refl _ _⟩
    case round=>
     obtain ⟨j,hj,rfl,HW⟩:=hrel
     by_cases hjt:j<ts.length
     ·obtain ⟨g2,off2,cap2,ea,h5,h6,hg2,hc2⟩:=(HV2.out.below HW.out.2).open_ (Nat.lt_of_le_of_lt (Nat.zero_le _) hjt)
      cases ea
      have c0:=hc2 j hjt;have hos:=ZJg hjt;obtain ⟨t,ht⟩:∃t,ts[j]=t:=⟨_,rfl⟩
      rw[ht] at c0 hos;obtain ⟨b3,hb3⟩:∃b,(ZAY (ts.take j)).contains t=b:=⟨_,rfl⟩
      have HQ:=Zh (ZDY _ _ t _ HW.out.1.ints);have hsh:ZDm (ZAY (ts.take j)) t=if b3 then ZAY (ts.take j) else ZAY (ts.take j)++[t]:=by rw[ZDm,hb3]
      rw[hb3] at HQ;rw[hsh] at hos;have HOS:=Zh hos;have hln:(ZAY (ts.take j)).length<16777216:=by
       have:=ZDF (ts.take j);rw[List.length_take] at this;have:=HLEN.out;omega
      clear hc2 ht hb3 hsh hos;go_wp2_with fail
      refine HQ.out.mono ?_;rintro e w4 ⟨rfl,rfl⟩
      cases b3 with
      | true=>
       go_wp2_with fail
       go_roundw
       case rel=>exact ⟨j+1,by omega,by go_num,by rw[HOS.out];exact HW.out⟩
       case measure=>simp[intOf];omega
      | false=>
       obtain ⟨v',w5,hap,how,hkp⟩:=HW.out.1.push HW.out.2.size (by omega) t 22;have HAP:=Zh hap;have HN:=Zh (show OwnI w5 w2.heap.size v' (ZAY (ts.take j)++[t])∧Below w2.heap.size w2 w5 from ⟨how,HW.out.2.trans (HW.out.1.keepsB hkp HW.out.2.size)⟩);clear hap how hkp HW hln;go_wp2_with (at_builtin;refine ZK rfl (.tmp 44) (.tmp 46) 22 rfl rfl rfl HAP.out ?_)
       go_roundw
       case rel=>exact ⟨j+1,by omega,by go_num,by rw[HOS.out];exact HN.out⟩
       case measure=>simp[intOf];omega
     ·have hje:j=ts.length:=by omega
      subst hje;have HW4:=Zh HW.out;rw[List.take_length] at HW4;clear HW;obtain ⟨Au,cu,rfl,-,-⟩:=HW4.out.1.form;have hd:=HD2.out.next HW4.out.2;have g5:wr.cell? ⟨gg,5,none⟩=some (.slice At L ct):=(hd.gb.cell 5).trans rfl;obtain ⟨v',w5,hap,how,hkp⟩:=hd.ow.push (HW4.out.1.lower (by have:=HD2.out.gb.lt;omega)) (by have:=hd.gb.lt;omega) (by rw[List.length_take,ZAD];omega) 189;obtain ⟨Av,cv,rfl,-,-⟩:=how.form;obtain ⟨Lv,hLv⟩:∃Lv,((toL F).take k++[ZAY ts]).length=Lv:=⟨_,rfl⟩
      rw[hLv] at hap how;obtain ⟨hput,hblk⟩:=hd.put hkp how;have p1:w5.cell? ⟨gg,5,none⟩=some (.slice At L ct):=(hblk.cell 5).trans rfl;have p2:=hblk.frozen 5;have HAP:=Zh hap;have HPUT:=Zh hput
      rw[←HTS.out] at HPUT
      clear hap how hkp hput hblk hd hLv;go_wp2_with (at_builtin;refine ZK rfl (.tmp 53) (.tmp 55) 189 rfl rfl rfl HAP.out ?_)
      go_roundw
      case rel=>exact ⟨k+1,by omega,by go_num,_,HPUT.out⟩
      case measure=>simp[intOf];omega
   ·have hke:k=F.bl.length:=by omega
    subst hke;have hlen2:(toL F).take F.bl.length=toL F:=List.take_of_length_le (by rw[ZAD];exact Nat.le_refl _);rw[hlen2] at HD;have g5:wr.cell? ⟨gg,5,none⟩=some (.slice At L ct):=(HD.out.gb.cell 5).trans rfl;have HQ:=Zh (from_any gg (toL F) _ wr g5 HD.out.ow.to HOK.out.to (by rw[ZAD];omega) (by rw[ZAD];omega));rw[ZAD] at HQ;go_wp2_with fail
    refine HQ.out.mono ?_;rintro e w4 ⟨⟨gr,rfl,hbr,hge⟩,hb4⟩;have hgb:=HD.out.gb.below hb4 HD.out.gb.lt;have p1:w4.cell? ⟨gg,6,none⟩=some (.slice none 0 0):=(hgb.cell 6).trans rfl;have p2:=hgb.frozen 6;have hggr:gg<gr:=Nat.lt_of_lt_of_le HD.out.gb.lt hge;have HB4:=Zh (HD.out.be.trans (ZA hb4 HD.out.be.size));have hk2:ZE (fun k=>k=gg) w4 (w4.setCell ⟨gg,6,none⟩ (.slice (some ⟨gr,0,none⟩) F.bl.length F.bl.length)):=(ZE.refl (fun k=>k=gg) w4).setCell (p:=⟨gg,6,none⟩) (Or.inr rfl) _;have HFIN:=Zh (show GrAt (w4.setCell ⟨gg,6,none⟩ (.slice (some ⟨gr,0,none⟩) F.bl.length F.bl.length)) w.heap.size gg F (.slice As F.sl.length cs) (.slice A F.bl.length c)∧Below w.heap.size w (w4.setCell ⟨gg,6,none⟩ (.slice (some ⟨gr,0,none⟩) F.bl.length F.bl.length)) from
     ⟨⟨Nat.le_of_lt HD.out.gt,_,gr,hgb.set_ 6 _,(HD.out.ow.below hb4).keeps hk2 (fun g hg=>by omega),hbr.keeps hk2 (by show ¬gr=gg;omega),hggr⟩,Below.setC HB4.out (Nat.le_of_lt HD.out.gt) _⟩)
    clear hbr hge hb4 hgb hk2 hggr HD HQ;go_wp2_with fail
    refine bodyPost_ret (v:=.tuple #[.pointer (some ⟨gg,0,none⟩),.int .i64 0]) (by simp[results,Tryz.results188,go_sem]) rfl ⟨Or.inr ⟨HB.out,gg,rfl,HFIN.out.1⟩,HFIN.out.2⟩
theorem ZC8 (F:Fn) (sv bv:Value) (w:World) (h:ZG9 w F sv bv) :
  Calls Tryz.prog 159 #[fnv F sv bv] w fun e w'=>(fnB F=false∧e=.returned (.tuple #[.slice none 0 0,errV F])∨fnB F=true∧∃gr,e=.returned (.tuple #[.slice (some ⟨gr,0,none⟩) F.bl.length F.bl.length,.int .i64 0])∧ZAH w' gr (ZEg F)∧w.heap.size≤gr)∧Below w.heap.size w w':=by
 obtain ⟨A,c,rfl,h1,h2⟩:=h.bl.form;obtain ⟨As,cs,rfl,-,-⟩:=RowOf.form h.sl;have hb1:=ZN w (.cells #[.string F.nm,.int .i64 F.ps,.int .i64 F.rs,.slice As F.sl.length cs,.slice A F.bl.length c] 82);have HD:=Zh (ZDU F (.slice As F.sl.length cs) (.slice A F.bl.length c) _ (h.below hb1));have HE:=Zh (show fnB F=false→errV F=.int .i64 180 from fun hb=>by rw[errV,hb];rfl);have HB1:=Zh hb1;clear h hb1;unfold fnv at HD;unfold fnv;go_enter Tryz.func159,Tryz.ntmps159
 go_wp2_with fail
 refine HD.out.mono ?_;rintro e w1 ⟨⟨hb,rfl⟩|⟨hb,gg,rfl,hgr⟩,hb1⟩
 ·have hb2:=Zh (HB1.out.trans (ZA hb1 HB1.out.size))
  have HB:=Zh hb;rw[HE.out hb];clear hb hb1;go_wp2_with fail
  refine bodyPost_ret (v:=.tuple #[.slice none 0 0,.int .i64 180]) (by simp[results,Tryz.results159,go_sem]) rfl ⟨Or.inl ⟨HB.out,by rw[HE.out HB.out]⟩,hb2.out⟩
 ·obtain ⟨hge,tov,gr,hg,how,hbr,hggr⟩:=hgr
  have hb2:=Zh (HB1.out.trans (ZA hb1 HB1.out.size));have HB:=Zh hb;have c6:w1.cell? ⟨gg,6,none⟩=some (.slice (some ⟨gr,0,none⟩) F.bl.length F.bl.length):=(hg.cell 6).trans rfl;have HR:=Zh (Za hbr (show w.heap.size≤gr by have:=HB1.out.size;omega));clear hb hb1 hge hg how hbr hggr;go_wp2_with fail
  refine bodyPost_ret (v:=.tuple #[.slice (some ⟨gr,0,none⟩) F.bl.length F.bl.length,.int .i64 0]) (by simp[results,Tryz.results159,go_sem]) rfl ⟨Or.inr ⟨HB.out,gr,rfl,HR.out⟩,hb2.out⟩
theorem ZJ2 (o:Op) (av:Value) (w:World) (hf:∃A c,av=.slice A o.ar.length c) :
  Calls Tryz.prog 193 #[opv o av] w fun e w'=>e=.returned (.bool (ZBm o))∧Below w.heap.size w w':=by
 obtain ⟨A,c,rfl⟩:=hf;unfold opv
 cases k1:(o.k==28) with
 | true=>
  go_enter Tryz.func193,Tryz.ntmps193
  go_wp2_with fail
  go_ret;exact ⟨ZF (by rw[ZBm,k1];rfl),ZN _ _⟩
 | false=>
  cases k2:(o.k==29) with
  | false=>
   go_enter Tryz.func193,Tryz.ntmps193
   go_wp2_with fail
   go_ret;exact ⟨ZF (by rw[ZBm,k1,k2];rfl),ZN _ _⟩
  | true=>
   cases s1:(o.tx.toList == [108,111,110,103,106,109,112]) with
   | true=>
    go_enter Tryz.func193,Tryz.ntmps193
    go_wp2_with fail
    go_ret;exact ⟨ZF (by rw[ZBm,k1,k2,isS,s1];rfl),ZN _ _⟩
   | false=>
    cases s2:(o.tx.toList == [99,111,95,114,101,115,117,109,101]) with
    | true=>
     go_enter Tryz.func193,Tryz.ntmps193
     go_wp2_with fail
     go_ret;exact ⟨ZF (by rw[ZBm,k1,k2,isS,isS,s1,s2];rfl),ZN _ _⟩
    | false=>
     cases s3:(o.tx.toList == [99,111,95,121,105,101,108,100]) with
     | true=>
      go_enter Tryz.func193,Tryz.ntmps193
      go_wp2_with fail
      go_ret;exact ⟨ZF (by rw[ZBm,k1,k2,isS,isS,isS,s1,s2,s3];rfl),ZN _ _⟩
     | false=>
      go_enter Tryz.func193,Tryz.ntmps193
      go_wp2_with fail
      go_ret;exact ⟨ZF (by rw[ZBm,k1,k2,isS,isS,isS,s1,s2,s3];rfl),ZN _ _⟩
def ptr (g:Nat):Value:=.pointer (some ⟨g,0,none⟩)
structure ZG8 (W:World) (gl gg:Nat) (F:Fn) (sv bv tov:Value) (gr:Nat) (inv:Value) (gs:List Nat) (ins:List (List Nat)):Prop where
 lb:Blk W gl 277 #[.pointer (some ⟨gg,0,none⟩),inv]
 gb:Blk W gg 279 (grA F sv bv tov (.slice (some ⟨gr,0,none⟩) F.bl.length F.bl.length))
 to:ZF9 W tov (toL F)
 rc:ZAH W gr (ZEg F)
 fi:ZG9 W F sv bv
 ir:RowOf W inv F.bl.length (gs.map ptr)
 gn:gs.length=F.bl.length
 il:ins.length=F.bl.length
 st:∀i (h:i<gs.length) (h2:i<ins.length),SetAt W gs[i] ins[i] F.rs.toNat
 nd:gs.Nodup
 ok:ZEW F
theorem ZG8.below {W W':World} {gl gg:Nat} {F:Fn} {sv bv tov:Value} {gr:Nat} {inv:Value} {gs:List Nat} {ins:List (List Nat)} (h:ZG8 W gl gg F sv bv tov gr inv gs ins) (hb:Below W.heap.size W W'):ZG8 W' gl gg F sv bv tov gr inv gs ins:=
 ⟨h.lb.below hb h.lb.lt,h.gb.below hb h.gb.lt,h.to.below hb,h.rc.below hb,h.fi.below hb,h.ir.below hb,h.gn,h.il,fun i a b=>(h.st i a b).below hb,h.nd,h.ok⟩
theorem ZEW.rsN {F:Fn} (h:ZEW F):F.rs=((F.rs.toNat:Nat):Int)∧F.rs.toNat≤4096:=by
 have:=h.rs0;have:=h.r1;omega
theorem ZG8.get {W:World} {gl gg:Nat} {F:Fn} {sv bv tov:Value} {gr:Nat} {inv:Value} {gs:List Nat} {ins:List (List Nat)} (h:ZG8 W gl gg F sv bv tov gr inv gs ins) {t:Nat} (ht:t<F.bl.length) :
  ∃g,(∃gi off cap,inv=.slice (some ⟨gi,off,none⟩) F.bl.length cap∧F.bl.length≤cap∧cap≤maxLen∧W.cell? ⟨gi,off+t,none⟩=some (.pointer (some ⟨g,0,none⟩))∧gi<W.heap.size)∧SetAt W g (ins.getD t Ze) F.rs.toNat∧gs[t]? = some g:=by
 have h1:t<gs.length:=by rw[h.gn];exact ht
 have h2:t<ins.length:=by rw[h.il];exact ht
 obtain ⟨gi,off,cap,e,q1,q2,q3,q4⟩:=h.ir.open_ (by omega);refine ⟨gs[t],⟨gi,off,cap,e,q1,q2,q4 t _ ?_,q3⟩,?_,List.getElem?_eq_getElem h1⟩
 ·rw[List.getElem?_map,List.getElem?_eq_getElem h1];rfl
 ·have e2:ins.getD t Ze=ins[t]:=by simp[h2]
  rw[e2];exact h.st t h1 h2
theorem zs_list (v:Value):(Tryz.zeroCells268.setIfInBounds 64 v).toList=Ze.map (fun x:Nat=>Value.int .u64 (x:Int))++[v]:=by kernel_rfl
theorem ZEY (w:World) (most:Nat):SetAt (w.alloc (.cells (Tryz.zeroCells268.setIfInBounds 64 (.int .i64 (most:Int))) 268)) w.heap.size Ze most:=
 ⟨⟨_,Blk.new w _ _,zs_list _⟩,rfl,fun x hx=>by rw[List.eq_of_mem_replicate hx];decide⟩
theorem ZCX {α β:Type} (f:β→α→β) (l:List α) (s:β) {j:Nat} (hj:j<l.length):(l.take (j+1)).foldl f s=f ((l.take j).foldl f s) l[j]:=by
 rw[List.take_succ_eq_append_getElem hj,List.foldl_append];rfl
theorem ZAc {F:Fn} {b:Nat} (hb:b<F.bl.length):blk F b=F.bl[b]:=by simp[blk,hb]
theorem ZG8.bl_ {W:World} {gl gg:Nat} {F:Fn} {sv bv tov:Value} {gr:Nat} {inv:Value} {gs:List Nat} {ins:List (List Nat)} (h:ZG8 W gl gg F sv bv tov gr inv gs ins) {b:Nat} (hb:b<F.bl.length) :
  ∃g off cap Ao co,bv=.slice (some ⟨g,off,none⟩) F.bl.length cap∧F.bl.length≤cap∧cap≤maxLen∧g<W.heap.size∧ZCc W g (off+b*6) (blk F b) (.slice Ao (blk F b).os.length co):=by
 obtain ⟨g,off,cap,e,q1,q2,q3,q4⟩:=h.fi.bl.open_ (by omega);obtain ⟨ov,hc⟩:=q4 b hb;obtain ⟨Ao,co,e2,-,-⟩:=hc.os.form;rw[ZAc hb];exact ⟨g,off,cap,Ao,co,e,q1,q2,q3,e2▸hc⟩
theorem ZG8.to_ {W:World} {gl gg:Nat} {F:Fn} {sv bv tov:Value} {gr:Nat} {inv:Value} {gs:List Nat} {ins:List (List Nat)} (h:ZG8 W gl gg F sv bv tov gr inv gs ins) {b:Nat} (hb:b<F.bl.length) :
  ∃g off cap A2 c2,tov=.slice (some ⟨g,off,none⟩) F.bl.length cap∧F.bl.length≤cap∧cap≤maxLen∧W.cell? ⟨g,off+b,none⟩=some (.slice A2 (ZAY (exT (blk F b).x)).length c2)∧Ints W (.slice A2 (ZAY (exT (blk F b).x)).length c2) (ZAY (exT (blk F b).x))∧(ZAY (exT (blk F b).x)).length≤c2∧c2≤maxLen:=by
 obtain ⟨g,off,cap,e,q1,q2,q3,q4⟩:=h.to.open_ (by rw[ZAD];omega);obtain ⟨v,hc,hv⟩:=q4 b (by rw[ZAD];exact hb);have e3:(toL F)[b]'(by rw[ZAD];exact hb)=ZAY (exT (blk F b).x):=by rw[ZAc hb];simp[toL]
 rw[e3] at hv;rw[ZAD] at e q1;obtain ⟨A2,c2,e2,r1,r2⟩:=hv.form;subst e2;exact ⟨g,off,cap,A2,c2,e,q1,q2,hc,hv,r1,r2⟩
theorem ZKV (gl gg:Nat) (F:Fn) (sv bv tov:Value) (gr:Nat) (inv:Value) (gs:List Nat) (ins:List (List Nat)) (b:Nat) (hb:b<F.bl.length) (w:World) (h:ZG8 w gl gg F sv bv tov gr inv gs ins) :
  Calls Tryz.prog 169 #[.pointer (some ⟨gl,0,none⟩),.int .i64 b] w fun e w'=>(∃g,e=.returned (.pointer (some ⟨g,0,none⟩))∧w.heap.size≤g∧SetAt w' g (endP F ins b) F.rs.toNat)∧Below w.heap.size w w':=by
 have HL:=Zh h;obtain ⟨hrs,hrs2⟩:=h.ok.rsN;obtain ⟨g1,o1,c1,A1,d1,rfl,q1,q2,q3,q4,q5,q6⟩:=h.to_ hb;obtain ⟨g2,o2,c2,Ao,co,rfl,r1,r2,r3,r4⟩:=h.bl_ hb;have l0:w.cell? ⟨gl,0,none⟩=some (.pointer (some ⟨gg,0,none⟩)):=(h.lb.cell 0).trans rfl;have m2:w.cell? ⟨gg,2,none⟩=some (.int .i64 F.rs):=(h.gb.cell 2).trans rfl;have m5:w.cell? ⟨gg,5,none⟩=some (.slice (some ⟨g1,o1,none⟩) F.bl.length c1):=(h.gb.cell 5).trans rfl;obtain ⟨m,hm⟩:∃m,F.rs.toNat=m:=⟨_,rfl⟩
 rw[hrs,hm] at m2;have HM:=Zh hm;clear hrs;have HNEW:=Zh (ZEY w m);obtain ⟨ts,hts⟩:∃ts,ZAY (exT (blk F b).x)=ts:=⟨_,rfl⟩
 have HTS:=Zh (show ∀t∈ts,1≤t∧t<(F.bl.length:Int) from fun t ht=>by
  rw[←hts,ZAc hb] at ht
  exact h.ok.to1 hb t ht)
 have HTL:=Zh (show ts.length≤2 by rw[←hts];exact Nat.le_trans (ZDF _) (ZE0 _));have HEND:=Zh (show endP F ins b=if (blk F b).x.k=4 then ZAs (ts.foldl (ZDq F ins) Ze) (blk F b).x.d else ts.foldl (ZDq F ins) Ze by rw[endP,hts]);rw[hts] at q3 q4 q5;unfold maxLen at q2 q6 r2;have HQ4:=Zh q4;have hdl:=Zh (show ∀(hk:(blk F b).x.k=4),(blk F b).x.d<4096 from fun hk=>by
  have:=(ZE1 (h.ok.ex _ (List.getElem_mem hb)) (by rw[←ZAc hb];exact hk)).2.2.1
  rw[←ZAc hb] at this
  have:=h.ok.r1
  omega)
 have BB:=r4;obtain ⟨bb,hbb⟩:∃bb,blk F b=bb:=⟨_,rfl⟩
 rw[hbb] at HEND r4 hdl BB;obtain ⟨s0,s1,s2,s3,s4,s5,s6⟩:=r4;have e1:=ZJ q3 (.cells (Tryz.zeroCells268.setIfInBounds 64 (.int .i64 (m:Int))) 268);have e2:=ZJ l0 (.cells (Tryz.zeroCells268.setIfInBounds 64 (.int .i64 (m:Int))) 268);have e3:=ZJ m5 (.cells (Tryz.zeroCells268.setIfInBounds 64 (.int .i64 (m:Int))) 268);rw[hm] at hrs2;clear h q4 hts hbb s6 hm;go_enter Tryz.func169,Tryz.ntmps169
 go_wp2_with fail
 go_loopw [30] (fun i wr=>∃j:Nat,j≤ts.length∧i=.int .i64 j∧Hid (SetAt wr w.heap.size ((ts.take j).foldl (ZDq F ins) Ze) m∧Below w.heap.size w wr)) (fun i _=>ts.length-(intOf i).toNat)
 case atStart=>exact ⟨0,Nat.zero_le _,rfl,HNEW.out,ZN _ _⟩
 case round=>
  clear HNEW e1 e2 e3;obtain ⟨j,hj,rfl,HW⟩:=hrel;have l0':wr.cell? ⟨gl,0,none⟩=some (.pointer (some ⟨gg,0,none⟩)):=(HW.out.2.cell (p:=⟨gl,0,none⟩) (cell_lt l0)).trans l0
  by_cases hjt:j<ts.length
  ·obtain ⟨gt,ot,ct,ea,t1,t2,tg,tc⟩:=(HQ4.out.below HW.out.2).open_ (Nat.lt_of_le_of_lt (Nat.zero_le _) hjt)
   cases ea
   have c0:=tc j hjt;have htt:=HTS.out ts[j] (List.getElem_mem hjt);have hst:=ZCX (ZDq F ins) ts Ze hjt;obtain ⟨t,ht⟩:∃t:Nat,ts[j]=(t:Int):=⟨ts[j].toNat,by omega⟩
   rw[ht] at c0 htt hst;have htn:t<F.bl.length:=by omega
   obtain ⟨g,⟨gi,oi,ci,rfl,u1,u2,u3,u4⟩,hs,-⟩:=HL.out.get htn;unfold maxLen at u2;have u5:wr.cell? ⟨gi,oi+t,none⟩=some (.pointer (some ⟨g,0,none⟩)):=(HW.out.2.cell (p:=⟨gi,oi+t,none⟩) u4).trans u3;have u6:w.cell? ⟨gl,1,none⟩=some (.slice (some ⟨gi,oi,none⟩) F.bl.length ci):=(HL.out.lb.cell 1).trans rfl;have u7:wr.cell? ⟨gl,1,none⟩=some (.slice (some ⟨gi,oi,none⟩) F.bl.length ci):=(HW.out.2.cell (p:=⟨gl,1,none⟩) (cell_lt u6)).trans u6;rw[HM.out] at hs;have hg:=hs.lt;have HJ:=Zh (ZCx w.heap.size g _ _ m m wr HW.out.1 (hs.below HW.out.2) (by omega) hrs2);have HST:=Zh (show (ts.take (j+1)).foldl (ZDq F ins) Ze=ZAE ((ts.take j).foldl (ZDq F ins) Ze) (ins.getD t Ze) ((m+63) / 64) by
    rw[hst,ZDq,nW,HM.out,show ((t:Int)).toNat=t by omega])
   clear tc htt hst ht hs u6;go_wp2_with fail
   refine HJ.out.mono ?_;rintro e w4 ⟨rfl,hs4,hk4⟩;have HN:=Zh (show SetAt w4 w.heap.size ((ts.take (j+1)).foldl (ZDq F ins) Ze) m∧Below w.heap.size w w4 from ⟨by rw[HST.out];exact hs4,HW.out.2.trans (hk4.toBelow HW.out.2.size (fun k hk=>by omega))⟩);clear hs4 hk4 HW HJ;go_wp2_with fail
   go_roundw
   case rel=>exact ⟨j+1,by omega,by go_num,HN.out⟩
   case measure=>simp[intOf];omega
  ·have hje:j=ts.length:=by omega
   subst hje;have HS:=Zh HW.out.1;rw[List.take_length] at HS;have HB:=Zh HW.out.2;have m4:w.cell? ⟨gg,4,none⟩=some (.slice (some ⟨g2,o2,none⟩) F.bl.length c2):=(HL.out.gb.cell 4).trans rfl;have m4':wr.cell? ⟨gg,4,none⟩=some (.slice (some ⟨g2,o2,none⟩) F.bl.length c2):=(HB.out.cell (p:=⟨gg,4,none⟩) (cell_lt m4)).trans m4;have x1:=(HB.out.cell (p:=⟨g2,o2+b*6+1,none⟩) r3).trans s1;have x2:=(HB.out.cell (p:=⟨g2,o2+b*6+2,none⟩) r3).trans s2;have x3:=(HB.out.cell (p:=⟨g2,o2+b*6+3,none⟩) r3).trans s3;have x4:=(HB.out.cell (p:=⟨g2,o2+b*6+4,none⟩) r3).trans s4;have x5:=(HB.out.cell (p:=⟨g2,o2+b*6+5,none⟩) r3).trans s5;clear HW s0 s1 s2 s3 s4 s5 m4 BB;have hb3:=ZN wr (.cells #[.int .i64 bb.x.k,.int .i64 bb.x.a,.int .i64 bb.x.d,.int .i64 bb.x.t,.int .i64 bb.x.e] 156);have HB3:=Zh (HB.out.trans (ZA hb3 HB.out.size));have HS3:=Zh (HS.out.below hb3);clear hb3
   cases hk4:(bb.x.k==4) with
   | false=>
    have HE:=Zh (HEND.out.trans (if_neg (ne_of_beq_false hk4)));go_wp2_with fail
    go_ret;exact ⟨⟨_,rfl,Nat.le_refl _,by rw[HE.out,HM.out];exact HS3.out⟩,HB3.out⟩
   | true=>
    have HE:=Zh (HEND.out.trans (if_pos (eq_of_beq hk4)));have HDR:=Zh (ZE2 w.heap.size _ m bb.x.d _ HS3.out (hdl.out (eq_of_beq hk4)));go_wp2_with fail
    refine HDR.out.mono ?_;rintro e w4 ⟨rfl,hs4,hk5⟩;have HN:=Zh (show SetAt w4 w.heap.size (endP F ins b) F.rs.toNat∧Below w.heap.size w w4 from ⟨by rw[HE.out,HM.out];exact hs4,HB3.out.trans (hk5.toBelow HB3.out.size (fun k hk=>by omega))⟩);clear hs4 hk5 HDR;go_wp2_with fail
    go_ret;exact ⟨⟨_,rfl,Nat.le_refl _,HN.out.1⟩,HN.out.2⟩
end Go.Proofs.YtggmkofbikafhaaGreatDoor
