/- Walks and plain laws on the way to FramePrologue (H2). Conditions: those that each theorem states. -/
import Derived.Test.YtggmkofbikafhaaGreatDoorH1
import Derived.Test.YtggmkofbikafhaaGreatDoorXC
set_option linter.unusedVariables false
set_option linter.unusedSimpArgs false
set_option maxRecDepth 100000
set_option maxHeartbeats 40000000
namespace Go.Proofs.YtggmkofbikafhaaGreatDoor
open Go.RowKit
theorem FdS.below {w wb W W':World} {F:Fn} {sv bv:Value} {gl gg m:Nat} {inv:Value} {gs:List Nat} {k:Nat} (h:FdS w wb F sv bv gl gg m inv gs k W) (hb:Below W.heap.size W W'):FdS w wb F sv bv gl gg m inv gs k W':=
 ⟨h.s.below hb,h.bx.below hb h.bx.lt,fun g hg=>Nat.lt_of_lt_of_le (h.lt g hg) hb.size,h.bw,h.be.trans (ZA hb h.be.size)⟩
theorem ZFv (F:Fn) (sv bv:Value) (w:World) (h:ZG9 w F sv bv) :
  Calls Tryz.prog 151 #[fnv F sv bv] w fun e w'=>(fnB F=false∧e=.returned (.tuple #[.pointer none,errV F])∨fnB F=true∧∃wb gl gg tov gr inv gs,e=.returned (.tuple #[.pointer (some ⟨gl,0,none⟩),.int .i64 0])∧LvB wb gg F sv bv tov gr∧LvS wb gl gg F.bl.length F.rs.toNat inv gs (ZAx F) w')∧Below w.heap.size w w':=by
 obtain ⟨A,c,rfl,h1,h2⟩:=h.bl.form;obtain ⟨As,cs,rfl,-,-⟩:=RowOf.form h.sl;unfold maxLen at h2;have hb1:=ZN w (.cells #[.string F.nm,.int .i64 F.ps,.int .i64 F.rs,.slice As F.sl.length cs,.slice A F.bl.length c] 82);have HD:=Zh (ZDU F (.slice As F.sl.length cs) (.slice A F.bl.length c) _ (h.below hb1));have HE:=Zh (show fnB F=false→errV F=.int .i64 180 from fun hb=>by rw[errV,hb];rfl);have HBX:=Zh (Za (Blk.new w 82 (fnA F (.slice As F.sl.length cs) (.slice A F.bl.length c))) hb1);have HI:=Zh h;clear h hb1;unfold fnv at HD;unfold fnA at HBX;unfold fnv;go_enter Tryz.func151,Tryz.ntmps151
 go_wp2_with fail
 refine HD.out.mono ?_;rintro e w1 ⟨⟨hb,rfl⟩|⟨hb,gg,rfl,hgr⟩,hb1⟩
 ·have hb2:=Zh (HBX.out.2.trans (ZA hb1 HBX.out.2.size))
  have HB:=Zh hb;rw[HE.out hb];clear hb hb1;go_wp2_with fail
  refine bodyPost_ret (v:=.tuple #[.pointer none,.int .i64 180]) (by simp[results,Tryz.results151,go_sem]) rfl ⟨Or.inl ⟨HB.out,by rw[HE.out HB.out]⟩,hb2.out⟩
 ·obtain ⟨hge,tov,gr,hg,how,hbr,hggr⟩:=hgr
  have hb2:=HBX.out.2.trans (ZA hb1 HBX.out.2.size);have hbx:=HBX.out.1.below hb1 HBX.out.1.lt;have HB:=Zh hb;have HBXW:=Zh (Za hbx hb2);have HLB:=Zh (show LvB w1 gg F (.slice As F.sl.length cs) (.slice A F.bl.length c) tov gr from ⟨hg,how.to,hbr,HI.out.below hb2,ZEQ hb⟩);have hn1:=HLB.out.ok.b1;have hn2:=HLB.out.ok.b2;obtain ⟨hrs,hrs2⟩:=HLB.out.ok.rsN;obtain ⟨m,hm⟩:∃m,F.rs.toNat=m:=⟨_,rfl⟩
  rw[hm] at hrs hrs2;have HM:=Zh (Za hm hrs);obtain ⟨gl,hgl⟩:∃gl,w1.heap.size=gl:=⟨_,rfl⟩
  have hal:=ZN w1 (.cells #[.pointer (some ⟨gg,0,none⟩),.slice none 0 0] 277);have HST:=Zh (show FdS w w1 F (.slice As F.sl.length cs) (.slice A F.bl.length c) gl gg m (.slice none 0 0) [] 0 (w1.alloc (.cells #[.pointer (some ⟨gg,0,none⟩),.slice none 0 0] 277)) from
   ⟨⟨by rw[←hgl];exact Blk.new _ _ _,by omega,⟨by simp,Or.inl ⟨rfl,rfl⟩⟩,rfl,rfl,fun i hi=>by simp at hi,List.nodup_nil,fun g hg=>by simp at hg,hal⟩,hbx.below hal hbx.lt,fun g hg=>by simp at hg,hbx.lt,hb2.trans (ZA hal hb2.size)⟩)
  have f4:(w1.alloc (.cells #[.pointer (some ⟨gg,0,none⟩),.slice none 0 0] 277)).cell? ⟨w.heap.size,4,none⟩=some (.slice A F.bl.length c):=((hbx.alloc _).cell 4).trans rfl;clear hb hb1 hge hg how hbr hggr hb2 hbx hal hrs hm;go_wp2_with fail
  go_loopw [24] (fun i wr=>∃k:Nat,k≤F.bl.length∧i=.int .i64 k∧Hid (∃inv gs,FdS w w1 F (.slice As F.sl.length cs) (.slice A F.bl.length c) gl gg m inv gs k wr)) (fun i _=>F.bl.length-(intOf i).toNat)
  case atStart=>exact ⟨0,Nat.zero_le _,rfl,_,_,HST.out⟩
  case round=>
   clear HST f4 hgl;obtain ⟨k,hk,rfl,HW⟩:=hrel;obtain ⟨inv,gs,hw⟩:=HW.out
   by_cases hlt:k<F.bl.length
   ·obtain ⟨Ai,ci,rfl,i1,i2⟩:=RowOf.form (RowOf.own hw.s.ow)
    obtain ⟨v',w5,hap,hlb,⟨Av,cv,rfl,q1,q2⟩,hF⟩:=(hw.below (ZA7 (Below.refl _ _))).grow (by omega) 275;have hap':(Builtin.append_ #[275,275] 275 #[.slice Ai k ci,.slice (some ⟨wr.heap.size+1,0,none⟩) 1 1]).run Tryz.prog (((wr.alloc (.cells (Tryz.zeroCells268.setIfInBounds 64 (.int .i64 (m:Int))) 268)).alloc (.cells #[.pointer (some ⟨wr.heap.size,0,none⟩)] 264)).drew)=.ok (.slice Av (k+1) cv) w5:=hap;have c1:wr.cell? ⟨gl,1,none⟩=some (.slice Ai k ci):=(hw.s.lb.cell 1).trans rfl;have c2:wr.cell? ⟨w.heap.size,2,none⟩=some (.int .i64 (m:Int)):=(hw.bx.cell 2).trans (by rw[←HM.out.2];rfl);have p1:w5.cell? ⟨gl,1,none⟩=some (.slice Ai k ci):=(hlb.cell 1).trans rfl;have p2:=hlb.frozen 1;have p3:w5.cell? ⟨w.heap.size,2,none⟩=some (.int .i64 (m:Int)):=(World.cell?_of_block (a:=⟨w.heap.size,2,none⟩) (Below.heap_setCell w5 ⟨gl,1,none⟩ _ w.heap.size (by show w.heap.size≠gl;have:=hF.bw;have:=hF.s.glb;omega))).symm.trans ((hF.bx.cell 2).trans (by rw[←HM.out.2];rfl));have HF:=Zh hF;clear hw HW hF hlb;go_wp2_with fail
    refine Zk (S:=fun W'=>W'.cell? ⟨gl,1,none⟩=some (.slice Ai k ci)∧W'.cell? ⟨w.heap.size,2,none⟩=some (.int .i64 (m:Int))) 13 (by kernel_rfl) ⟨c1,c2⟩ (fun hS0=>?_);clear c1 c2;refine TE 0 0 rfl ?_;simp only[AP];refine TE 1 1 rfl ?_;simp only[AP];refine TE 2 2 rfl ?_;simp only[AP];refine TE 3 3 rfl ?_;simp only[AP];refine TE 4 4 rfl ?_;simp only[AP];refine TE 5 5 rfl ?_;simp only[AP];refine TE 6 6 rfl ?_;simp only[AP];refine TE 7 7 rfl ?_;simp only[AP];refine ZH (rs:=[8]) (by kernel_rfl) (by simp) ?_;refine ZG.cons rfl (fun K hK=>?_) ZG.nil;go_simp;refine hK.out _ _ (fun _=>?_) (fun hSq=>?_)
    ·exact ⟨ZJ hS0.1 _,ZJ hS0.2 _⟩
    have hS1:=hSq (by decide);clear hSq hK K;try simp only[AP]
    refine ZH (rs:=[9]) (by kernel_rfl) (by simp) ?_;refine ZG.cons rfl (fun K hK=>?_) ZG.nil;go_simp;refine hK.out _ _ (fun _=>?_) (fun hSq=>?_)
    ·exact ⟨ZJ hS1.1 _,ZJ hS1.2 _⟩
    have hS2:=hSq (by decide);clear hSq hK K;try simp only[AP]
    refine ZH (rs:=[10]) (by kernel_rfl) (by simp) ?_;refine ZG.cons rfl (fun K hK=>?_) ZG.nil
    first|refine ZL (by rfl) (.tmp 30) (.tmp 35) 275 (by rfl) (by rfl) (by rfl) hap' ?_|refine ZL (by rfl) (.tmp 30) (.tmp 35) 275 (by rfl) (by rfl) (by rfl) hap ?_
    refine hK.out _ _ (fun _=>⟨p1,p3⟩) (fun hSq=>?_);have hS5:=hSq (by decide);clear hSq hK K hS0 hS1 hS2;try simp only[AP]
    refine ZH (rs:=[11]) (by kernel_rfl) (by simp) ?_;refine ZG.cons rfl (fun K hK=>?_) ZG.nil;go_simp;refine hK.out _ _ (fun _=>hS5) (fun _=>?_);clear hK K;try simp only[AP]
    refine ZH (rs:=[12]) (by kernel_rfl) (by simp) ?_;refine ZG.cons rfl (fun K hK=>?_) ZG.nil;go_simp;refine hK.out _ _ (fun _=>hS5) (fun _=>?_);clear hK K;try simp only[AP]
    refine ZH (rs:=[13]) (by kernel_rfl) (by simp) ?_;refine ZG.cons rfl (fun K hK=>?_) ZG.nil;go_simp;refine hK.out _ _ (fun h=>absurd rfl h) (fun _=>?_);clear hK K;try simp only[AP]
    refine ZAL (by kernel_rfl) ?_ _;clear p1 p2 p3 hS5;go_wp2_with fail
    go_roundw
    case rel=>exact ⟨k+1,by omega,by go_num,_,_,HF.out⟩
    case measure=>simp[intOf];omega
   ·have hke:k=F.bl.length:=by omega
    subst hke;obtain ⟨gi,ci,rfl⟩:=ZAJ hw.s.ow (by omega);have hcm:=(Zc hw.s.ow).2.2.2.1;have hcn:=(Zc hw.s.ow).2.2.1;unfold maxLen at hcm;have HS:=Zh hw.s;clear hw HW hk hlt;go_wp2_with fail
    go_loopg [7] (totAll (ZIM F.bl.length)+1) (fun f gv wr=>∃(ins:List (List Nat)) (b:Bool),gv=.bool b∧Hid (LvS w1 gl gg F.bl.length m (.slice (some ⟨gi,0,none⟩) F.bl.length ci) gs ins wr)∧Hid (if b=true then totAll ins<f∧ZGp F f ins=ZAx F else ins=ZAx F))
    case atStart=>exact ⟨ZIM F.bl.length,true,rfl,HS.out,by rw[if_pos rfl];exact ⟨Nat.lt_succ_self _,rfl⟩⟩
    case round=>
     clear HS;obtain ⟨ins,b,rfl,HL,HV⟩:=hrel
     cases b with
     | false=>
      have hv:=HV.out;rw[if_neg (by decide)] at hv;subst hv;clear HV;go_wp2_with fail
      refine bodyPost_ret (v:=.tuple #[.pointer (some ⟨gl,0,none⟩),.int .i64 0]) (by simp[results,Tryz.results151,go_sem]) rfl ⟨Or.inr ⟨HB.out,w1,gl,gg,tov,gr,_,gs,rfl,HLB.out,by rw[HM.out.1];exact HL.out⟩,HBXW.out.2.trans (ZA HL.out.be HBXW.out.2.size)⟩
     | true=>
      have hv:=HV.out;rw[if_pos rfl] at hv;obtain ⟨f,rfl⟩:∃f,gk=f+1:=⟨gk-1,by omega⟩
      have HV2:=Zh hv;clear hv HV;have HSC:=Zh (ZD6 gl gg F _ _ tov gr _ gs ins wr ((show LvS w1 gl gg F.bl.length F.rs.toNat _ gs ins wr from by rw[HM.out.1];exact HL.out).at_ HLB.out));go_wp2_with fail
      refine HSC.out.mono ?_;rintro e w3 ⟨⟨gc,rfl,hgc,hsc⟩,hb3⟩;rw[HM.out.1] at hsc;obtain ⟨sec,hsec⟩:∃sec,secP F ins F.bl.length=sec:=⟨_,rfl⟩
      rw[hsec] at hsc;have HNE:=Zh (show ∀j g,gs[j]? = some g→¬gc=g from fun j g hg e=>by
       subst e;have hjl:j<gs.length:=by
        rcases Nat.lt_or_ge j gs.length with h1|h1
        ·exact h1
        ·rw[List.getElem?_eq_none h1] at hg;cases hg
       rw[List.getElem?_eq_getElem hjl] at hg;have:=(HL.out.st j hjl (by rw[HL.out.il,←HL.out.gn];exact hjl)).lt;rw[Option.some.inj hg] at this
       omega)
      have HL3:=Zh (Za (HL.out.below hb3) hsc);have hrd:passP F sec F.bl.length (ins,false)=round F ins:=by rw[←hsec];rfl
      have HRD:=Zh hrd;have f4:w3.cell? ⟨w.heap.size,4,none⟩=some (.slice A F.bl.length c):=((HBXW.out.1.below HL3.out.1.be HBXW.out.1.lt).cell 4).trans rfl;have hw1:wrap64 ((F.bl.length:Int)-1)=(F.bl.length:Int)-1:=by
       unfold wrap64;omega
      clear hgc hsc hb3 hsec hrd HSC HL;go_wp2_with fail
      try rw[hw1]
      clear hw1 f4
      go_loopw [7,9] (fun gv i wr=>∃(j:Nat) (b2:Bool) (ins2:List (List Nat)),j≤F.bl.length∧i=.int .i64 ((j:Int)-1)∧gv=.bool b2∧Hid (LvS w1 gl gg F.bl.length m (.slice (some ⟨gi,0,none⟩) F.bl.length ci) gs ins2 wr∧SetAt wr gc sec m)∧Hid (passP F sec j (ins2,b2)=round F ins∧totAll ins2+(if b2=true then 1 else 0)≤totAll ins)) (fun _ i _=>(intOf i+1).toNat)
      case atStart=>exact ⟨F.bl.length,false,ins,Nat.le_refl _,rfl,rfl,HL3.out,HRD.out,by simp⟩
      case round=>
       clear HL3 HRD;obtain ⟨j,b2,ins2,hj,rfl,rfl,HW,HP⟩:=hrel
       cases j with
       | zero=>
        have HZ:=Zh (show (if b2=true then totAll ins2<f∧ZGp F f ins2=ZAx F else ins2=ZAx F) from by
         have e:round F ins=(ins2,b2):=HP.out.1.symm;have hl:=HV2.out.2;have ht:=HP.out.2;have hf:=HV2.out.1;rw[ZGp,e] at hl
         cases b2 with
         | true=>
          rw[if_pos rfl] at ht;exact ⟨by omega,hl⟩
         | false=>exact hl)
        go_wp2_with fail
        go_roundg f
        case rel=>exact ⟨ins2,b2,rfl,HW.out.1,HZ.out⟩
        case measure=>omega
       | succ j=>
        have hej:(((j+1:Nat):Int)-1)=(j:Int):=by omega
        rw[hej];have hjl:j<F.bl.length:=by omega
        have hjg:j<gs.length:=by rw[HW.out.1.gn];exact hjl
        have hji:j<ins2.length:=by rw[HW.out.1.il];exact hjl
        obtain ⟨g,hg⟩:∃g,gs[j]=g:=⟨_,rfl⟩
        have hgq:gs[j]? = some g:=by rw[List.getElem?_eq_getElem hjg,hg]
        have HGS:=Zh hgq;have hst:=HW.out.1.st j hjg hji;rw[hg] at hst;have eI:ins2[j]=ins2.getD j Ze:=by simp[hji]
        rw[eI] at hst;have HAT:=Zh ((show LvS w1 gl gg F.bl.length F.rs.toNat _ gs ins2 wr from by rw[HM.out.1];exact HW.out.1).at_ HLB.out);have y0:wr.cell? ⟨gl,0,none⟩=some (.pointer (some ⟨gg,0,none⟩)):=(HW.out.1.lb.cell 0).trans rfl;have y1:wr.cell? ⟨gl,1,none⟩=some (.slice (some ⟨gi,0,none⟩) F.bl.length ci):=(HW.out.1.lb.cell 1).trans rfl;have y6:wr.cell? ⟨gg,6,none⟩=some (.slice (some ⟨gr,0,none⟩) F.bl.length F.bl.length):=(HAT.out.gb.cell 6).trans rfl;obtain ⟨rb,hrb,yr⟩:=HAT.out.rc.val j (by rw[HLB.out.ok.rch.1];exact hjl);have yg:wr.cell? ⟨gi,j,none⟩=some (.pointer (some ⟨g,0,none⟩)):=(Zc HW.out.1.ow).2.2.2.2.1 j _ (by rw[List.getElem?_map,hgq];rfl);have hge':(0:Int)≤(j:Int):=by omega
        have hw2:wrap64 ((j:Int)-1)=(j:Int)-1:=by
         unfold wrap64;omega
        have hltI:(j:Int)<(F.bl.length:Int):=by omega
        cases rb with
        | false=>
         have HPP:=Zh (show passP F sec j (ins2,b2)=round F ins from by
          rw[←HP.out.1,passP,passS,hrb];rfl)
         have HP2:=Zh HP.out.2;have HWN:=Zh (fun m=>Za (HW.out.1.below (ZM (Below.refl _ _) m)) (HW.out.2.below (ZM (Below.refl _ _) m)));clear hrb hgq hst hg eI HP hjg hji HW HAT HGS;go_wp2_with fail
         have HCL:Hid (∀W,Below wr.heap.size wr W→W.cell? ⟨gl,0,none⟩=some (.pointer (some ⟨gg,0,none⟩))∧W.cell? ⟨gl,1,none⟩=some (.slice (some ⟨gi,0,none⟩) F.bl.length ci)∧W.cell? ⟨gg,6,none⟩=some (.slice (some ⟨gr,0,none⟩) F.bl.length F.bl.length)∧W.cell? ⟨gr,j,none⟩=some (.bool false)∧W.cell? ⟨gi,j,none⟩=some (.pointer (some ⟨g,0,none⟩))):=Zh (fun W hW=>⟨(hW.cell (p:=⟨gl,0,none⟩) (cell_lt y0)).trans y0,(hW.cell (p:=⟨gl,1,none⟩) (cell_lt y1)).trans y1,(hW.cell (p:=⟨gg,6,none⟩) (cell_lt y6)).trans y6,(hW.cell (p:=⟨gr,j,none⟩) (cell_lt yr)).trans yr,(hW.cell (p:=⟨gi,j,none⟩) (cell_lt yg)).trans yg⟩);clear y0 y1 y6 yr yg;refine wp_region_held_drew (S:=(fun W=>W.cell? ⟨gl,0,none⟩=some (.pointer (some ⟨gg,0,none⟩))∧W.cell? ⟨gl,1,none⟩=some (.slice (some ⟨gi,0,none⟩) F.bl.length ci)∧W.cell? ⟨gg,6,none⟩=some (.slice (some ⟨gr,0,none⟩) F.bl.length F.bl.length)∧W.cell? ⟨gr,j,none⟩=some (.bool false)∧W.cell? ⟨gi,j,none⟩=some (.pointer (some ⟨g,0,none⟩)))) (by kernel_rfl) ?_ (fun hHeld=>?_)
         ·exact HCL.out _ (ZA7 (Below.refl _ _))
         refine FU 24 rfl ?_;iterate 24 ((first|refine TN 24 rfl ?_|refine TM 24 rfl ?_);try simp only[AP,Nat.reduceAdd,Nat.reduceSub])
         refine wpAnyH_done (by kernel_rfl) ?_ _
         all_goals
          go_wp2_with fail
          try rw[hw2]
          go_roundw
          case rel=>exact ⟨j,b2,ins2,by omega,rfl,rfl,HWN.out _,HPP.out,HP2.out⟩
          case measure=>simp[intOf]
        | true=>
         obtain ⟨P,hP⟩:∃P,pointP F ins2 sec j=P:=⟨_,rfl⟩
         obtain ⟨Wj,hWj⟩:∃Wj,ins2.getD j Ze=Wj:=⟨_,rfl⟩
         have hnW:nW F=(m+63) / 64:=by unfold nW;rw[HM.out.1]
         have HPP:=Zh (show passP F sec j (ins2.set j (ZAE Wj P ((m+63) / 64)),b2 || grewN Wj P ((m+63) / 64))=round F ins from by
          rw[←HP.out.1,passP,passS,hrb,←hP,←hWj,←hnW];rfl)
         have HTO:=Zh (show totAll (ins2.set j (ZAE Wj P ((m+63) / 64)))+(if grewN Wj P ((m+63) / 64)=true then 1 else 0)≤totAll ins2 from by
          rw[←hWj,←hP,←hnW]
          exact ZGP ins2 j hji _ _ (by rw[hnW];omega) hst.ln hst.hi)
         rw[hWj] at hst;have HST:=Zh hst;have HNG:=Zh (show ¬gl=g∧¬gg=g∧¬gr=g∧¬gi=g from by
          obtain ⟨cb,hbb,-⟩:=HAT.out.rc.b;obtain ⟨cu,hcu⟩:=ZI HW.out.1.ow (g:=gi) rfl;exact ⟨fun e=>absurd (hst.kind (e▸HW.out.1.lb)) (by decide),fun e=>absurd (hst.kind (e▸HAT.out.gb)) (by decide),fun e=>absurd (hst.kind (e▸hbb)) (by decide),fun e=>absurd (hst.kind (e▸hcu)) (by decide)⟩)
         have HPO:=Zh (show ∀W,Below wr.heap.size wr W→Calls Tryz.prog 190 #[.pointer (some ⟨gl,0,none⟩),.int .i64 j,.int .i64 0,.pointer (some ⟨gc,0,none⟩)] W fun e w'=>(∃g,e=.returned (.pointer (some ⟨g,0,none⟩))∧W.heap.size≤g∧SetAt w' g P m)∧Below W.heap.size W w' from fun W hW=>by
          have:=ZFd gl gg F _ _ tov gr _ gs ins2 sec gc j hjl W (HAT.out.below hW) (by rw[HM.out.1];exact HW.out.2.below hW);rw[hP,HM.out.1] at this;exact this)
         have HJO:=Zh (fun (W:World) (g':Nat) (h1:SetAt W g Wj m) (h2:SetAt W g' P m) (hne:g'≠g)=>ZCx g g' Wj P m m W h1 h2 hne (by omega));have HP2:=Zh HP.out.2;obtain ⟨gw,hgw⟩:∃gw,grewN Wj P ((m+63) / 64)=gw:=⟨_,rfl⟩
         rw[hgw] at HPP HTO HJO;obtain ⟨Nj,hNj⟩:∃Nj,ZAE Wj P ((m+63) / 64)=Nj:=⟨_,rfl⟩
         rw[hNj] at HPP HTO HJO;clear hrb hgq hst hg eI HP hjg hji hgw hNj hP hWj hnW HAT;go_wp2_with fail
         have HCL:Hid (∀W,Below wr.heap.size wr W→W.cell? ⟨gl,0,none⟩=some (.pointer (some ⟨gg,0,none⟩))∧W.cell? ⟨gl,1,none⟩=some (.slice (some ⟨gi,0,none⟩) F.bl.length ci)∧W.cell? ⟨gg,6,none⟩=some (.slice (some ⟨gr,0,none⟩) F.bl.length F.bl.length)∧W.cell? ⟨gr,j,none⟩=some (.bool true)∧W.cell? ⟨gi,j,none⟩=some (.pointer (some ⟨g,0,none⟩))):=Zh (fun W hW=>⟨(hW.cell (p:=⟨gl,0,none⟩) (cell_lt y0)).trans y0,(hW.cell (p:=⟨gl,1,none⟩) (cell_lt y1)).trans y1,(hW.cell (p:=⟨gg,6,none⟩) (cell_lt y6)).trans y6,(hW.cell (p:=⟨gr,j,none⟩) (cell_lt yr)).trans yr,(hW.cell (p:=⟨gi,j,none⟩) (cell_lt yg)).trans yg⟩);have HCJ:Hid (∀W W',ZE (fun q=>q=g) W W'→(W.cell? ⟨gl,0,none⟩=some (.pointer (some ⟨gg,0,none⟩))∧W.cell? ⟨gl,1,none⟩=some (.slice (some ⟨gi,0,none⟩) F.bl.length ci)∧W.cell? ⟨gg,6,none⟩=some (.slice (some ⟨gr,0,none⟩) F.bl.length F.bl.length)∧W.cell? ⟨gr,j,none⟩=some (.bool true)∧W.cell? ⟨gi,j,none⟩=some (.pointer (some ⟨g,0,none⟩)))→(W'.cell? ⟨gl,0,none⟩=some (.pointer (some ⟨gg,0,none⟩))∧W'.cell? ⟨gl,1,none⟩=some (.slice (some ⟨gi,0,none⟩) F.bl.length ci)∧W'.cell? ⟨gg,6,none⟩=some (.slice (some ⟨gr,0,none⟩) F.bl.length F.bl.length)∧W'.cell? ⟨gr,j,none⟩=some (.bool true)∧W'.cell? ⟨gi,j,none⟩=some (.pointer (some ⟨g,0,none⟩)))):=Zh (fun W W' hk ⟨z0,z1,z2,z3,z4⟩=>⟨(hk.cell (p:=⟨gl,0,none⟩) (cell_lt z0) HNG.out.1).trans z0,(hk.cell (p:=⟨gl,1,none⟩) (cell_lt z1) HNG.out.1).trans z1,(hk.cell (p:=⟨gg,6,none⟩) (cell_lt z2) HNG.out.2.1).trans z2,(hk.cell (p:=⟨gr,j,none⟩) (cell_lt z3) HNG.out.2.2.1).trans z3,(hk.cell (p:=⟨gi,j,none⟩) (cell_lt z4) HNG.out.2.2.2).trans z4⟩);clear y0 y1 y6 yr yg;refine wp_region_held_drew (S:=(fun W=>W.cell? ⟨gl,0,none⟩=some (.pointer (some ⟨gg,0,none⟩))∧W.cell? ⟨gl,1,none⟩=some (.slice (some ⟨gi,0,none⟩) F.bl.length ci)∧W.cell? ⟨gg,6,none⟩=some (.slice (some ⟨gr,0,none⟩) F.bl.length F.bl.length)∧W.cell? ⟨gr,j,none⟩=some (.bool true)∧W.cell? ⟨gi,j,none⟩=some (.pointer (some ⟨g,0,none⟩)))) (by kernel_rfl) ?_ (fun hHeld=>?_)
         ·exact HCL.out _ (ZA7 (Below.refl _ _))
         refine FU 24 rfl ?_;iterate 21 ((first|refine TN 24 rfl ?_|refine TM 24 rfl ?_);try simp only[AP,Nat.reduceAdd,Nat.reduceSub])
         refine RW 21 rfl fun K hK=>?_;go_simp
         go_at_call 190;refine (HPO.out _ (ZA7 (Below.refl _ _))).mono ?_;rintro e w4 ⟨⟨g',rfl,hge,hs4⟩,hb4⟩;have hB4:Below wr.heap.size wr w4:=(ZA7 (Below.refl _ _)).trans (ZA hb4 (Nat.le_refl _));have t1:=HCL.out _ hB4
         try go_wp2_with fail
         refine hK.out _ _ t1 (fun hHeld=>?_);clear hK K;try simp only[AP]
         refine RW 22 rfl fun K hK=>?_;go_simp
         go_at_call 164;refine (HJO.out w4 g' (HST.out.below hB4) hs4 (by have:=HST.out.lt;simp only[World.size_drew] at hge;omega)).mono ?_;rintro e w5 ⟨rfl,hs5,hk5⟩;have t2:=HCJ.out _ _ hk5 t1
         try go_wp2_with fail
         refine hK.out _ _ t2 (fun hHeld=>?_);clear hK K;try simp only[AP]
         first|refine TW 23 rfl ?_|refine TU 23 rfl ?_
         try simp only[AP]
         refine wpAnyH_done (by kernel_rfl) ?_ _;have HN:=Zh (show LvS w1 gl gg F.bl.length m (.slice (some ⟨gi,0,none⟩) F.bl.length ci) gs (ins2.set j Nj) w5∧SetAt w5 gc sec m from
          ⟨LvS.join (HW.out.1.below hB4) HGS.out hk5 hs5,(HW.out.2.below hB4).keeps hk5 (HNE.out j g HGS.out)⟩)
         clear hb4 hge hs4 hs5 hk5 hB4 HW HPO HJO HCL HCJ HST HGS
         cases gw with
         | true=>
          have HT2:=Zh (show totAll (ins2.set j Nj)+(if true=true then 1 else 0)≤totAll ins from by
           have h1:=HTO.out;have h2:=HP2.out;rw[if_pos rfl] at h1 ⊢
           omega)
          have HPQ:=Zh (show passP F sec j (ins2.set j Nj,true)=round F ins from by
           have:=HPP.out;rwa[Bool.or_true] at this)
          clear HTO HP2 HPP;go_wp2_with fail
          try rw[hw2]
          go_roundw
          case rel=>exact ⟨j,true,ins2.set j Nj,by omega,rfl,rfl,HN.out,HPQ.out,HT2.out⟩
          case measure=>simp[intOf]
         | false=>
          have HT2:=Zh (show totAll (ins2.set j Nj)+(if b2=true then 1 else 0)≤totAll ins from by
           have h1:=HTO.out;have h2:=HP2.out;rw[if_neg (by decide)] at h1
           omega)
          have HPQ:=Zh (show passP F sec j (ins2.set j Nj,b2)=round F ins from by
           have:=HPP.out;rwa[Bool.or_false] at this)
          clear HTO HP2 HPP;go_wp2_with fail
          try rw[hw2]
          go_roundw
          case rel=>exact ⟨j,b2,ins2.set j Nj,by omega,rfl,rfl,HN.out,HPQ.out,HT2.out⟩
          case measure=>simp[intOf]
end Go.Proofs.YtggmkofbikafhaaGreatDoor
