/- Walks and plain laws on the way to FramePrologue (J2, J3, P2, P3). Conditions: those that each theorem states. -/
import Derived.Deep.RegionWith
import Derived.Lib.TrailingZeros
import Derived.Test.YtggmkofbikafhaaGreatDoorJ1
set_option linter.unusedVariables false
set_option linter.unusedSimpArgs false
set_option maxRecDepth 100000
set_option maxHeartbeats 40000000
namespace Go.Proofs.YtggmkofbikafhaaGreatDoor
open Go.RowKit
structure Small (F:Fn):Prop where
 nm:F.nm.size≤maxLen
 bl:F.bl.length≤17592186044416
 os:∀b∈F.bl,b.os.length≤17592186044416
 ar:∀b∈F.bl,∀o∈b.os,o.ar.length≤17592186044414∧o.tx.size≤maxLen
theorem mx {n:Nat} (h:n≤maxLen):n≤maxLen:=h
theorem fn1_any (g:Nat) (regs sl st:Int) (l:List Op) (w:World) (h:Blk w g 297 (ZGF regs sl st)) (hk:Zj w) (hl:∀o∈l,o.tx.size≤maxLen) :
  ZCq w 175 #[.pointer (some ⟨g,0,none⟩)] (fun W x v=>atO W x v∧x∈l) (fun o=>!opB regs sl st o):=by
 rintro W hb x v ⟨⟨av,hav,rfl⟩,hx⟩;have hB:=h.below hb h.lt;have HO:=Zh (op_any regs sl st x av (W.alloc (.cells (opA x av) 199)) (hav.below (ZN _ _)) ((hk.below hb).below (ZN _ _)) (hl x hx));have c0:(W.alloc (.cells (opA x av) 199)).cell? ⟨g,0,none⟩=some (.int .i64 regs):=by rw[(hB.alloc _).cell];rfl
 have c1:(W.alloc (.cells (opA x av) 199)).cell? ⟨g,1,none⟩=some (.int .i64 sl):=by rw[(hB.alloc _).cell];rfl
 have c2:(W.alloc (.cells (opA x av) 199)).cell? ⟨g,2,none⟩=some (.int .i64 st):=by rw[(hB.alloc _).cell];rfl
 obtain ⟨A,c,rfl,h1,h2⟩:=hav.form;clear hB h hb hav hx hl hk;show Calls Tryz.prog 175 #[opv x _,.pointer (some ⟨g,0,none⟩)] W fun e W'=>e=.returned (.bool (!opB regs sl st x))∧Below W.heap.size W W';unfold opv ZG5 opA at HO;unfold opv;unfold opA at c0 c1 c2;go_enter Tryz.func175,Tryz.ntmps175
 go_wp2_with fail
 refine HO.out.mono ?_;rintro e w1 ⟨rfl,hb⟩;go_wp2;go_ret;exact ⟨rfl,(ZN W _).trans (ZA hb (ZBB _ _))⟩
theorem ZKq {regs slots strs blocks:Int} {n:Nat} {bs:List Bl} {k:Nat} (hk:k<bs.length):ZIt regs slots strs blocks n (bs.drop k)=(decide (n+bs[k].os.length≤4096)&&(exB regs blocks bs[k].x&&(!(bs[k].os.any (fun o=>!opB regs slots strs o))&&ZIt regs slots strs blocks (n+bs[k].os.length) (bs.drop (k+1))))):=by
 rw[List.drop_eq_getElem_cons hk,ZIt];have e:bs[k].os.all (opB regs slots strs) = !(bs[k].os.any (fun o=>!opB regs slots strs o)):=by rw[Bool.eq_iff_iff];simp
 rw[e]
theorem slB_step {ss:List Sl} {k:Nat} (hk:k<ss.length):(ss.drop k).all slB=(slB ss[k]&&(ss.drop (k+1)).all slB):=by
 rw[List.drop_eq_getElem_cons hk,List.all_cons]
structure FuW (w:World) (F:Fn) (sv bv:Value) (W:World):Prop where
 bx:Blk W w.heap.size 82 (fnA F sv bv)
 be:Below w.heap.size w W
theorem FuW.next {w W W':World} {F:Fn} {sv bv:Value} (h:FuW w F sv bv W) (hb:Below W.heap.size W W'):FuW w F sv bv W':=
 ⟨h.bx.below hb h.bx.lt,h.be.trans (ZA hb h.be.size)⟩
structure FuC (F:Fn) (sv bv:Value) (n:Nat) (W:World):Prop where
 f0:W.cell? ⟨n,0,none⟩=some (.string F.nm)
 f1:W.cell? ⟨n,1,none⟩=some (.int .i64 F.ps)
 f2:W.cell? ⟨n,2,none⟩=some (.int .i64 F.rs)
 f3:W.cell? ⟨n,3,none⟩=some sv
 f4:W.cell? ⟨n,4,none⟩=some bv
theorem FuW.cells {w W:World} {F:Fn} {sv bv:Value} (h:FuW w F sv bv W):FuC F sv bv w.heap.size W:=
 ⟨(h.bx.cell 0).trans rfl,(h.bx.cell 1).trans rfl,(h.bx.cell 2).trans rfl,(h.bx.cell 3).trans rfl,(h.bx.cell 4).trans rfl⟩
theorem ZFu (F:Fn) (sv bv:Value) (w:World) (hs:ZGA w sv F.sl) (hb:ZAV w bv F.bl) (hk:Zj w) (hS:Small F) :
  Calls Tryz.prog 133 #[fnv F sv bv,.int .i64 4611686018427387904] w fun e w'=>e=.returned (.bool (fnB F))∧Below w.heap.size w w':=by
 obtain ⟨A,c,rfl,h1,h2⟩:=hb.form;obtain ⟨As,cs,rfl,s1,s2⟩:=RowOf.form hs;unfold maxLen at h2 s2;have HB:=Zh hb;have HS:=Zh hs;have HK:=Zh hk;have HSM:=Zh hS;have HN:=Zh (ZEO F.nm (w.alloc (.cells (fnA F (.slice As F.sl.length cs) (.slice A F.bl.length c)) 82)) (mx hS.nm) (hk.below (ZN _ _)));have HW:=Zh (show FuW w F (.slice As F.sl.length cs) (.slice A F.bl.length c) (w.alloc (.cells (fnA F (.slice As F.sl.length cs) (.slice A F.bl.length c)) 82)) from ⟨Blk.new _ _ _,ZN _ _⟩);have HAP:=Zh (fun W (h:Below w.heap.size w W) hn hx=>ZKy F (.slice As F.sl.length cs) (.slice A F.bl.length c) W (hb.below h) hn hx);obtain ⟨nb,hnb⟩:∃b,ZAh F.nm=b:=⟨_,rfl⟩
 rw[hnb] at HN;have hfb:fnB F=((nb&&(decide (0≤F.ps)&&(decide (F.ps≤8)&&(decide (F.ps≤F.rs)&&(decide (F.rs≤4096)&&(decide (F.sl.length≤256)&&(decide (1≤F.bl.length)&&decide (F.bl.length≤4096))))))))&&(F.sl.all slB&&(ZIt F.rs F.sl.length 4611686018427387904 F.bl.length 0 F.bl&&apartB F.bl))):=by rw[fnB,headB,hnb]
 have HO:=Zh hfb;clear hs hb hk hS hnb hfb;unfold fnv;unfold fnA at HN HW;go_enter Tryz.func133,Tryz.ntmps133
 go_wp2_with fail
 refine HN.out.mono ?_;rintro e w1 ⟨rfl,hb1⟩;replace HW:=Zh (HW.out.next hb1);clear hb1 HN;obtain ⟨f0,f1,f2,f3,f4⟩:=HW.out.cells
 cases nb with
 | false=>
  go_wp2_with fail
  go_ret;exact ⟨ZF (by rw[HO.out];simp[*];try (intros;omega)),HW.out.be⟩
 | true=>
  by_cases q0:0≤F.ps
  rotate_left
  ·skip
   go_wp2_with fail
   go_ret;exact ⟨ZF (by rw[HO.out];simp[*];try (intros;omega)),HW.out.be⟩
  by_cases q1:F.ps≤8
  rotate_left
  ·skip
   go_wp2_with fail
   go_ret;exact ⟨ZF (by rw[HO.out];simp[*];try (intros;omega)),HW.out.be⟩
  by_cases q2:F.ps≤F.rs
  rotate_left
  ·skip
   go_wp2_with fail
   go_ret;exact ⟨ZF (by rw[HO.out];simp[*];try (intros;omega)),HW.out.be⟩
  by_cases q3:F.rs≤4096
  rotate_left
  ·skip
   go_wp2_with fail
   go_ret;exact ⟨ZF (by rw[HO.out];simp[*];try (intros;omega)),HW.out.be⟩
  by_cases q4:F.sl.length≤256
  rotate_left
  ·skip
   go_wp2_with fail
   go_ret;exact ⟨ZF (by rw[HO.out];simp[*];try (intros;omega)),HW.out.be⟩
  by_cases q5:1≤F.bl.length
  rotate_left
  ·skip
   go_wp2_with fail
   go_ret;exact ⟨ZF (by rw[HO.out];simp[*];try (intros;omega)),HW.out.be⟩
  by_cases q6:F.bl.length≤4096
  rotate_left
  ·skip
   go_wp2_with fail
   go_ret;exact ⟨ZF (by rw[HO.out];simp[*];try (intros;omega)),HW.out.be⟩
  have HO2:=Zh (show fnB F=(F.sl.all slB&&(ZIt F.rs F.sl.length 4611686018427387904 F.bl.length 0 F.bl&&apartB F.bl)) by rw[HO.out];simp[*]);clear HO;clear f0 f1 f2 f3 f4;obtain ⟨f0,f1,f2,f3,f4⟩:=HW.out.cells;go_wp2_with fail
  go_loopw [58] (fun i wr=>∃k:Nat,k≤F.sl.length∧i=.int .i64 k∧Hid (F.sl.all slB=(F.sl.drop k).all slB)∧Hid (FuW w F (.slice As F.sl.length cs) (.slice A F.bl.length c) wr)) (fun i _=>F.sl.length-(intOf i).toNat)
  case atStart=>exact ⟨0,Nat.zero_le _,rfl,rfl,HW.out⟩
  case round=>
   clear HW f0 f1 f2 f3 f4;obtain ⟨k,hk,rfl,HA,HW⟩:=hrel
   by_cases hlt:k<F.sl.length
   ·obtain ⟨g,off,cap',ea,h3,h4,hg,hc⟩:=(ZGA.below HS.out HW.out.be).open_ (Nat.lt_of_le_of_lt (Nat.zero_le _) hlt)
    cases ea
    obtain ⟨c0,c1,c2⟩:=hc k hlt;have hst:=slB_step hlt;obtain ⟨s,hs⟩:∃s,F.sl[k]=s:=⟨_,rfl⟩
    rw[hs] at c0 c1 c2 hst;obtain ⟨z,a,vo⟩:=s;have HST:=Zh (HA.out.trans hst);clear hst hs HA hc
    simp only at c0 c1 c2
    by_cases z1:1≤z
    ·by_cases z2:z≤65536
     ·rcases (show a=1∨a=2∨a=4∨(a≠1∧a≠2∧a≠4) by omega) with rfl|rfl|rfl|⟨a1,a2,a3⟩
      case inr.inr.inr=>
       have HF:=Zh (show fnB F=false by rw[HO2.out,HST.out];simp[slB,a1,a2,a3]);have b1:(a==1)=false:=by simp[a1]
       have b2:(a==2)=false:=by simp[a2]
       have b3:(a==4)=false:=by simp[a3]
       have b4:(a != 1)=true:=by simp[a1]
       have b5:(a != 2)=true:=by simp[a2]
       have b6:(a != 4)=true:=by simp[a3]
       clear a1 a2 a3;go_wp2_with fail
       go_ret;exact ⟨ZF HF.out.symm,(HW.out.next (ZN _ _)).be⟩
      all_goals
       have HF:=Zh (show F.sl.all slB=(F.sl.drop (k+1)).all slB by rw[HST.out];simp[slB,z1,z2]);go_wp2_with fail
       go_roundw
       case rel=>exact ⟨k+1,by omega,by go_num,HF.out,HW.out.next (ZN _ _)⟩
       case measure=>simp[intOf];omega
     ·have HF:=Zh (show fnB F=false by rw[HO2.out,HST.out];simp[slB,z2])
      go_wp2_with fail
      go_ret;exact ⟨ZF HF.out.symm,(HW.out.next (ZN _ _)).be⟩
    ·have HF:=Zh (show fnB F=false by rw[HO2.out,HST.out];simp[slB,z1])
     go_wp2_with fail
     go_ret;exact ⟨ZF HF.out.symm,(HW.out.next (ZN _ _)).be⟩
   ·have HO3:=Zh (show fnB F=(ZIt F.rs F.sl.length 4611686018427387904 F.bl.length 0 F.bl&&apartB F.bl) by rw[HO2.out,HA.out,List.drop_eq_nil_of_le (by omega)];rfl)
    clear HO2 HA;obtain ⟨gb,hgb⟩:∃gb,wr.heap.size=gb:=⟨_,rfl⟩
    have HW0:=Zh (HW.out.next (ZN wr (.cells (ZGF F.rs F.sl.length 4611686018427387904) 297)));have HG0:=Zh (Blk.new wr 297 (ZGF F.rs F.sl.length 4611686018427387904));obtain ⟨f0,f1,f2,f3,f4⟩:=HW0.out.cells;unfold ZGF at f0 f1 f2 f3 f4 HW0 HG0;obtain ⟨e0,e1,e2,e3,e4⟩:=HW.out.cells;rw[hgb] at HG0;clear HW;go_wp2_with fail
    go_loopw [96,8] (fun i nn wr=>∃k m:Nat,k≤F.bl.length∧m≤4096∧i=.int .i64 k∧nn=.int .i64 m∧Hid (fnB F=(ZIt F.rs F.sl.length 4611686018427387904 F.bl.length m (F.bl.drop k)&&apartB F.bl))∧Hid (∀b∈F.bl.take k,exB F.rs F.bl.length b.x=true)∧Hid (FuW w F (.slice As F.sl.length cs) (.slice A F.bl.length c) wr∧Blk wr gb 297 (ZGF F.rs F.sl.length 4611686018427387904))) (fun i _ _=>F.bl.length-(intOf i).toNat)
    case atStart=>exact ⟨0,0,Nat.zero_le _,Nat.zero_le _,rfl,rfl,HO3.out,by simp[Hid],HW0.out,HG0.out⟩
    case round=>
     clear HW0 HG0 f0 f1 f2 f3 f4 e0 e1 e2 e3 e4 HO3;obtain ⟨k,m,hk,hm,rfl,rfl,HA,HE,HW⟩:=hrel
     by_cases hlt:k<F.bl.length
     ·obtain ⟨g,off,cap',ea,h3,h4,hg,hc⟩:=(ZAV.below HB.out HW.out.1.be).open_ (Nat.lt_of_le_of_lt (Nat.zero_le _) hlt)
      cases ea
      obtain ⟨ov,hcc⟩:=hc k hlt;have hmem:=List.getElem_mem hlt;have hos:=HSM.out.os _ hmem;have har:=HSM.out.ar _ hmem;have hst:=ZKq (regs:=F.rs) (slots:=F.sl.length) (strs:=4611686018427387904) (blocks:=F.bl.length) (n:=m) hlt;have hex:∀y:Bl,y=F.bl[k]→exB F.rs F.bl.length y.x=true→∀b∈F.bl.take (k+1),exB F.rs F.bl.length b.x=true:=by
       intro y hy h b hb;rw[List.take_succ_eq_append_getElem hlt,List.mem_append] at hb;rcases hb with hb|hb
       ·exact HE.out b hb
       ·rw[List.mem_singleton] at hb
        rw[hb,←hy];exact h
      obtain ⟨b,hbk⟩:∃b,F.bl[k]=b:=⟨_,rfl⟩
      rw[hbk] at hcc hos har hst;have HEX:=Zh (hex b hbk.symm);have HAR:=Zh (fun o ho=>mx (har o ho).2);obtain ⟨c0,c1,c2,c3,c4,c5,car⟩:=hcc;have hcar:=car;obtain ⟨Ao,co,rfl,o1,o2⟩:=car.form;unfold maxLen at o2;have hw1:=ZN wr (.cells #[.slice Ao b.os.length co,.int .i64 b.x.k,.int .i64 b.x.a,.int .i64 b.x.d,.int .i64 b.x.t,.int .i64 b.x.e] 159);have HC2:=Zh (hcar.below hw1);have hW:=HW.out.1.next hw1;have hG:=HW.out.2.below hw1 HW.out.2.lt;obtain ⟨f0,f1,f2,f3,f4⟩:=hW.cells;have g0:(wr.alloc (.cells #[.slice Ao b.os.length co,.int .i64 b.x.k,.int .i64 b.x.a,.int .i64 b.x.d,.int .i64 b.x.t,.int .i64 b.x.e] 159)).cell? ⟨gb,0,none⟩=some (.int .i64 F.rs):=(hG.cell 0).trans rfl;have g1:(wr.alloc (.cells #[.slice Ao b.os.length co,.int .i64 b.x.k,.int .i64 b.x.a,.int .i64 b.x.d,.int .i64 b.x.t,.int .i64 b.x.e] 159)).cell? ⟨gb,1,none⟩=some (.int .i64 F.sl.length):=(hG.cell 1).trans rfl;have g2:(wr.alloc (.cells #[.slice Ao b.os.length co,.int .i64 b.x.k,.int .i64 b.x.a,.int .i64 b.x.d,.int .i64 b.x.t,.int .i64 b.x.e] 159)).cell? ⟨gb,2,none⟩=some (.int .i64 4611686018427387904):=(hG.cell 2).trans rfl;have HWG:=Zh (Za hW hG);have HXQ:=Zh (fun W=>exit_any F.rs F.sl.length 4611686018427387904 F.bl.length b.x W);obtain ⟨b1,hb1⟩:∃q,exB F.rs F.bl.length b.x=q:=⟨_,rfl⟩
      obtain ⟨b2,hb2⟩:∃q,b.os.any (fun o=>!opB F.rs F.sl.length 4611686018427387904 o)=q:=⟨_,rfl⟩
      have HFN:=Zh (fun W h1 h2 h3=>ZE5 b.os (.slice Ao b.os.length co) 175 #[.pointer (some ⟨gb,0,none⟩)] (fun o=>!opB F.rs F.sl.length 4611686018427387904 o) W ZIX h1 (fn1_any gb F.rs F.sl.length 4611686018427387904 b.os W h2 h3 HAR.out));rw[hb1] at HXQ HEX hst;rw[hb2] at HFN hst;have HST:=Zh (HA.out.trans (by rw[hst]));unfold ZG5 exv at HXQ;clear hst hbk HA hc har hex hcar car hmem hb1 hb2 hw1 hW hG HE HW
      by_cases hm2:m+b.os.length≤4096
      ·have hm3:((m:Int)+(b.os.length:Int))≤4096:=by omega
       have hm4:¬4096<((m:Int)+(b.os.length:Int)):=by omega
       have hm5:decide (4096<((m:Int)+(b.os.length:Int)))=false:=by simp;omega
       go_wp2_with fail
       refine (HXQ.out _).mono ?_;rintro e w2 ⟨rfl,hw2⟩
       cases b1 with
       | false=>
        have HF:=Zh (show fnB F=false by rw[HST.out];simp);have HBE:=Zh (HWG.out.1.next hw2).be;clear hw2;go_wp2_with fail
        go_ret;exact ⟨ZF HF.out.symm,HBE.out⟩
       | true=>
        have cc0:w2.cell? ⟨wr.heap.size,0,none⟩=some (.slice Ao b.os.length co):=((hw2.cell (p:=⟨wr.heap.size,0,none⟩) (by simp[World.size_alloc])).trans ((Blk.new wr 159 #[.slice Ao b.os.length co,.int .i64 b.x.k,.int .i64 b.x.a,.int .i64 b.x.d,.int .i64 b.x.t,.int .i64 b.x.e]).cell 0)).trans rfl;have HF2:=Zh (HFN.out w2 (HC2.out.below hw2) (HWG.out.2.below hw2 HWG.out.2.lt) (HK.out.below (HWG.out.1.next hw2).be));have HWG2:=Zh (Za (HWG.out.1.next hw2) (HWG.out.2.below hw2 HWG.out.2.lt));clear hw2 HWG HFN HXQ f0 f1 f2 f3 f4 g0 g1 g2 c0 c1 c2 c3 c4 c5;go_wp2_with fail
        refine HF2.out.mono ?_;rintro e w3 ⟨rfl,hw3⟩;have HWG3:=Zh (Za (HWG2.out.1.next hw3) (HWG2.out.2.below hw3 HWG2.out.2.lt));clear hw3 HWG2
        cases b2 with
        | true=>
         have HF:=Zh (show fnB F=false by rw[HST.out];simp);go_wp2_with fail
         go_ret;exact ⟨ZF HF.out.symm,HWG3.out.1.be⟩
        | false=>
         have HF:=Zh (show fnB F=(ZIt F.rs F.sl.length 4611686018427387904 F.bl.length (m+b.os.length) (F.bl.drop (k+1))&&apartB F.bl) by rw[HST.out];simp[hm2]);go_wp2_with fail
         go_roundw
         case rel=>exact ⟨k+1,m+b.os.length,by omega,hm2,by go_num,by go_num,HF.out,HEX.out (by trivial),HWG3.out⟩
         case measure=>simp[intOf];omega
      ·have hm3:4096<((m:Int)+(b.os.length:Int)):=by omega
       have HF:=Zh (show fnB F=false by rw[HST.out];simp[hm2]);go_wp2_with fail
       go_ret;exact ⟨ZF HF.out.symm,HWG.out.1.be⟩
     ·have hke:k=F.bl.length:=by omega
      subst hke;have HF:=Zh (show fnB F=apartB F.bl by rw[HA.out,List.drop_eq_nil_of_le (Nat.le_refl _)];rfl);have HE2:=Zh HE.out;rw[List.take_length] at HE2;have HQ:=Zh (HAP.out wr HW.out.1.be q6 HE2.out);have HBE:=Zh HW.out.1.be;obtain ⟨f0,f1,f2,f3,f4⟩:=HW.out.1.cells;unfold fnv at HQ;clear HA HE HE2 HW;go_wp2_with fail
      refine HQ.out.mono ?_;rintro e w2 ⟨rfl,hw2⟩;go_wp2_with fail
      go_ret;exact ⟨ZF HF.out.symm,HBE.out.trans (ZA hw2 HBE.out.size)⟩
structure ZG9 (W:World) (F:Fn) (sv bv:Value):Prop where
 sl:ZGA W sv F.sl
 bl:ZAV W bv F.bl
 ke:Zj W
 sm:Small F
theorem ZG9.below {W W':World} {F:Fn} {sv bv:Value} (h:ZG9 W F sv bv) (hb:Below W.heap.size W W'):ZG9 W' F sv bv:=⟨h.sl.below hb,h.bl.below hb,h.ke.below hb,h.sm⟩
def errV (F:Fn):Value:=.int .i64 (if fnB F then 0 else 180)
theorem check_any (F:Fn) (sv bv:Value) (w:World) (h:ZG9 w F sv bv) :
  Calls Tryz.prog 94 #[fnv F sv bv] w fun e w'=>e=.returned (errV F)∧Below w.heap.size w w':=by
 obtain ⟨A,c,rfl,-,-⟩:=h.bl.form;obtain ⟨As,cs,rfl,-,-⟩:=RowOf.form h.sl;have hb1:=ZN w (.cells #[.string F.nm,.int .i64 F.ps,.int .i64 F.rs,.slice As F.sl.length cs,.slice A F.bl.length c] 82);have HF:=Zh (ZFu F (.slice As F.sl.length cs) (.slice A F.bl.length c) _ (h.sl.below hb1) (h.bl.below hb1) (h.ke.below hb1) h.sm);obtain ⟨b,hb⟩:∃b,fnB F=b:=⟨_,rfl⟩
 have HE:=Zh (show errV F=.int .i64 (if b then 0 else 180) by rw[errV,hb]);rw[hb] at HF;clear hb hb1 h;unfold fnv at HF;unfold fnv;go_enter Tryz.func94,Tryz.ntmps94
 go_wp2_with fail
 refine HF.out.mono ?_;rintro e w1 ⟨rfl,hb2⟩
 cases b
 all_goals
  go_wp2_with fail
  go_ret;exact ⟨by rw[HE.out];rfl,(ZN w _).trans (ZA hb2 (ZBB _ _))⟩
theorem bany_any (w:World):Calls Tryz.prog 195 #[] w fun e w'=>e=.returned (ZG5 4096 4611686018427387904 4611686018427387904)∧w'=w.alloc (.cells (ZGF 4096 4611686018427387904 4611686018427387904) 297):=by
 go_enter Tryz.func195,Tryz.ntmps195
 go_wp2;refine bodyPost_ret (v:=ZG5 4096 4611686018427387904 4611686018427387904) (by simp[results,Tryz.results195,go_sem,ZG5]) rfl ⟨rfl,rfl⟩
def ge0 (l:List Int):List Int:=l.filter (fun r=>decide (0≤r))
theorem ge0_yes {l:List Int} {k:Nat} (hk:k<l.length) (h:0≤l[k]):ge0 (l.take (k+1))=ge0 (l.take k)++[l[k]]:=by
 rw[List.take_succ_eq_append_getElem hk,ge0,List.filter_append];simp[ge0,h]
theorem ge0_no {l:List Int} {k:Nat} (hk:k<l.length) (h:¬0≤l[k]):ge0 (l.take (k+1))=ge0 (l.take k):=by
 rw[List.take_succ_eq_append_getElem hk,ge0,List.filter_append];simp[ge0,h]
theorem ge0_len (l:List Int) (k:Nat):(ge0 (l.take k)).length≤k:=Nat.le_trans (List.length_filter_le _ _) (by rw[List.length_take];omega)
theorem box_key {w W0 w1:World} {t:TypeId} {cs:Array Value} (hb:Below W0.heap.size W0 w1) (h:Blk W0 w.heap.size t cs∧Below w.heap.size w W0):Blk w1 w.heap.size t cs∧Below w.heap.size w w1:=
 ⟨h.1.below hb h.1.lt,h.2.trans (ZA hb h.2.size)⟩
theorem ZJW (o:Op) (av:Value) (w:World) (ha:Ints w av o.ar) (hk:Zj w) (hs:o.tx.size≤maxLen) (hl:o.ar.length≤17592186044414) :
  Calls Tryz.prog 161 #[opv o av] w fun e w'=>(∃a,e=.returned a∧Ints w' a (reads o)∧ZGD w a)∧Below w.heap.size w w':=by
 obtain ⟨A,c,rfl,h1,h2⟩:=ha.form;unfold maxLen at h2;have HA:=Zh ha;have HQ:=Zh (fun W (h:Below w.heap.size w W)=>op_any 4096 4611686018427387904 4611686018427387904 o (.slice A o.ar.length c) W (ha.below h) (hk.below h) hs);have HN:=Zh (fun W=>bany_any W);obtain ⟨b,hb⟩:∃b,opB 4096 4611686018427387904 4611686018427387904 o=b:=⟨_,rfl⟩
 have HR:=Zh (show reads o=if b then ge0 (o.a::o.b::o.ar) else [] by rw[reads,hb];rfl);rw[hb] at HQ;unfold opv ZG5 at HQ;unfold ZG5 ZGF at HN;unfold opv;clear ha hk hs hb;go_enter Tryz.func161,Tryz.ntmps161
 go_wp2_with fail
 go_region_with (first
  | (go_at_call 195;refine (HN.out _).mono ?_;rintro e w1 ⟨rfl,rfl⟩)
  | (go_at_call 176;refine (HQ.out _ ?_).mono ?_;(first|exact ZA7 (below2 _ _ _)|exact below2 _ _ _|exact (ZN _ _).trans (ZA (ZA7 (ZN _ _)) (ZBB _ _)));rintro e w1 ⟨rfl,hb1⟩))
 all_goals
  have hkey:Blk w1 w.heap.size 199 (opA o (.slice A o.ar.length c))∧Below w.heap.size w w1:=box_key hb1
   (by first
    | exact ⟨(Blk.new w 199 (opA o (.slice A o.ar.length c))).alloc _,below2 w _ _⟩
    | exact ⟨((Blk.new w 199 (opA o (.slice A o.ar.length c))).alloc _).drew,ZA7 (below2 w _ _)⟩
    | exact ⟨((Blk.new w 199 (opA o (.slice A o.ar.length c))).drew).alloc _,(ZA7 (ZN w _)).alloc (ZBB _ _) _⟩)
  have c2:w1.cell? ⟨w.heap.size,2,none⟩=some (.int .i64 o.a):=(hkey.1.cell 2).trans rfl;have c3:w1.cell? ⟨w.heap.size,3,none⟩=some (.int .i64 o.b):=(hkey.1.cell 3).trans rfl;have d6:(w1.alloc (.cells #[.int .i64 o.a,.int .i64 o.b] 3)).cell? ⟨w.heap.size,6,none⟩=some (.slice A o.ar.length c):=((hkey.1.alloc _).cell 6).trans rfl;have HB1:=Zh hkey.2;clear hkey hb1
  cases b with
  | false=>
   go_wp2_with fail
   go_ret;exact ⟨⟨_,rfl,by rw[HR.out];exact ZBF _,ZAr w⟩,HB1.out⟩
  | true=>
   have hOw:OwnI (w1.alloc (.cells #[.int .i64 o.a,.int .i64 o.b] 3)) w1.heap.size (.slice (some ⟨w1.heap.size,0,none⟩) 2 2) [o.a,o.b]:=OwnI.new (Blk.new w1 3 _) rfl rfl (Nat.le_refl _) (by decide);obtain ⟨av,w2,hap,how,hkp,-⟩:=hOw.app (RowOf.below HA.out (HB1.out.trans (ZA (ZN w1 _) HB1.out.size)):Ints _ (.slice A o.ar.length c) o.ar) (by simp[World.size_alloc]) (by simp;omega) 22;have HAP:=Zh hap;have HB2:=Zh (HB1.out.trans (ZA ((ZN w1 _).trans (hOw.keepsB hkp (by simp[World.size_alloc]))) HB1.out.size));have HOW:=Zh how.ints;have hAL:([o.a,o.b]++o.ar).length≤17592186044416:=by simp;omega
   obtain ⟨al,hal⟩:∃al,[o.a,o.b]++o.ar=al:=⟨_,rfl⟩
   have HR2:=Zh (show reads o=ge0 al by rw[HR.out,←hal];rfl);rw[hal] at HOW hAL;obtain ⟨Aa,ca,rfl,a1,a2⟩:=how.form;rw[hal] at HAP HOW a1 how;unfold maxLen at a2;have HL2:=Zh how.lt;clear hap hkp how hOw HR hal;go_wp2_with (at_builtin;refine ZK rfl (.tmp 14) (.tmp 16) 22 rfl rfl rfl HAP.out ?_)
   go_loopw [19,3] (fun i ov wr=>∃k:Nat,k≤al.length∧i=.int .i64 k∧Hid (OwnI wr w2.heap.size ov (ge0 (al.take k))∧Below w2.heap.size w2 wr)) (fun i _ _=>al.length-(intOf i).toNat)
   case atStart=>exact ⟨0,Nat.zero_le _,rfl,OwnI.nil _ _,Below.refl _ _⟩
   case round=>
    obtain ⟨k,hk,rfl,HW⟩:=hrel
    by_cases hlt:k<al.length
    ·obtain ⟨g,off,cap',ea,h3,h4,hg,hc⟩:=(Ints.below HOW.out HW.out.2).open_ (Nat.lt_of_le_of_lt (Nat.zero_le _) hlt)
     cases ea
     have c0:=hc k hlt;have hy:=ge0_yes hlt;have hn:=ge0_no hlt;obtain ⟨x,hx⟩:∃x,al[k]=x:=⟨_,rfl⟩
     rw[hx] at c0 hy hn;have HY:=Zh hy;have HNO:=Zh hn;clear hc hx hy hn
     by_cases h0:0≤x
     ·obtain ⟨v',w3,hap,how,hkp⟩:=HW.out.1.push HW.out.2.size (by have:=ge0_len al k;omega) x 22
      have HAP3:=Zh hap;have HW3:=Zh (show OwnI w3 w2.heap.size v' (ge0 (al.take (k+1)))∧Below w2.heap.size w2 w3 from ⟨by rw[HY.out h0];exact how,HW.out.2.trans (HW.out.1.keepsB hkp HW.out.2.size)⟩);clear hap how hkp HW HY HNO;go_wp2_with (at_builtin;refine ZK rfl (.tmp 25) (.tmp 27) 22 rfl rfl rfl HAP3.out ?_)
      go_roundw
      case rel=>exact ⟨k+1,by omega,by go_num,HW3.out⟩
      case measure=>simp[intOf];omega
     ·have HW3:=Zh (HNO.out h0)
      clear HY HNO;go_wp2_with fail
      go_roundw
      case rel=>exact ⟨k+1,by omega,by go_num,by rw[HW3.out];exact HW.out⟩
      case measure=>simp[intOf];omega
    ·have hke:k=al.length:=by omega
     subst hke;have HW3:=Zh HW.out;rw[List.take_length] at HW3;clear HW;go_wp2_with fail
     go_ret;exact ⟨⟨_,rfl,by rw[HR2.out];exact HW3.out.1.ints,fun g hg=>by have:=HW3.out.1.ge g hg;have:=HB2.out.size;omega⟩,HB2.out.trans (ZA HW3.out.2 HB2.out.size)⟩
end Go.Proofs.YtggmkofbikafhaaGreatDoor
namespace Go.Proofs.YtggmkofbikafhaaGreatDoor
theorem ZAd {w:Nat} (h:w≠0):w &&& (w-1)<w:=Nat.lt_of_le_of_lt Nat.and_le_right (by omega)
def ZDc (w:Nat):List Nat:=if h:w=0 then [] else Lib.ctz 64 w::ZDc (w &&& (w-1))
termination_by w
decreasing_by exact ZAd h
theorem ZCa:ZDc 0=[]:=by unfold ZDc;simp
theorem ZBR {w:Nat} (h:w≠0):ZDc w=Lib.ctz 64 w::ZDc (w &&& (w-1)):=by
 rw[ZDc];simp[h]
theorem and_even (y:Nat) (h:0<y):(2*y) &&& (2*y-1)=2*(y &&& (y-1)):=by
 apply Nat.eq_of_testBit_eq
 intro i
 cases i with
 | zero=>simp[Nat.testBit_zero,Nat.testBit_and]
 | succ i=>
  rw[Nat.testBit_and,Nat.testBit_succ,Nat.testBit_succ,Nat.testBit_succ,show 2*y / 2=y by omega,show (2*y-1) / 2=y-1 by omega,show 2*(y &&& (y-1)) / 2=y &&& (y-1) by omega,Nat.testBit_and]
theorem and_odd (y:Nat):(2*y+1) &&& (2*y+1-1)=2*y:=by
 apply Nat.eq_of_testBit_eq
 intro i
 cases i with
 | zero=>simp[Nat.testBit_zero,Nat.testBit_and]
 | succ i=>
  rw[Nat.testBit_and,Nat.testBit_succ,Nat.testBit_succ,Nat.testBit_succ,show (2*y+1) / 2=y by omega,show (2*y+1-1) / 2=y by omega,show 2*y / 2=y by omega,Bool.and_self]
theorem ZEV:∀y,(ZDc (2*y)).length=(ZDc y).length:=by
 intro y
 induction y using Nat.strongRecOn with
 | ind y ih=>
  rcases Nat.eq_zero_or_pos y with rfl|h
  ·rfl
  ·rw[ZBR (by omega:2*y≠0),ZBR (by omega:y≠0),and_even y h,List.length_cons,List.length_cons,ih _ (ZAd (by omega))]
theorem ZDb:∀k x,x<2^k→(ZDc x).length≤k
 | 0,x,h=>by
  have:x=0:=by simpa using h
  rw[this,ZCa];simp
 | k+1,x,h=>by
  have hp:2^(k+1)=2*2^k:=by rw[Nat.pow_succ];omega
  rcases Nat.mod_two_eq_zero_or_one x with h2|h2
  ·obtain ⟨y,rfl⟩:∃y,x=2*y:=⟨x / 2,by omega⟩
   rw[ZEV];have:=ZDb k y (by omega);omega
  ·obtain ⟨y,rfl⟩:∃y,x=2*y+1:=⟨x / 2,by omega⟩
   rw[ZBR (by omega),and_odd,List.length_cons,ZEV];have:=ZDb k y (by omega);omega
theorem ZKd {x:Nat} (h0:x≠0) (h:x<2^64):x.testBit (Lib.ctz 64 x)=true∧Lib.ctz 64 x<64:=by
 have e:Lib.ctz 64 x=Lib.ctzFrom 64 x:=by rw[Lib.ctz,if_neg h0]
 obtain ⟨m,hm,hk⟩:=Lib.ctzFrom_spec 64 x (by omega) h;rw[e];refine ⟨?_,hk⟩;generalize Lib.ctzFrom 64 x=k at hm hk;rw[hm,Nat.testBit_eq_decide_div_mod_eq,Nat.mul_div_cancel_left _ (Nat.two_pow_pos k)];simp
theorem ZKt:∀x,x<2^64→∀b∈ZDc x,x.testBit b=true:=by
 intro x
 induction x using Nat.strongRecOn with
 | ind x ih=>
  intro hx b hb;rcases Nat.eq_zero_or_pos x with rfl|h
  ·rw[ZCa] at hb;cases hb
  ·have h0:x≠0:=by omega
   rw[ZBR h0] at hb;rcases List.mem_cons.1 hb with rfl|hb
   ·exact (ZKd h0 hx).1
   ·have:=ih _ (ZAd h0) (Nat.lt_trans (ZAd h0) hx) b hb
    rw[Nat.testBit_and] at this;exact (Bool.and_eq_true _ _▸this).1
def ZHU (i w:Nat):List Int:=(ZDc w).map (fun b:Nat=>((i:Int)*64+(b:Int)))
def listW (ws:List Nat) (N:Nat):List Int:=(List.range N).flatMap (fun i=>ZHU i (ws.getD i 0))
theorem ZEL (ws:List Nat) (N:Nat):listW ws (N+1)=listW ws N++ZHU N (ws.getD N 0):=by
 rw[listW,List.range_succ,List.flatMap_append];simp[listW]
theorem memW_pos {i w:Nat} (h:w≠0):ZHU i w=((i:Int)*64+(Lib.ctz 64 w:Int))::ZHU i (w &&& (w-1)):=by rw[ZHU,ZBR h];rfl
theorem ZJn (i:Nat):ZHU i 0=[]:=by rw[ZHU,ZCa];rfl
theorem memW_len {i w:Nat} (h:w<2^64):(ZHU i w).length≤64:=by rw[ZHU,List.length_map];exact ZDb 64 w h
theorem ZDJ {ws:List Nat} (h:∀x∈ws,x<2^64):∀N,(listW ws N).length≤64*N
 | 0=>by simp[listW]
 | N+1=>by
  rw[ZEL,List.length_append];have h1:=ZDJ h N;have h2:(ZHU N (ws.getD N 0)).length≤64:=memW_len (by
   rcases Nat.lt_or_ge N ws.length with hl|hl
   ·have e:ws.getD N 0=ws[N]:=by simp[hl]
    rw[e];exact h _ (List.getElem_mem hl)
   ·have e:ws.getD N 0=0:=by simp[hl]
    rw[e];exact Nat.two_pow_pos 64)
  omega
def ZDm (o:List Int) (k:Int):List Int:=if o.contains k then o else o++[k]
def ZAY (l:List Int):List Int:=l.foldl ZDm []
def toL (F:Fn):List (List Int):=F.bl.map (fun b=>ZAY (exT b.x))
theorem ZJh (o:List Int) (k:Int):(ZDm o k).length≤o.length+1:=by
 unfold ZDm
 split<;>simp
theorem ZIB (l:List Int):∀o:List Int,(l.foldl ZDm o).length≤o.length+l.length:=by
 induction l with
 | nil=>intro o;simp
 | cons a l ih=>
  intro o;rw[List.foldl_cons,List.length_cons];have:=ih (ZDm o a);have:=ZJh o a;omega
theorem ZDF (l:List Int):(ZAY l).length≤l.length:=by
 have:=ZIB l [];simp only[List.length_nil,Nat.zero_add] at this;exact this
theorem ZJj (l:List Int):∀o:List Int,∀x,x∈l.foldl ZDm o↔x∈o∨x∈l:=by
 induction l with
 | nil=>intro o x;simp
 | cons a l ih=>
  intro o x;rw[List.foldl_cons,ih];unfold ZDm
  by_cases h:o.contains a
  ·rw[if_pos h]
   have h':a∈o:=by simpa using h
   constructor
   ·rintro (h1|h1)
    ·exact Or.inl h1
    ·exact Or.inr (List.mem_cons_of_mem _ h1)
   ·rintro (h1|h1)
    ·exact Or.inl h1
    ·rcases List.mem_cons.1 h1 with rfl|h2
     ·exact Or.inl h'
     ·exact Or.inr h2
  ·rw[if_neg h]
   simp only[List.mem_append,List.mem_cons,List.not_mem_nil,or_false];exact or_assoc
theorem ZB7 {l:List Int} {x:Int}:x∈ZAY l↔x∈l:=by
 rw[ZAY,ZJj];simp
theorem ZJg {l:List Int} {k:Nat} (hk:k<l.length):ZAY (l.take (k+1))=ZDm (ZAY (l.take k)) l[k]:=by
 rw[List.take_succ_eq_append_getElem hk,ZAY,List.foldl_append];rfl
theorem ZAD (F:Fn):(toL F).length=F.bl.length:=by simp[toL]
def visit (s:List Bool×List Int) (n:Int):List Bool×List Int:=if s.1.getD n.toNat false then s else (s.1.set n.toNat true,s.2++[n])
def ZAS (tl:List (List Int)) (s:List Bool×List Int):List Bool×List Int:=(tl.getD (s.2.getLastD 0).toNat []).foldl visit (s.1,s.2.dropLast)
def ZA4 (tl:List (List Int)):Nat→List Bool×List Int→List Bool
 | 0,s=>s.1
 | f+1,s=>if s.2=[] then s.1 else ZA4 tl f (ZAS tl s)
def ZAQ (n:Nat):List Bool×List Int:=((List.replicate n false).set 0 true,[0])
def ZBj (tl:List (List Int)):List Bool:=ZA4 tl (2*tl.length+1) (ZAQ tl.length)
def unseen (l:List Bool):Nat:=l.countP (fun b=>!b)
theorem ZD1:∀(l:List Bool) (n:Nat),n<l.length→l.getD n false=false→unseen (l.set n true)+1=unseen l
 | [],n,h,_=>absurd h (by simp)
 | b::l,0,h,h2=>by
  have:b=false:=by simpa using h2
  subst this;simp[unseen]
 | b::l,n+1,h,h2=>by
  have:=ZD1 l n (by simpa using h) (by simpa using h2);unfold unseen at *;rw[List.set_cons_succ,List.countP_cons,List.countP_cons];omega
theorem ZI2 (l:List Bool):unseen l≤l.length:=List.countP_le_length
def meas (s:List Bool×List Int):Nat:=2*unseen s.1+s.2.length
theorem ZB1 (s:List Bool×List Int) (n:Int):(visit s n).1.length=s.1.length:=by
 unfold visit
 split<;>simp
theorem ZHr (s:List Bool×List Int) (n:Int) (h:n.toNat<s.1.length):meas (visit s n)≤meas s:=by
 unfold visit
 split
 ·exact Nat.le_refl _
 ·rename_i h2
  have:=ZD1 s.1 n.toNat h (by simpa using h2);simp[meas];omega
theorem ZC1 (l:List Int):∀s:List Bool×List Int,(∀n∈l,n.toNat<s.1.length)→meas (l.foldl visit s)≤meas s∧(l.foldl visit s).1.length=s.1.length:=by
 induction l with
 | nil=>intro s _;exact ⟨Nat.le_refl _,rfl⟩
 | cons a l ih=>
  intro s h;have h1:=ZHr s a (h a (List.mem_cons_self ..));have h2:=ih (visit s a) (fun n hn=>by rw[ZB1];exact h n (List.mem_cons_of_mem _ hn));rw[List.foldl_cons];exact ⟨Nat.le_trans h2.1 h1,by rw[h2.2,ZB1]⟩
def ToOk (tl:List (List Int)):Prop:=∀l∈tl,∀t∈l,0≤t∧t<(tl.length:Int)
theorem ZKG {tl:List (List Int)} (h:ToOk tl) (k:Nat):∀t∈tl.getD k [],0≤t∧t<(tl.length:Int):=by
 rcases Nat.lt_or_ge k tl.length with hl|hl
 ·have e:tl.getD k []=tl[k]:=by simp[hl]
  rw[e];exact h _ (List.getElem_mem hl)
 ·have e:tl.getD k []=[]:=by simp[hl]
  rw[e];intro t ht;cases ht
theorem ZB9 {tl:List (List Int)} (h:ToOk tl) (s:List Bool×List Int) (hl:s.1.length=tl.length) (hs:s.2≠[]):meas (ZAS tl s)<meas s∧(ZAS tl s).1.length=tl.length:=by
 have hm:=ZC1 (tl.getD (s.2.getLastD 0).toNat []) (s.1,s.2.dropLast) (fun n hn=>by
  have:=ZKG h _ n hn;simp[hl];omega)
 have h1:meas (s.1,s.2.dropLast)<meas s:=by
  have:0<s.2.length:=List.length_pos_iff.2 hs;simp[meas];omega
 exact ⟨Nat.lt_of_le_of_lt hm.1 h1,by rw[ZAS,hm.2];exact hl⟩
structure RInv (tl:List (List Int)) (s:List Bool×List Int):Prop where
 z:s.1.getD 0 false=true
 c:∀k:Nat,s.1.getD k false=true→(k:Int)∈s.2∨∀t∈tl.getD k [],s.1.getD t.toNat false=true
 d:∀t∈s.2,0≤t∧t<(tl.length:Int)∧s.1.getD t.toNat false=true
theorem getD_set {l:List Bool} {i j:Nat} (h:l.getD i false=true):(l.set j true).getD i false=true:=by
 simp only[List.getD_eq_getElem?_getD] at *
 by_cases e:j=i
 ·subst e
  rcases Nat.lt_or_ge j l.length with hl|hl
  ·simp[hl]
  ·rw[List.getElem?_eq_none (by simpa using hl)] at h;simp at h
 ·rw[List.getElem?_set_ne e];exact h
theorem ZD0 (s:List Bool×List Int) (n:Int) {i:Nat} (h:s.1.getD i false=true):(visit s n).1.getD i false=true:=by
 unfold visit
 split
 ·exact h
 ·exact getD_set h
theorem ZDz (s:List Bool×List Int) (n:Int) (hn:n.toNat<s.1.length):(visit s n).1.getD n.toNat false=true:=by
 unfold visit
 split
 ·assumption
 ·simp[hn]
theorem ZBo (l:List Int):∀s:List Bool×List Int,∀i:Nat,s.1.getD i false=true→(l.foldl visit s).1.getD i false=true:=by
 induction l with
 | nil=>intro s i h;exact h
 | cons a l ih=>intro s i h;rw[List.foldl_cons];exact ih _ i (ZD0 s a h)
theorem ZGM (l:List Int):∀s:List Bool×List Int,(∀n∈l,n.toNat<s.1.length)→∀t∈l,(l.foldl visit s).1.getD t.toNat false=true:=by
 induction l with
 | nil=>intro s _ t ht;cases ht
 | cons a l ih=>
  intro s h t ht;rw[List.foldl_cons];rcases List.mem_cons.1 ht with rfl|ht
  ·exact ZBo l _ _ (ZDz s t (h t (List.mem_cons_self ..)))
  ·exact ih (visit s a) (fun n hn=>by rw[ZB1];exact h n (List.mem_cons_of_mem _ hn)) t ht
theorem ZHo (n:Nat) (l:List Int):∀s:List Bool×List Int,s.1.length=n→(∀t∈l,0≤t∧t<(n:Int))→(∀t∈s.2,0≤t∧t<(n:Int)∧s.1.getD t.toNat false=true)→
  (∀k:Nat,(l.foldl visit s).1.getD k false=true→s.1.getD k false=true∨(k:Int)∈(l.foldl visit s).2)∧(∀t∈s.2,t∈(l.foldl visit s).2)∧(∀t∈(l.foldl visit s).2,0≤t∧t<(n:Int)∧(l.foldl visit s).1.getD t.toNat false=true):=by
 induction l with
 | nil=>intro s _ _ h;exact ⟨fun k hk=>Or.inl hk,fun t ht=>ht,h⟩
 | cons a l ih=>
  intro s hl ha hd;rw[List.foldl_cons];have haa:=ha a (List.mem_cons_self ..);have hv:(∀k:Nat,(visit s a).1.getD k false=true→s.1.getD k false=true∨(k:Int)∈(visit s a).2)∧(∀t∈s.2,t∈(visit s a).2)∧(∀t∈(visit s a).2,0≤t∧t<(n:Int)∧(visit s a).1.getD t.toNat false=true):=by
   refine ⟨fun k hk=>?_,fun t ht=>?_,fun t ht=>?_⟩
   ·unfold visit at hk ⊢
    split at hk
    ·exact Or.inl hk
    ·rename_i h2
     rw[if_neg h2]
     by_cases e:a.toNat=k
     ·right
      rw[List.mem_append];right;rw[List.mem_singleton];omega
     ·left
      simp only[List.getD_eq_getElem?_getD] at *;rwa[List.getElem?_set_ne e] at hk
   ·unfold visit
    split
    ·exact ht
    ·exact List.mem_append_left _ ht
   ·have hm:t∈s.2∨t=a:=by
     unfold visit at ht
     split at ht
     ·exact Or.inl ht
     ·rcases List.mem_append.1 ht with h|h
      ·exact Or.inl h
      ·exact Or.inr (List.mem_singleton.1 h)
    rcases hm with h|rfl
    ·exact ⟨(hd t h).1,(hd t h).2.1,ZD0 s a (hd t h).2.2⟩
    ·exact ⟨haa.1,haa.2,ZDz s t (by omega)⟩
  obtain ⟨i1,i2,i3⟩:=ih (visit s a) (by rw[ZB1];exact hl) (fun t ht=>ha t (List.mem_cons_of_mem _ ht)) hv.2.2;refine ⟨fun k hk=>?_,fun t ht=>i2 t (hv.2.1 t ht),i3⟩;rcases i1 k hk with h|h
  ·rcases hv.1 k h with h|h
   ·exact Or.inl h
   ·exact Or.inr (i2 _ h)
  ·exact Or.inr h
theorem ZJR {tl:List (List Int)} (h:ToOk tl) {s:List Bool×List Int} (hl:s.1.length=tl.length) (hs:s.2≠[]) (hi:RInv tl s):RInv tl (ZAS tl s):=by
 have hlast:s.2=s.2.dropLast++[s.2.getLast hs]:=(List.dropLast_concat_getLast hs).symm;have hgl:s.2.getLastD 0=s.2.getLast hs:=by rw[List.getLastD_eq_getLast?,List.getLast?_eq_some_getLast hs];rfl
 have hok:=ZKG h (s.2.getLastD 0).toNat;have hdl:∀t∈s.2.dropLast,0≤t∧t<(tl.length:Int)∧s.1.getD t.toNat false=true:=fun t ht=>hi.d t (List.dropLast_subset _ ht);obtain ⟨n1,n2,n3⟩:=ZHo tl.length (tl.getD (s.2.getLastD 0).toNat []) (s.1,s.2.dropLast) hl hok hdl;refine ⟨ZBo _ _ 0 hi.z,fun k hk=>?_,n3⟩;rcases n1 k hk with h1|h1
 ·rcases hi.c k h1 with h2|h2
  ·rw[hlast,List.mem_append] at h2
   rcases h2 with h2|h2
   ·exact Or.inl (n2 _ h2)
   ·right
    intro t ht;have e:(s.2.getLastD 0).toNat=k:=by
     rw[List.mem_singleton] at h2;rw[hgl,←h2];omega
    exact ZGM _ _ (fun n hn=>by have:=hok n hn;simp[hl];omega) t (by rw[e];exact ht)
  ·exact Or.inr (fun t ht=>ZBo _ _ _ (h2 t ht))
 ·exact Or.inl h1
theorem ZEB {tl:List (List Int)} (h:ToOk tl):∀f (s:List Bool×List Int),s.1.length=tl.length→meas s≤f→RInv tl s→(ZA4 tl f s).length=tl.length∧(ZA4 tl f s).getD 0 false=true∧∀k:Nat,(ZA4 tl f s).getD k false=true→∀t∈tl.getD k [],(ZA4 tl f s).getD t.toNat false=true
 | 0,s,hl,hm,hi=>by
  have h0:s.2=[]:=by
   apply List.length_eq_zero_iff.1
   unfold meas at hm;omega
  refine ⟨hl,hi.z,fun k hk=>?_⟩;rcases hi.c k hk with h2|h2
  ·rw[h0] at h2;cases h2
  ·exact h2
 | f+1,s,hl,hm,hi=>by
  rw[ZA4]
  by_cases h0:s.2=[]
  ·rw[if_pos h0]
   refine ⟨hl,hi.z,fun k hk=>?_⟩;rcases hi.c k hk with h2|h2
   ·rw[h0] at h2;cases h2
   ·exact h2
  ·rw[if_neg h0]
   have:=ZB9 h s hl h0;exact ZEB h f _ this.2 (by omega) (ZJR h hl h0 hi)
theorem ZEC {tl:List (List Int)} (hn:0<tl.length):(ZAQ tl.length).1.length=tl.length∧meas (ZAQ tl.length)≤2*tl.length+1∧RInv tl (ZAQ tl.length):=by
 refine ⟨by simp[ZAQ],?_,?_,?_,?_⟩
 ·have h1:=ZI2 (ZAQ tl.length).1
  have h2:(ZAQ tl.length).1.length=tl.length:=by simp[ZAQ]
  have h3:(ZAQ tl.length).2.length=1:=rfl;unfold meas;omega
 ·simp[ZAQ,hn]
 ·intro k hk
  left
  have:k=0:=by
   rcases Nat.eq_zero_or_pos k with h|h
   ·exact h
   ·exfalso
    simp only[ZAQ,List.getD_eq_getElem?_getD] at hk;rw[List.getElem?_set_ne (by omega)] at hk;rw[List.getElem?_replicate] at hk
    split at hk<;>simp at hk
  rw[this];simp[ZAQ]
 ·intro t ht
  have:t=0:=by simpa[ZAQ] using ht
  subst this;exact ⟨by omega,by omega,by simp[ZAQ,hn]⟩
theorem ZJY {tl:List (List Int)} (h:ToOk tl) (hn:0<tl.length):(ZBj tl).length=tl.length∧(ZBj tl).getD 0 false=true∧∀k:Nat,(ZBj tl).getD k false=true→∀t∈tl.getD k [],(ZBj tl).getD t.toNat false=true:=by
 obtain ⟨h1,h2,h3⟩:=ZEC (tl:=tl) hn;exact ZEB h _ _ h1 h2 h3
end Go.Proofs.YtggmkofbikafhaaGreatDoor
