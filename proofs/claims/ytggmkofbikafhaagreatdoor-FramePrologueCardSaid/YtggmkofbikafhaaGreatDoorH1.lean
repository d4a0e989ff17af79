/- Walks and plain laws on the way to FramePrologue (P6, F7, F8, F6, F9, P7, H1). Conditions: those that each theorem states. -/
import Derived.Test.YtggmkofbikafhaaGreatDoorF5
set_option linter.unusedVariables false
set_option linter.unusedSimpArgs false
set_option maxRecDepth 100000
set_option maxHeartbeats 40000000
namespace Go.Proofs.YtggmkofbikafhaaGreatDoor
theorem ZEf {regs r:Int} {u m:Bool} (h:ZBL regs r u m=true) (h0:0≤r):r<regs:=by
 unfold ZBL at h
 split at h
 ·omega
 ·simp at h;omega
theorem regB_ge {regs r:Int} {u m:Bool} (h:ZBL regs r u m=true) : -1≤r:=by
 unfold ZBL at h
 split at h
 ·omega
 ·simp at h;omega
theorem ZDE {regs sl st:Int} {o:Op} (h:opB regs sl st o=true):(∀r∈o.a::o.b::o.ar,0≤r→r<regs)∧(0≤o.d→o.d<regs)∧-1≤o.d:=by
 unfold opB at h
 split at h
 ·cases h
 ·rename_i r hr
  simp only[Bool.and_eq_true,List.all_eq_true] at h;obtain ⟨h1,h2,h3,-,-,-,h7,-⟩:=h;refine ⟨fun x hx h0=>?_,fun h0=>ZEf h1 h0,regB_ge h1⟩;rcases List.mem_cons.1 hx with rfl|hx
  ·exact ZEf h2 h0
  ·rcases List.mem_cons.1 hx with rfl|hx
   ·exact ZEf h3 h0
   ·exact ZEf (h7 x hx) h0
theorem ZC7 {o:Op} {r:Int} (h:r∈reads o):r∈o.a::o.b::o.ar∧0≤r:=by
 unfold reads at h
 split at h
 ·have:=List.mem_filter.1 h
  exact ⟨this.1,by simpa using this.2⟩
 ·cases h
theorem reads_lt {o:Op} {r:Int} (h:r∈reads o):0≤r∧r<4096:=by
 have h0:=(ZC7 h).2;have hm:=(ZC7 h).1;unfold reads at h
 split at h
 ·rename_i ho
  exact ⟨h0,(ZDE ho).1 r hm h0⟩
 ·cases h
theorem ZJV (o:Op):(reads o).length≤o.ar.length+2:=by
 unfold reads
 split
 ·exact Nat.le_trans (List.length_filter_le _ _) (by simp)
 ·simp
end Go.Proofs.YtggmkofbikafhaaGreatDoor
namespace Go.Proofs.YtggmkofbikafhaaGreatDoor
open Go.RowKit
theorem ZGu {W W':World} {F:Nat→Prop} {v:Value} {l:List Int} (h:Ints W v l) (hk:ZE F W W') (hF:0<l.length→∀g,v.ownBlock=some g→¬F g):Ints W' v l:=by
 obtain ⟨A,cap,h1,h2,h3,h4⟩:=h;refine ⟨A,cap,h1,h2,h3,fun hn=>?_⟩;obtain ⟨g,off,e,hg,hc⟩:=h4 hn;refine ⟨g,off,e,Nat.lt_of_lt_of_le hg hk.size,fun j u hj=>(hk.cell (p:=⟨g,off+j,none⟩) hg (hF hn g ?_)).trans (hc j u hj)⟩;rw[h1,e];rfl
theorem ZGv {W:World} {v:Value} {l:List Int} (h:Ints W v l) (hn:0<l.length):∀g,v.ownBlock=some g→g<W.heap.size:=by
 intro g hg;obtain ⟨gg,off,cap,rfl,h2,h3,h4,h5⟩:=h.open_ hn
 cases hg
 exact h4
theorem back_any (F:Fn) (g gc:Nat) (ws sec:List Nat) (m:Nat) (o:Op) (av:Value) (w:World) (hm:F.rs.toNat=m) (hm2:m≤4096) (hs:SetAt w g ws m) (hc:SetAt w gc sec m) (hne:gc≠g) (ha:Ints w av o.ar) (hk:Zj w) (ht:o.tx.size≤maxLen) (hl:o.ar.length≤17592186044414) (hd:o.d<4096) (hg0:g≠3) (hav:0<o.ar.length→∀q,av.ownBlock=some q→q≠g) :
  Calls Tryz.prog 194 #[.pointer (some ⟨g,0,none⟩),opv o av,.pointer (some ⟨gc,0,none⟩)] w fun e w'=>e=.returned (.tuple #[])∧SetAt w' g (backP F sec ws o) m∧ZE (fun k=>k=g) w w':=by
 obtain ⟨A,c,rfl,h1,h2⟩:=ha.form;have hal:=ZN w (.cells (opA o (.slice A o.ar.length c)) 199);have HDR:=Zh (ZE2 g ws m o.d _ (hs.below hal) hd);have HBX:=Zh (Blk.new w 199 (opA o (.slice A o.ar.length c)));have hglt:=hs.lt;have HC:=Zh hc;have HA:=Zh (Za ha hk);have HAV:=Zh hav;have HRD:=Zh (fun W av' a b=>ZJW o av' W a b ht hl);have HJU:=Zh (fun W av' h=>ZJ2 o av' W h);have HRL:=Zh (fun (r:Int) (h:r∈reads o)=>reads_lt h);have HRN:=Zh (ZJV o);have HBP:=Zh (show backP F sec ws o=if ZBm o then ZAE ((reads o).foldl ZEE (ZAs ws o.d)) sec ((m+63) / 64) else (reads o).foldl ZEE (ZAs ws o.d) by rw[backP,nW,hm]);have HK0:=Zh ((ZE.refl (fun k=>k=g) w).alloc (.cells (opA o (.slice A o.ar.length c)) 199));clear ha hk hs hc hal ht hm hav;unfold opA at HDR HBX HK0;unfold opv at HRD HJU;unfold opv;go_enter Tryz.func194,Tryz.ntmps194
 go_wp2_with fail
 refine HDR.out.mono ?_;rintro e w1 ⟨rfl,hs1,hk1⟩;have hbx1:=HBX.out.keeps hk1 (by show ¬w.heap.size=g;omega);have hK1:=HK0.out.trans hk1 (fun _ _ h=>h);have f0:w1.cell? ⟨w.heap.size,0,none⟩=some (.int .i64 o.k):=(hbx1.cell 0).trans rfl;have f1:w1.cell? ⟨w.heap.size,1,none⟩=some (.int .i64 o.d):=(hbx1.cell 1).trans rfl;have f2:w1.cell? ⟨w.heap.size,2,none⟩=some (.int .i64 o.a):=(hbx1.cell 2).trans rfl;have f3:w1.cell? ⟨w.heap.size,3,none⟩=some (.int .i64 o.b):=(hbx1.cell 3).trans rfl;have f4:w1.cell? ⟨w.heap.size,4,none⟩=some (.int .i64 o.im):=(hbx1.cell 4).trans rfl;have f5:w1.cell? ⟨w.heap.size,5,none⟩=some (.string o.tx):=(hbx1.cell 5).trans rfl;have f6:w1.cell? ⟨w.heap.size,6,none⟩=some (.slice A o.ar.length c):=(hbx1.cell 6).trans rfl;have HR1:=Zh (HRD.out w1 (.slice A o.ar.length c) (ZGu HA.out.1 hK1 HAV.out) (HA.out.2.keeps hK1 (fun e=>hg0 e.symm)));have HS1:=Zh (Za hs1 (Za hbx1 hK1));clear hs1 hk1 hbx1 hK1 HDR HBX HRD HK0;go_wp2_with fail
 refine HR1.out.mono ?_;rintro e w2 ⟨⟨rv,rfl,hrv,hfr⟩,hb2⟩;obtain ⟨Ar,cr,rfl,q1,q2⟩:=hrv.form;unfold maxLen at q2;have HS2:=Zh (show SetAt w2 g (ZAs ws o.d) m∧ZE (fun k=>k=g) w w2∧Blk w2 w.heap.size 199 (opA o (.slice A o.ar.length c)) from ⟨HS1.out.1.below hb2,HS1.out.2.2.trans (ZC _ hb2) (fun _ _ h=>h),HS1.out.2.1.below hb2 HS1.out.2.1.lt⟩);have HRV:=Zh hrv;have HFR:=Zh (show ∀q,(Value.slice Ar (reads o).length cr).ownBlock=some q→¬q=g from fun q hq=>by
  have h5:=hfr q hq;have h6:=HS1.out.2.1.lt
  omega)
 obtain ⟨rs,hrs⟩:∃rs,reads o=rs:=⟨_,rfl⟩
 rw[hrs] at HRV HFR HBP HRL HRN q1;rw[hrs];clear hrv hfr hb2 f0 f1 f2 f3 f4 f5 f6 HS1 HR1 hrs;go_wp2_with fail
 go_loopw [15] (fun i wr=>∃j:Nat,j≤rs.length∧i=.int .i64 j∧Hid (SetAt wr g ((rs.take j).foldl ZEE (ZAs ws o.d)) m∧ZE (fun k=>k=g) w wr∧Blk wr w.heap.size 199 (opA o (.slice A o.ar.length c))∧Ints wr (.slice Ar rs.length cr) rs)) (fun i _=>rs.length-(intOf i).toNat)
 case atStart=>exact ⟨0,Nat.zero_le _,rfl,HS2.out.1,HS2.out.2.1,HS2.out.2.2,HRV.out⟩
 case round=>
  clear HS2 HRV;obtain ⟨j,hj,rfl,HW⟩:=hrel
  by_cases hjt:j<rs.length
  ·obtain ⟨gt,ot,ct,ea,t1,t2,tg,tc⟩:=HW.out.2.2.2.open_ (Nat.lt_of_le_of_lt (Nat.zero_le _) hjt)
   cases ea
   have c0:=tc j hjt;have htt:=HRL.out rs[j] (List.getElem_mem hjt);have hst:=ZCX ZEE rs (ZAs ws o.d) hjt;obtain ⟨t,ht⟩:∃t:Nat,rs[j]=(t:Int):=⟨rs[j].toNat,by omega⟩
   rw[ht] at c0 htt hst;have HPU:=Zh (ZHL g _ m t wr HW.out.1 (by omega));have HST:=Zh (show (rs.take (j+1)).foldl ZEE (ZAs ws o.d)=putW ((rs.take j).foldl ZEE (ZAs ws o.d)) t by rw[hst,ZEE,show ((t:Int)).toNat=t by omega]);clear tc htt hst ht;go_wp2_with fail
   refine HPU.out.mono ?_;rintro e w4 ⟨rfl,hs4,hk4⟩;have HN:=Zh (show SetAt w4 g ((rs.take (j+1)).foldl ZEE (ZAs ws o.d)) m∧ZE (fun k=>k=g) w w4∧Blk w4 w.heap.size 199 (opA o (.slice A o.ar.length c))∧Ints w4 (.slice (some ⟨gt,ot,none⟩) rs.length cr) rs from
    ⟨by rw[HST.out];exact hs4,HW.out.2.1.trans hk4 (fun _ _ h=>h),HW.out.2.2.1.keeps hk4 (by show ¬w.heap.size=g;omega),HW.out.2.2.2.keeps hk4 HFR.out⟩)
   clear hs4 hk4 HW HPU;go_wp2_with fail
   go_roundw
   case rel=>exact ⟨j+1,by omega,by go_num,HN.out⟩
   case measure=>simp[intOf];omega
  ·have hje:j=rs.length:=by omega
   subst hje;have HS:=Zh HW.out;rw[List.take_length] at HS;clear HW;have f0:wr.cell? ⟨w.heap.size,0,none⟩=some (.int .i64 o.k):=(HS.out.2.2.1.cell 0).trans rfl;have f1:wr.cell? ⟨w.heap.size,1,none⟩=some (.int .i64 o.d):=(HS.out.2.2.1.cell 1).trans rfl;have f2:wr.cell? ⟨w.heap.size,2,none⟩=some (.int .i64 o.a):=(HS.out.2.2.1.cell 2).trans rfl;have f3:wr.cell? ⟨w.heap.size,3,none⟩=some (.int .i64 o.b):=(HS.out.2.2.1.cell 3).trans rfl;have f4:wr.cell? ⟨w.heap.size,4,none⟩=some (.int .i64 o.im):=(HS.out.2.2.1.cell 4).trans rfl;have f5:wr.cell? ⟨w.heap.size,5,none⟩=some (.string o.tx):=(HS.out.2.2.1.cell 5).trans rfl;have f6:wr.cell? ⟨w.heap.size,6,none⟩=some (.slice A o.ar.length c):=(HS.out.2.2.1.cell 6).trans rfl;have HQ:=Zh (HJU.out wr (.slice A o.ar.length c) ⟨A,c,rfl⟩);obtain ⟨jb,hjb⟩:∃b,ZBm o=b:=⟨_,rfl⟩
   rw[hjb] at HQ HBP;clear hjb;go_wp2_with fail
   refine HQ.out.mono ?_;rintro e w4 ⟨rfl,hb4⟩;have HS4:=Zh (Za (HS.out.1.below hb4) (HS.out.2.1.trans (ZC (fun k=>k=g) hb4) (fun _ _ h=>h)));clear hb4
   cases jb with
   | false=>
    go_wp2_with fail
    go_end0
    exact ⟨rfl,by rw[HBP.out];exact HS4.out.1,HS4.out.2⟩
   | true=>
    have HJ:=Zh (ZCx g gc _ _ m m w4 HS4.out.1 (HC.out.keeps HS4.out.2 hne) hne hm2);go_wp2_with fail
    refine HJ.out.mono ?_;rintro e w5 ⟨rfl,hs5,hk5⟩;have HN:=Zh (Za hs5 (HS4.out.2.trans hk5 (fun _ _ h=>h)));clear hs5 hk5;go_wp2_with fail
    go_end0
    exact ⟨rfl,by rw[HBP.out];exact HN.out.1,HN.out.2⟩
def bkF (F:Fn) (sec:List Nat) (os:List Op) (s:List Nat):List Nat:=os.foldr (fun o s=>backP F sec s o) s
theorem bkF_step (F:Fn) (sec:List Nat) (os:List Op) (s:List Nat) {j:Nat} (hj:j<os.length):bkF F sec (os.drop j) s=backP F sec (bkF F sec (os.drop (j+1)) s) os[j]:=by
  rw[bkF,List.drop_eq_getElem_cons hj];rfl
theorem ZFd (gl gg:Nat) (F:Fn) (sv bv tov:Value) (gr:Nat) (inv:Value) (gs:List Nat) (ins:List (List Nat)) (sec:List Nat) (gc:Nat) (b:Nat) (hb:b<F.bl.length) (w:World) (h:ZG8 w gl gg F sv bv tov gr inv gs ins) (hc:SetAt w gc sec F.rs.toNat) :
    Calls Tryz.prog 190 #[.pointer (some ⟨gl,0,none⟩),.int .i64 b,.int .i64 0,.pointer (some ⟨gc,0,none⟩)] w fun e w'=>(∃g,e=.returned (.pointer (some ⟨g,0,none⟩))∧w.heap.size≤g∧SetAt w' g (pointP F ins sec b) F.rs.toNat)∧Below w.heap.size w w':=by
  have HL:=Zh h
  have HC:=Zh hc
  obtain ⟨-,hrs2⟩:=h.ok.rsN
  obtain ⟨g2,o2,c2,Ao,co,rfl,r1,r2,r3,r4⟩:=h.bl_ hb
  have l0:w.cell? ⟨gl,0,none⟩=some (.pointer (some ⟨gg,0,none⟩)):=(h.lb.cell 0).trans rfl
  have m4:w.cell? ⟨gg,4,none⟩=some (.slice (some ⟨g2,o2,none⟩) F.bl.length c2):=(h.gb.cell 4).trans rfl
  unfold maxLen at r2
  have HEN:=Zh (ZKV gl gg F sv _ tov gr inv gs ins b hb w h)
  have hmem:=List.getElem_mem hb
  have HX:=Zh (show (∀r∈exR (blk F b).x,0≤r∧r<4096) from fun r hr=>by
    rw[ZAc hb] at hr
    have:=ZHd (h.ok.ex _ hmem) r hr
    have:=h.ok.r1
    omega)
  have HO:=Zh (show ∀o∈(blk F b).os,o.d<4096∧o.ar.length≤17592186044414∧o.tx.size≤maxLen from fun o ho=>by
    rw[ZAc hb] at ho
    have h1:=ZDE (h.ok.op _ hmem o ho)
    have h2:=h.fi.sm.ar _ hmem o ho
    have h3:=h.ok.r1
    exact ⟨by rcases Int.lt_or_le o.d 0 with h5|h5
              · omega
              · have:=h1.2.1 h5;omega,h2.1,mx h2.2⟩)
  have HOL:=Zh (show (blk F b).os.length≤4096 from by rw[ZAc hb];exact h.ok.ol _ hmem)
  have HPT:=Zh (show pointP F ins sec b=bkF F sec (blk F b).os ((exR (blk F b).x).foldl ZEE (endP F ins b)) from rfl)
  have HEX:=Zh (fun w=>ZCC (blk F b).x w)
  obtain ⟨m,hm⟩:∃m,F.rs.toNat=m:=⟨_,rfl⟩
  have HM:=Zh hm
  have HKL:=Zh h.fi.ke.lt
  rw[hm] at HEN HC hrs2
  obtain ⟨bb,hbb⟩:∃bb,blk F b=bb:=⟨_,rfl⟩
  rw[hbb] at HX HO HOL HPT HEX r4
  obtain ⟨s0,s1,s2,s3,s4,s5,s6⟩:=r4
  have HS6:=Zh s6
  unfold exv at HEX
  clear h hc hm hmem hbb s6
  go_enter Tryz.func190,Tryz.ntmps190
  go_wp2_with fail
  refine HEN.out.mono ?_
  rintro e w1 ⟨⟨g,rfl,hge,hs1⟩,hb1⟩
  have y0:=(hb1.cell (p:=⟨gl,0,none⟩) (cell_lt l0)).trans l0
  have y4:=(hb1.cell (p:=⟨gg,4,none⟩) (cell_lt m4)).trans m4
  have x0:=(hb1.cell (p:=⟨g2,o2+b*6,none⟩) r3).trans s0
  have x1:=(hb1.cell (p:=⟨g2,o2+b*6+1,none⟩) r3).trans s1
  have x2:=(hb1.cell (p:=⟨g2,o2+b*6+2,none⟩) r3).trans s2
  have x3:=(hb1.cell (p:=⟨g2,o2+b*6+3,none⟩) r3).trans s3
  have x4:=(hb1.cell (p:=⟨g2,o2+b*6+4,none⟩) r3).trans s4
  have x5:=(hb1.cell (p:=⟨g2,o2+b*6+5,none⟩) r3).trans s5
  obtain ⟨gx,hgx⟩:∃gx,w1.heap.size=gx:=⟨_,rfl⟩
  have hal:=ZN w1 (.cells #[.slice Ao bb.os.length co,.int .i64 bb.x.k,.int .i64 bb.x.a,.int .i64 bb.x.d,.int .i64 bb.x.t,.int .i64 bb.x.e] 159)
  have hgg1:w.heap.size≤gx:=by rw[←hgx];exact hb1.size
  have HS2:=Zh (show SetAt (w1.alloc (.cells #[.slice Ao bb.os.length co,.int .i64 bb.x.k,.int .i64 bb.x.a,.int .i64 bb.x.d,.int .i64 bb.x.t,.int .i64 bb.x.e] 159)) g (endP F ins b) m∧Below w.heap.size w (w1.alloc (.cells #[.slice Ao bb.os.length co,.int .i64 bb.x.k,.int .i64 bb.x.a,.int .i64 bb.x.d,.int .i64 bb.x.t,.int .i64 bb.x.e] 159))∧Blk (w1.alloc (.cells #[.slice Ao bb.os.length co,.int .i64 bb.x.k,.int .i64 bb.x.a,.int .i64 bb.x.d,.int .i64 bb.x.t,.int .i64 bb.x.e] 159)) gx 159 #[.slice Ao bb.os.length co,.int .i64 bb.x.k,.int .i64 bb.x.a,.int .i64 bb.x.d,.int .i64 bb.x.t,.int .i64 bb.x.e] from
    ⟨hs1.below hal,hb1.trans (ZA hal hb1.size),by rw[←hgx];exact Blk.new _ _ _⟩)
  have hgne:gx≠g:=by have:=hs1.lt;omega
  clear hb1 hs1 hal HEN
  go_wp2_with fail
  refine (HEX.out _).mono ?_
  rintro e w2 ⟨⟨rv,v2,rfl,⟨hrv,hfr⟩,-⟩,hb2⟩
  obtain ⟨Ar,cr,rfl,q1,q2⟩:=hrv.form
  unfold maxLen at q2
  have HS3:=Zh (show SetAt w2 g (endP F ins b) m∧Below w.heap.size w w2∧Blk w2 gx 159 #[.slice Ao bb.os.length co,.int .i64 bb.x.k,.int .i64 bb.x.a,.int .i64 bb.x.d,.int .i64 bb.x.t,.int .i64 bb.x.e] from
    ⟨HS2.out.1.below hb2,HS2.out.2.1.trans (ZA hb2 HS2.out.2.1.size),HS2.out.2.2.below hb2 HS2.out.2.2.lt⟩)
  have HRV:=Zh hrv
  have HFR:=Zh (show ∀q,(Value.slice Ar (exR bb.x).length cr).ownBlock=some q→¬q=g from fun q hq=>by
    have h5:=hfr q hq
    have h6:=HS2.out.1.lt
    omega)
  obtain ⟨rs,hrs⟩:∃rs,exR bb.x=rs:=⟨_,rfl⟩
  rw[hrs] at HRV HFR HX HPT q1
  rw[hrs]
  clear hrv hfr hb2 x0 x1 x2 x3 x4 x5 HS2 hrs y0 y4
  go_wp2_with fail
  go_loopw [38] (fun i wr=>∃j:Nat,j≤rs.length∧i=.int .i64 j∧Hid (SetAt wr g ((rs.take j).foldl ZEE (endP F ins b)) m∧Below w.heap.size w wr∧Blk wr gx 159 #[.slice Ao bb.os.length co,.int .i64 bb.x.k,.int .i64 bb.x.a,.int .i64 bb.x.d,.int .i64 bb.x.t,.int .i64 bb.x.e]∧Ints wr (.slice Ar rs.length cr) rs)) (fun i _=>rs.length-(intOf i).toNat)
  case atStart=>exact ⟨0,Nat.zero_le _,rfl,HS3.out.1,HS3.out.2.1,HS3.out.2.2,HRV.out⟩
  case round=>
    clear HS3 HRV
    obtain ⟨j,hj,rfl,HW⟩:=hrel
    by_cases hjt:j<rs.length
    · obtain ⟨gt,ot,ct,ea,t1,t2,tg,tc⟩:=HW.out.2.2.2.open_ (Nat.lt_of_le_of_lt (Nat.zero_le _) hjt)
      cases ea
      have c0:=tc j hjt
      have htt:=HX.out rs[j] (List.getElem_mem hjt)
      have hst:=ZCX ZEE rs (endP F ins b) hjt
      obtain ⟨t,ht⟩:∃t:Nat,rs[j]=(t:Int):=⟨rs[j].toNat,by omega⟩
      rw[ht] at c0 htt hst
      have HPU:=Zh (ZHL g _ m t wr HW.out.1 (by omega))
      have HST:=Zh (show (rs.take (j+1)).foldl ZEE (endP F ins b)=putW ((rs.take j).foldl ZEE (endP F ins b)) t by rw[hst,ZEE,show ((t:Int)).toNat=t by omega])
      clear tc htt hst ht
      go_wp2_with fail
      refine HPU.out.mono ?_
      rintro e w4 ⟨rfl,hs4,hk4⟩
      have HN:=Zh (show SetAt w4 g ((rs.take (j+1)).foldl ZEE (endP F ins b)) m∧Below w.heap.size w w4∧Blk w4 gx 159 #[.slice Ao bb.os.length co,.int .i64 bb.x.k,.int .i64 bb.x.a,.int .i64 bb.x.d,.int .i64 bb.x.t,.int .i64 bb.x.e]∧Ints w4 (.slice (some ⟨gt,ot,none⟩) rs.length cr) rs from
        ⟨by rw[HST.out];exact hs4,HW.out.2.1.trans (hk4.toBelow HW.out.2.1.size (fun k hk=>by omega)),HW.out.2.2.1.keeps hk4 hgne,HW.out.2.2.2.keeps hk4 HFR.out⟩)
      clear hs4 hk4 HW HPU
      go_wp2_with fail
      go_roundw
      case rel=>exact ⟨j+1,by omega,by go_num,HN.out⟩
      case measure=>simp[intOf];omega
    · have hje:j=rs.length:=by omega
      subst hje
      have HS:=Zh HW.out
      rw[List.take_length] at HS
      clear HW
      have f0:wr.cell? ⟨gx,0,none⟩=some (.slice Ao bb.os.length co):=(HS.out.2.2.1.cell 0).trans rfl
      obtain ⟨s0',hs0'⟩:∃s,rs.foldl ZEE (endP F ins b)=s:=⟨_,rfl⟩
      rw[hs0'] at HS HPT
      clear hs0'
      have hol:=HOL.out
      have hw1:wrap64 ((bb.os.length:Int)-1)=(bb.os.length:Int)-1:=by
        unfold wrap64;omega
      go_wp2_with fail
      try rw[hw1]
      clear hw1
      go_loopw [15] (fun i wr=>∃j:Nat,j≤bb.os.length∧i=.int .i64 ((j:Int)-1)∧Hid (SetAt wr g (bkF F sec (bb.os.drop j) s0') m∧Below w.heap.size w wr∧Blk wr gx 159 #[.slice Ao bb.os.length co,.int .i64 bb.x.k,.int .i64 bb.x.a,.int .i64 bb.x.d,.int .i64 bb.x.t,.int .i64 bb.x.e])) (fun i _=>(intOf i+1).toNat)
      case atStart=>exact ⟨bb.os.length,Nat.le_refl _,rfl,by rw[List.drop_eq_nil_of_le (Nat.le_refl _)];exact HS.out.1,HS.out.2.1,HS.out.2.2.1⟩
      case round=>
        clear f0
        have HGE:=Zh hge
        obtain ⟨j,hj,rfl,HW⟩:=hrel
        cases j with
        | zero=>
          have HF:=Zh HW.out.1
          rw[List.drop_zero,←HPT.out] at HF
          go_wp2_with fail
          go_ret
          exact ⟨⟨_,rfl,HGE.out,by rw[HM.out];exact HF.out⟩,HW.out.2.1⟩
        | succ j=>
          have hej:(((j+1:Nat):Int)-1)=(j:Int):=by omega
          rw[hej]
          have hjl:j<bb.os.length:=by omega
          have f0:wr.cell? ⟨gx,0,none⟩=some (.slice Ao bb.os.length co):=(HW.out.2.2.cell 0).trans rfl
          obtain ⟨go_,oo,co',ea,t1,t2,tg,tc⟩:=HS6.out.open_ (Nat.lt_of_le_of_lt (Nat.zero_le _) hjl)
          cases ea
          obtain ⟨av,hcc⟩:=tc j hjl
          have hon:=HO.out bb.os[j] (List.getElem_mem hjl)
          have hst:=bkF_step F sec bb.os s0' hjl
          obtain ⟨o,ho⟩:∃o,bb.os[j]=o:=⟨_,rfl⟩
          rw[ho] at hcc hon hst
          obtain ⟨d0,d1,d2,d3,d4,d5,d6,dar⟩:=hcc
          have z0:=(HW.out.2.1.cell (p:=⟨go_,oo+j*7,none⟩) tg).trans d0
          have z1:=(HW.out.2.1.cell (p:=⟨go_,oo+j*7+1,none⟩) tg).trans d1
          have z2:=(HW.out.2.1.cell (p:=⟨go_,oo+j*7+2,none⟩) tg).trans d2
          have z3:=(HW.out.2.1.cell (p:=⟨go_,oo+j*7+3,none⟩) tg).trans d3
          have z4:=(HW.out.2.1.cell (p:=⟨go_,oo+j*7+4,none⟩) tg).trans d4
          have z5:=(HW.out.2.1.cell (p:=⟨go_,oo+j*7+5,none⟩) tg).trans d5
          have z6:=(HW.out.2.1.cell (p:=⟨go_,oo+j*7+6,none⟩) tg).trans d6
          have HBK:=Zh (back_any F g gc _ sec m o av wr HM.out hrs2 HW.out.1 (HC.out.below HW.out.2.1) (by have:=HC.out.lt;omega) (dar.below HW.out.2.1) (HL.out.fi.ke.below HW.out.2.1) hon.2.2 hon.2.1 hon.1 (by have:=HKL.out;omega) (fun hp q hq=>by have:=ZGv dar hp q hq;omega))
          have HST:=Zh hst
          have hge':(0:Int)≤(j:Int):=by omega
          have hw2:wrap64 ((j:Int)-1)=(j:Int)-1:=by
            unfold wrap64;omega
          unfold opv at HBK
          clear tc d0 d1 d2 d3 d4 d5 d6 dar hon hst ho
          go_wp2_with fail
          refine HBK.out.mono ?_
          rintro e w4 ⟨rfl,hs4,hk4⟩
          have HN:=Zh (show SetAt w4 g (bkF F sec (bb.os.drop j) s0') m∧Below w.heap.size w w4∧Blk w4 gx 159 #[.slice (some ⟨go_,oo,none⟩) bb.os.length co,.int .i64 bb.x.k,.int .i64 bb.x.a,.int .i64 bb.x.d,.int .i64 bb.x.t,.int .i64 bb.x.e] from
            ⟨by rw[HST.out];exact hs4,HW.out.2.1.trans (hk4.toBelow HW.out.2.1.size (fun k hk=>by omega)),HW.out.2.2.keeps hk4 hgne⟩)
          clear hs4 hk4 HW HBK
          go_wp2_with fail
          try rw[hw2]
          go_roundw
          case rel=>exact ⟨j,by omega,rfl,HN.out⟩
          case measure=>simp[intOf]
theorem ZD6 (gl gg:Nat) (F:Fn) (sv bv tov:Value) (gr:Nat) (inv:Value) (gs:List Nat) (ins:List (List Nat)) (w:World) (h:ZG8 w gl gg F sv bv tov gr inv gs ins) :
  Calls Tryz.prog 189 #[.pointer (some ⟨gl,0,none⟩)] w fun e w'=>(∃g,e=.returned (.pointer (some ⟨g,0,none⟩))∧w.heap.size≤g∧SetAt w' g (secP F ins F.bl.length) F.rs.toNat)∧Below w.heap.size w w':=by
 have HL:=Zh h;have hn1:=h.ok.b1;have hn2:=h.ok.b2;obtain ⟨hrs,hrs2⟩:=h.ok.rsN;obtain ⟨g2,o2,c2,Ao0,co0,rfl,r1,r2,r3,-⟩:=h.bl_ (b:=0) (by omega);have l0:w.cell? ⟨gl,0,none⟩=some (.pointer (some ⟨gg,0,none⟩)):=(h.lb.cell 0).trans rfl;have m2:w.cell? ⟨gg,2,none⟩=some (.int .i64 F.rs):=(h.gb.cell 2).trans rfl;have m4:w.cell? ⟨gg,4,none⟩=some (.slice (some ⟨g2,o2,none⟩) F.bl.length c2):=(h.gb.cell 4).trans rfl;obtain ⟨m,hm⟩:∃m,F.rs.toNat=m:=⟨_,rfl⟩
 rw[hrs,hm] at m2;have HM:=Zh hm;clear hrs;rw[hm] at hrs2;unfold maxLen at r2;have HNEW:=Zh (ZEY w m);have e2:=ZJ l0 (.cells (Tryz.zeroCells268.setIfInBounds 64 (.int .i64 (m:Int))) 268);have e4:=ZJ m4 (.cells (Tryz.zeroCells268.setIfInBounds 64 (.int .i64 (m:Int))) 268);clear h hm;go_enter Tryz.func189,Tryz.ntmps189
 go_wp2_with fail
 go_loopw [25] (fun i wr=>∃k:Nat,k≤F.bl.length∧i=.int .i64 k∧Hid (SetAt wr w.heap.size (secP F ins k) m∧Below w.heap.size w wr)) (fun i _=>F.bl.length-(intOf i).toNat)
 case atStart=>exact ⟨0,Nat.zero_le _,rfl,HNEW.out,ZN _ _⟩
 case round=>
  clear HNEW e2 e4;obtain ⟨k,hk,rfl,HW⟩:=hrel
  by_cases hlt:k<F.bl.length
  ·obtain ⟨g3,o3,c3,Ao,co,ea,-,-,-,hc⟩:=HL.out.bl_ hlt
   cases ea
   obtain ⟨s0,s1,s2,s3,s4,s5,-⟩:=hc;obtain ⟨bb,hbb⟩:∃bb,blk F k=bb:=⟨_,rfl⟩
   have HBB:=Zh hbb;rw[hbb] at s0 s1 s2 s3 s4 s5;have x0:=(HW.out.2.cell (p:=⟨g2,o2+k*6,none⟩) r3).trans s0;have x1:=(HW.out.2.cell (p:=⟨g2,o2+k*6+1,none⟩) r3).trans s1;have x2:=(HW.out.2.cell (p:=⟨g2,o2+k*6+2,none⟩) r3).trans s2;have x3:=(HW.out.2.cell (p:=⟨g2,o2+k*6+3,none⟩) r3).trans s3;have x4:=(HW.out.2.cell (p:=⟨g2,o2+k*6+4,none⟩) r3).trans s4;have x5:=(HW.out.2.cell (p:=⟨g2,o2+k*6+5,none⟩) r3).trans s5;have hal:=ZN wr (.cells #[.slice Ao bb.os.length co,.int .i64 bb.x.k,.int .i64 bb.x.a,.int .i64 bb.x.d,.int .i64 bb.x.t,.int .i64 bb.x.e] 159);have hB3:=HW.out.2.trans (ZA hal HW.out.2.size);have HS3:=Zh (HW.out.1.below hal);obtain ⟨rb,hrb,hrc⟩:=HL.out.rc.val k (by rw[HL.out.ok.rch.1];exact hlt);have hrlt:=HL.out.rc.lt;have y0:=(hB3.cell (p:=⟨gl,0,none⟩) (cell_lt l0)).trans l0;have m6:w.cell? ⟨gg,6,none⟩=some (.slice (some ⟨gr,0,none⟩) F.bl.length F.bl.length):=(HL.out.gb.cell 6).trans rfl;have y6:=(hB3.cell (p:=⟨gg,6,none⟩) (cell_lt m6)).trans m6;have yr:=(hB3.cell (p:=⟨gr,k,none⟩) hrlt).trans hrc;have HSEC:=Zh (show secP F ins (k+1)=if rb&&bb.x.k==4 then ZAE (secP F ins k) (ZAs (ins.getD bb.x.e.toNat Ze) bb.x.d) (nW F) else secP F ins k by rw[secP,secS,hbb,hrb]);have HB3:=Zh hB3;clear hbb hrb hrc hal hB3 s0 s1 s2 s3 s4 s5 HW
   cases rb with
   | false=>
    have HE:=Zh (show secP F ins (k+1)=secP F ins k by rw[HSEC.out];rfl);go_wp2_with fail
    go_roundw
    case rel=>exact ⟨k+1,by omega,by go_num,by rw[HE.out];exact HS3.out,HB3.out⟩
    case measure=>simp[intOf];omega
   | true=>
    cases hk4:(bb.x.k==4) with
    | false=>
     have HE:=Zh (show secP F ins (k+1)=secP F ins k by rw[HSEC.out,hk4];rfl);go_wp2_with fail
     go_roundw
     case rel=>exact ⟨k+1,by omega,by go_num,by rw[HE.out];exact HS3.out,HB3.out⟩
     case measure=>simp[intOf];omega
    | true=>
     have HE:=Zh (show secP F ins (k+1)=ZAE (secP F ins k) (ZAs (ins.getD bb.x.e.toNat Ze) bb.x.d) (nW F) by rw[HSEC.out,hk4];rfl);have hset:=ZE1 (HL.out.ok.ex _ (List.getElem_mem hlt)) (by rw[←ZAc hlt,HBB.out];exact eq_of_beq hk4)
     rw[←ZAc hlt,HBB.out] at hset
     obtain ⟨⟨-,hse⟩,-,⟨-,hsd⟩,-,-⟩:=hset;have hse0:0≤bb.x.e:=by have:=(ZE1 (HL.out.ok.ex _ (List.getElem_mem hlt)) (by rw[←ZAc hlt,HBB.out];exact eq_of_beq hk4)).1.1;rw[←ZAc hlt,HBB.out] at this;omega
     have htn:bb.x.e.toNat<F.bl.length:=by omega
     obtain ⟨g,⟨gi,oi,ci,rfl,u1,u2,u3,u4⟩,hs,-⟩:=HL.out.get htn;unfold maxLen at u2;have u6:w.cell? ⟨gl,1,none⟩=some (.slice (some ⟨gi,oi,none⟩) F.bl.length ci):=(HL.out.lb.cell 1).trans rfl;have y1:=(HB3.out.cell (p:=⟨gl,1,none⟩) (cell_lt u6)).trans u6;have yg:=(HB3.out.cell (p:=⟨gi,oi+bb.x.e.toNat,none⟩) u4).trans u3;rw[HM.out] at hs;have hd4:bb.x.d<4096:=by have:=HL.out.ok.r1;omega
     have HWI:=Zh (fun W (hb:Below w.heap.size w W)=>ZGK g _ m bb.x.d W (hs.below hb) hd4);have HJ:=Zh (fun W g2 os h1 h2 h3=>ZCx w.heap.size g2 (secP F ins k) os m m W h1 h2 h3 hrs2);have hnw:(m+63) / 64=nW F:=by rw[nW,HM.out]
     have HNW:=Zh hnw;clear u3 u6 hs hd4 hnw HSEC;go_wp2_with fail
     go_region_with (first
      | (go_at_call 192;refine (HWI.out _ ?_).mono ?_;(first|exact HB3.out|exact ZA7 HB3.out);rintro e w4 ⟨⟨g',rfl,hge,hs4⟩,hb4⟩)
      | (go_at_call 164;(refine (HJ.out w4 g' _ (by first|exact HS3.out.below hb4|exact HS3.out.drew.below hb4) hs4 (by have:=HS3.out.lt;(first|omega|(simp only[World.size_drew] at hge;omega)))).mono ?_;rintro e w5 ⟨rfl,hs5,hk5⟩)))
     all_goals
      have hB4:Below w.heap.size w w4:=(ZA7 HB3.out).trans (ZA hb4 HB3.out.size);have HN:=Zh (show SetAt w5 w.heap.size (secP F ins (k+1)) m∧Below w.heap.size w w5 from ⟨by rw[HE.out,←HNW.out];exact hs5,hB4.trans (hk5.toBelow hB4.size (fun k hk=>by omega))⟩);clear hs5 hk5 hB4 hb4 hge hs4;go_wp2_with fail
      go_roundw
      case rel=>exact ⟨k+1,by omega,by go_num,HN.out⟩
      case measure=>simp[intOf];omega
  ·have hke:k=F.bl.length:=by omega
   subst hke;go_wp2_with fail
   go_ret;exact ⟨⟨_,rfl,Nat.le_refl _,by rw[HM.out];exact HW.out.1⟩,HW.out.2⟩
theorem und86:Tryz.prog.underlying 275=some (.slice 264):=by kernel_rfl
theorem inf91:(Tryz.prog.info? 264).map (fun i=>(i.zero,i.size,i.bytes))=some (some (.pointer none),1,8):=by kernel_rfl
theorem arowP:ZHl 275 264 1 8:=ZAy und86 inf91 rfl (by decide)
structure LvB (wb:World) (gg:Nat) (F:Fn) (sv bv tov:Value) (gr:Nat):Prop where
 gb:Blk wb gg 279 (grA F sv bv tov (.slice (some ⟨gr,0,none⟩) F.bl.length F.bl.length))
 to:ZF9 wb tov (toL F)
 rc:ZAH wb gr (ZEg F)
 fi:ZG9 wb F sv bv
 ok:ZEW F
structure LvS (wb:World) (gl gg:Nat) (k m:Nat) (inv:Value) (gs:List Nat) (ins:List (List Nat)) (W:World):Prop where
 lb:Blk W gl 277 #[.pointer (some ⟨gg,0,none⟩),inv]
 glb:wb.heap.size≤gl
 ow:W.ownsRow wb.heap.size 264 1 inv k (gs.map ptr)
 gn:gs.length=k
 il:ins.length=k
 st:∀i (h:i<gs.length) (h2:i<ins.length),SetAt W gs[i] ins[i] m
 nd:gs.Nodup
 gsb:∀g∈gs,wb.heap.size≤g
 be:Below wb.heap.size wb W
theorem LvS.below {wb W W':World} {gl gg k m:Nat} {inv:Value} {gs:List Nat} {ins:List (List Nat)} (h:LvS wb gl gg k m inv gs ins W) (hb:Below W.heap.size W W'):LvS wb gl gg k m inv gs ins W':=
 ⟨h.lb.below hb h.lb.lt,h.glb,ZB h.ow (ZC (fun _=>False) hb) (fun _ _=>id),h.gn,h.il,fun i a b=>(h.st i a b).below hb,h.nd,h.gsb,h.be.trans (ZA hb h.be.size)⟩
theorem LvS.at_ {wb W:World} {gl gg:Nat} {inv:Value} {gs:List Nat} {ins:List (List Nat)} {F:Fn} {sv bv tov:Value} {gr:Nat} (h:LvS wb gl gg F.bl.length F.rs.toNat inv gs ins W) (hB:LvB wb gg F sv bv tov gr):ZG8 W gl gg F sv bv tov gr inv gs ins:=
 ⟨h.lb,hB.gb.below h.be hB.gb.lt,hB.to.below h.be,hB.rc.below h.be,hB.fi.below h.be,RowOf.own h.ow,h.gn,h.il,h.st,h.nd,hB.ok⟩
theorem SetAt.kind {W:World} {g:Nat} {ws:List Nat} {m:Nat} {t:TypeId} {cs:Array Value} (h:SetAt W g ws m) (h2:Blk W g t cs):t=268:=by
 obtain ⟨c,hb,-⟩:=h.b;exact Blk.kind h2 hb
theorem LvS.join {wb W W':World} {gl gg k m:Nat} {inv:Value} {gs:List Nat} {ins:List (List Nat)} (h:LvS wb gl gg k m inv gs ins W) {b g:Nat} (hb:gs[b]? = some g) (hk:ZE (fun q=>q=g) W W') {new:List Nat} (hs:SetAt W' g new m):LvS wb gl gg k m inv gs (ins.set b new) W':=by
 have hbl:b<gs.length:=by
  rcases Nat.lt_or_ge b gs.length with h1|h1
  ·exact h1
  ·rw[List.getElem?_eq_none h1] at hb;cases hb
 have hge:gs[b]=g:=by rw[List.getElem?_eq_getElem hbl] at hb;exact Option.some.inj hb
 have hold:SetAt W g (ins[b]'(by rw[h.il,←h.gn];exact hbl)) m:=hge▸h.st b hbl (by rw[h.il,←h.gn];exact hbl);have hgl:¬gl=g:=fun e=>absurd (hold.kind (e▸h.lb)) (by decide);have hiv:∀q,inv.ownBlock=some q→¬q=g:=fun q hq e=>by
  obtain ⟨cur,hc⟩:=ZI h.ow hq;exact absurd (hold.kind (e▸hc)) (by decide)
 refine ⟨h.lb.keeps hk hgl,h.glb,ZB h.ow hk hiv,h.gn,by rw[List.length_set];exact h.il,fun i hi hi2=>?_,h.nd,h.gsb,h.be.trans (hk.toBelow h.be.size (fun q hq e=>?_))⟩
 ·rw[List.length_set] at hi2
  by_cases e:b=i
  ·subst e
   rw[List.getElem_set_self,hge];exact hs
  ·rw[List.getElem_set_ne e]
   refine (h.st i hi hi2).keeps hk (fun e2=>e ?_);have:=(List.getElem_inj h.nd).1 (hge.trans e2.symm:gs[b]=gs[i]);exact this
 ·have:=h.gsb g (by rw[←hge];exact List.getElem_mem hbl)
  omega
end Go.Proofs.YtggmkofbikafhaaGreatDoor
namespace Go.Proofs.YtggmkofbikafhaaGreatDoor
def tot (ws:List Nat):Nat:=(ws.map (fun x=>18446744073709551616-x)).sum
def totAll (ins:List (List Nat)):Nat:=(ins.map tot).sum
theorem ZGR {α:Type} (f:α→Nat):∀(l:List α) (k:Nat) (y:α) (h:k<l.length),((l.set k y).map f).sum+f l[k]=(l.map f).sum+f y
 | [],k,y,h=>absurd h (by simp)
 | a::l,0,y,h=>by simp;omega
 | a::l,k+1,y,h=>by
  have:=ZGR f l k y (by simpa using h);simp only[List.set_cons_succ,List.map_cons,List.sum_cons,List.getElem_cons_succ];omega
theorem ZFq (ws os:List Nat) (hl:ws.length=64) (hw:∀x∈ws,x<2^64):∀k,k≤64→tot (ZAE ws os k)+(if grewN ws os k then 1 else 0)≤tot ws
 | 0,_=>by simp[ZAE,grewN]
 | k+1,hk=>by
  have ih:=ZFq ws os hl hw k (by omega);have hkl:k<(ZAE ws os k).length:=by rw[ZFr,hl];omega
  have hs:=ZGR (fun x=>18446744073709551616-x) (ZAE ws os k) k (ws.getD k 0 ||| os.getD k 0) hkl;have hv:(ZAE ws os k)[k]=ws.getD k 0:=by
   have:=ZEw ws os k k (Nat.le_refl _)
   rw[←this];simp[hkl]
  rw[hv] at hs;have ha:ws.getD k 0<2^64:=by
   have hkw:k<ws.length:=by omega
   have e:ws.getD k 0=ws[k]:=by simp[hkw]
   rw[e];exact hw _ (List.getElem_mem hkw)
  have hle:ws.getD k 0≤ws.getD k 0 ||| os.getD k 0:=Nat.left_le_or;rw[ZAE,grewN];have hs2:tot ((ZAE ws os k).set k (ws.getD k 0 ||| os.getD k 0))+(18446744073709551616-ws.getD k 0)=tot (ZAE ws os k)+(18446744073709551616-(ws.getD k 0 ||| os.getD k 0)):=hs;generalize ws.getD k 0 ||| os.getD k 0=c at *;generalize ws.getD k 0=a at *;have ha':a<18446744073709551616:=by simpa using ha
  by_cases hc:c=a
  ·subst hc
   have e:(grewN ws os k || c != c)=grewN ws os k:=by rw[bne_self_eq_false,Bool.or_false]
   rw[e];omega
  ·have e:(grewN ws os k || c != a)=true:=by rw[bne_iff_ne.2 hc,Bool.or_true]
   rw[e,if_pos rfl]
   split at ih<;>omega
theorem ZGP (ins:List (List Nat)) (b:Nat) (hb:b<ins.length) (os:List Nat) (N:Nat) (hN:N≤64) (hl:(ins.getD b Ze).length=64) (hw:∀x∈ins.getD b Ze,x<2^64):totAll (ins.set b (ZAE (ins.getD b Ze) os N))+(if grewN (ins.getD b Ze) os N then 1 else 0)≤totAll ins:=by
 have h1:=ZFq _ os hl hw N hN;have h2:=ZGR tot ins b (ZAE (ins.getD b Ze) os N) hb;have e:ins[b]=ins.getD b Ze:=by simp[hb]
 rw[e] at h2;unfold totAll;omega
def okW (R:Nat) (ws:List Nat):Prop:=∀i j,(ws.getD i 0).testBit j=true→64*i+j<R
theorem ZDP {l:List Nat} {n i x:Nat}:(l.set n x).getD i 0=if n=i∧n<l.length then x else l.getD i 0:=by
 simp only[List.getD_eq_getElem?_getD,List.getElem?_set]
 by_cases h:n=i
 ·subst h
  by_cases h2:n<l.length<;>simp[h2]
 ·simp[h]
theorem ZEl (R:Nat):okW R Ze:=by
 intro i j h;have:Ze.getD i 0=0:=by
  unfold Ze;simp only[List.getD_eq_getElem?_getD,List.getElem?_replicate]
  split<;>rfl
 rw[this] at h;simp at h
theorem okW_put {R:Nat} {ws:List Nat} {n:Nat} (h:okW R ws) (hn:n<R):okW R (putW ws n):=by
 intro i j hj;unfold putW at hj;rw[ZDP] at hj
 split at hj
 ·rename_i hc
  obtain ⟨rfl,-⟩:=hc;rw[Nat.testBit_or] at hj;rcases Bool.or_eq_true _ _▸hj with h1|h1
  ·exact h _ j h1
  ·rw[Nat.testBit_two_pow] at h1
   have:n%64=j:=by simpa using h1
   omega
 ·exact h i j hj
theorem okW_and {R:Nat} {ws:List Nat} {k c:Nat} (h:okW R ws):okW R (ws.set k (ws.getD k 0 &&& c)):=by
 intro i j hj;rw[ZDP] at hj
 split at hj
 ·rename_i hc
  obtain ⟨rfl,-⟩:=hc;rw[Nat.testBit_and] at hj;exact h _ j (by simpa using (Bool.and_eq_true _ _▸hj).1)
 ·exact h i j hj
theorem ZEm {R:Nat} {ws:List Nat} {n:Int} (h:okW R ws):okW R (ZAs ws n):=by
 unfold ZAs
 split
 ·exact okW_and h
 ·exact h
theorem ZB6 {R:Nat} {ws os:List Nat} (h:okW R ws) (ho:okW R os):∀k,okW R (ZAE ws os k)
 | 0=>h
 | k+1=>by
  intro i j hj;rw[ZAE,ZDP] at hj
  split at hj
  ·rename_i hc
   obtain ⟨rfl,-⟩:=hc;rw[Nat.testBit_or] at hj;rcases Bool.or_eq_true _ _▸hj with h1|h1
   ·exact h _ j h1
   ·exact ho _ j h1
  ·exact ZB6 h ho k i j hj
def okI (R:Nat) (ins:List (List Nat)):Prop:=∀b,okW R (ins.getD b Ze)
theorem ZHQ {R:Nat} (l:List Int):∀s,okW R s→(∀r∈l,0≤r∧r<(R:Int))→okW R (l.foldl ZEE s):=by
 induction l with
 | nil=>intro s h _;exact h
 | cons a l ih=>
  intro s h hl;have:=hl a (List.mem_cons_self ..);rw[List.foldl_cons];exact ih _ (okW_put h (by omega)) (fun r hr=>hl r (List.mem_cons_of_mem _ hr))
theorem okW_ends {R:Nat} (F:Fn) (ins:List (List Nat)) (hi:okI R ins) (l:List Int):∀s,okW R s→okW R (l.foldl (ZDq F ins) s):=by
 induction l with
 | nil=>intro s h;exact h
 | cons a l ih=>intro s h;rw[List.foldl_cons];exact ih _ (ZB6 h (hi _) _)
theorem okW_end {R:Nat} (F:Fn) (ins:List (List Nat)) (hi:okI R ins) (b:Nat):okW R (endP F ins b):=by
 unfold endP;have:=okW_ends F ins hi (ZAY (exT (blk F b).x)) Ze (ZEl R)
 simp only
 split
 ·exact ZEm this
 ·exact this
theorem blk_ok {F:Fn} (h:ZEW F) (b:Nat):(∀r∈exR (blk F b).x,0≤r∧r<F.rs)∧∀o∈(blk F b).os,∀r∈reads o,0≤r∧r<F.rs:=by
 rcases Nat.lt_or_ge b F.bl.length with hb|hb
 ·have e:blk F b=F.bl[b]:=by simp[blk,hb]
  rw[e];have hm:=List.getElem_mem hb;refine ⟨ZHd (h.ex _ hm),fun o ho r hr=>?_⟩;have h1:=ZC7 hr;exact ⟨h1.2,(ZDE (h.op _ hm o ho)).1 r h1.1 h1.2⟩
 ·have e:blk F b=bl0:=by simp[blk,hb]
  rw[e];refine ⟨fun r hr=>by simp[bl0,exR] at hr,fun o ho=>by simp[bl0] at ho⟩
theorem okW_back {F:Fn} (h:ZEW F) {sec:List Nat} (hsec:okW F.rs.toNat sec) (os:List Op) (hos:∀o∈os,∀r∈reads o,0≤r∧r<F.rs):∀s,okW F.rs.toNat s→okW F.rs.toNat (os.foldr (fun o s=>backP F sec s o) s):=by
 induction os with
 | nil=>intro s hs;exact hs
 | cons o os ih=>
  intro s hs;rw[List.foldr_cons];have h1:=ih (fun o ho=>hos o (List.mem_cons_of_mem _ ho)) s hs;have h2:okW F.rs.toNat ((reads o).foldl ZEE (ZAs (os.foldr (fun o s=>backP F sec s o) s) o.d)):=
   ZHQ _ _ (ZEm h1) (fun r hr=>by have:=hos o (List.mem_cons_self ..) r hr;have:=h.rs0;omega)
  unfold backP
  simp only
  split
  ·exact ZB6 h2 hsec _
  ·exact h2
theorem ZJk {F:Fn} (h:ZEW F) {ins:List (List Nat)} (hi:okI F.rs.toNat ins) {sec:List Nat} (hsec:okW F.rs.toNat sec) (b:Nat):okW F.rs.toNat (pointP F ins sec b):=by
 obtain ⟨h1,h2⟩:=blk_ok h b;exact okW_back h hsec _ h2 _ (ZHQ _ _ (okW_end F ins hi b) (fun r hr=>by have:=h1 r hr;have:=h.rs0;omega))
theorem ZGj {F:Fn} {ins:List (List Nat)} (hi:okI F.rs.toNat ins):∀k,okW F.rs.toNat (secP F ins k)
 | 0=>ZEl _
 | k+1=>by
  unfold secP secS
  split
  ·exact ZB6 (ZGj hi k) (ZEm (hi _)) _
  ·exact ZGj hi k
theorem okI_set {R:Nat} {ins:List (List Nat)} (hi:okI R ins) {b:Nat} {ws:List Nat} (hw:okW R ws):okI R (ins.set b ws):=by
 intro c;have:(ins.set b ws).getD c Ze=if b=c∧b<ins.length then ws else ins.getD c Ze:=by
  simp only[List.getD_eq_getElem?_getD,List.getElem?_set]
  by_cases h:b=c
  ·subst h
   by_cases h2:b<ins.length<;>simp[h2]
  ·simp[h]
 rw[this]
 split
 ·exact hw
 ·exact hi c
theorem ZHR {F:Fn} (h:ZEW F) {sec:List Nat} (hsec:okW F.rs.toNat sec):∀k (st:List (List Nat)×Bool),okI F.rs.toNat st.1→okI F.rs.toNat (passP F sec k st).1
 | 0,st,hs=>hs
 | k+1,st,hs=>by
  rw[passP];refine ZHR h hsec k _ ?_;unfold passS
  split
  ·exact okI_set hs (ZB6 (hs _) (ZJk h hs hsec k) _)
  ·exact hs
theorem ZHS {F:Fn} (h:ZEW F):∀f ins,okI F.rs.toNat ins→okI F.rs.toNat (ZGp F f ins)
 | 0,ins,hi=>hi
 | f+1,ins,hi=>by
  rw[ZGp];have hr:okI F.rs.toNat (round F ins).1:=ZHR h (ZGj hi _) _ _ hi
  split
  ·exact ZHS h f _ hr
  ·exact hr
def ZIM (n:Nat):List (List Nat):=List.replicate n Ze
theorem okI_ins0 (R n:Nat):okI R (ZIM n):=by
 intro b;have:(ZIM n).getD b Ze=Ze:=by
  unfold ZIM;simp only[List.getD_eq_getElem?_getD,List.getElem?_replicate]
  split<;>rfl
 rw[this];exact ZEl R
def ZAx (F:Fn):List (List Nat):=ZGp F (totAll (ZIM F.bl.length)+1) (ZIM F.bl.length)
theorem liveL_ok {F:Fn} (h:ZEW F):okI F.rs.toNat (ZAx F):=ZHS h _ _ (okI_ins0 _ _)
end Go.Proofs.YtggmkofbikafhaaGreatDoor
namespace Go.Proofs.YtggmkofbikafhaaGreatDoor
open Go.RowKit
structure FdS (w:World) (wb:World) (F:Fn) (sv bv:Value) (gl gg:Nat) (m:Nat) (inv:Value) (gs:List Nat) (k:Nat) (W:World):Prop where
 s:LvS wb gl gg k m inv gs (ZIM k) W
 bx:Blk W w.heap.size 82 (fnA F sv bv)
 lt:∀g∈gs,g<W.heap.size
 bw:w.heap.size<wb.heap.size
 be:Below w.heap.size w W
theorem ZHY {k i:Nat} (h:i<(ZIM k).length):(ZIM k)[i]=Ze:=by simp[ZIM]
theorem FdS.grow {w wb W:World} {F:Fn} {sv bv:Value} {gl gg m:Nat} {inv:Value} {gs:List Nat} {k:Nat} (h:FdS w wb F sv bv gl gg m inv gs k W) (hk:k<4096) (ty:TypeId) :
  ∃v' W',(Builtin.append_ #[275,275] ty #[inv,.slice (some ⟨W.heap.size+1,0,none⟩) 1 1]).run Tryz.prog ((W.alloc (.cells (Tryz.zeroCells268.setIfInBounds 64 (.int .i64 (m:Int))) 268)).alloc (.cells #[.pointer (some ⟨W.heap.size,0,none⟩)] 264))=.ok v' W'∧
   (Blk W' gl 277 #[.pointer (some ⟨gg,0,none⟩),inv]∧(∃A c,v'=.slice A (k+1) c∧c≤maxLen∧k+1≤c)∧FdS w wb F sv bv gl gg m v' (gs++[W.heap.size]) (k+1) (W'.setCell ⟨gl,1,none⟩ v')):=by
 have ha:=below2 W (.cells (Tryz.zeroCells268.setIfInBounds 64 (.int .i64 (m:Int))) 268) (.cells #[.pointer (some ⟨W.heap.size,0,none⟩)] 264);have hsz:((W.alloc (.cells (Tryz.zeroCells268.setIfInBounds 64 (.int .i64 (m:Int))) 268)).alloc (.cells #[.pointer (some ⟨W.heap.size,0,none⟩)] 264)).heap.size=W.heap.size+2:=by simp[World.size_alloc]
 have h2:=h.s.below ha;have hset:SetAt ((W.alloc (.cells (Tryz.zeroCells268.setIfInBounds 64 (.int .i64 (m:Int))) 268)).alloc (.cells #[.pointer (some ⟨W.heap.size,0,none⟩)] 264)) W.heap.size Ze m:=(ZEY W m).below (ZN _ _);have hu:RowOf ((W.alloc (.cells (Tryz.zeroCells268.setIfInBounds 64 (.int .i64 (m:Int))) 268)).alloc (.cells #[.pointer (some ⟨W.heap.size,0,none⟩)] 264)) (.slice (some ⟨W.heap.size+1,0,none⟩) 1 1) 1 [ptr W.heap.size]:=by
  refine ⟨_,_,rfl,Nat.le_refl _,by decide,fun _=>⟨_,0,rfl,by rw[hsz];omega,fun j u hj=>?_⟩⟩;rw[Nat.zero_add,(ZY (w:=W.alloc (.cells (Tryz.zeroCells268.setIfInBounds 64 (.int .i64 (m:Int))) 268)) (n:=W.heap.size+1) (by simp[World.size_alloc]) 264 #[.pointer (some ⟨W.heap.size,0,none⟩)]).cell]
  simpa[ptr] using hj
 obtain ⟨v',W',e1,e2,e3,-⟩:=app_any arowP ty h2.ow hu rfl (fun y hy=>by obtain rfl:=List.mem_singleton.1 hy;rfl) (by unfold maxLen;omega) (by omega) h2.be.size;have hk0:ZE (fun q=>inv.ownBlock=some q) ((W.alloc (.cells (Tryz.zeroCells268.setIfInBounds 64 (.int .i64 (m:Int))) 268)).alloc (.cells #[.pointer (some ⟨W.heap.size,0,none⟩)] 264)) W':=(ZE.refl _ _).grown e3 (fun g hg=>Or.inr hg);have hne:∀ {q:Nat} {t:TypeId} {cs:Array Value},Blk ((W.alloc (.cells (Tryz.zeroCells268.setIfInBounds 64 (.int .i64 (m:Int))) 268)).alloc (.cells #[.pointer (some ⟨W.heap.size,0,none⟩)] 264)) q t cs→t≠264→¬inv.ownBlock=some q:=by
  intro q t cs hb ht e;obtain ⟨cur,hc⟩:=ZI h2.ow e;exact ht (Blk.kind hb hc)
 have hnes:∀ {q:Nat} {ws:List Nat},SetAt ((W.alloc (.cells (Tryz.zeroCells268.setIfInBounds 64 (.int .i64 (m:Int))) 268)).alloc (.cells #[.pointer (some ⟨W.heap.size,0,none⟩)] 264)) q ws m→¬inv.ownBlock=some q:=by
  intro q ws hs;obtain ⟨c,hb,-⟩:=hs.b;exact hne hb (by decide)
 have hlb:=h2.lb.keeps hk0 (hne h2.lb (by decide));have hiv:∀q,inv.ownBlock=some q→wb.heap.size≤q:=by
  intro q hq;rcases h2.ow.2 with ⟨rfl,_⟩|⟨g',cap,cur,rfl,hb,_⟩
  ·cases hq
  ·cases hq;exact hb
 have hb1:Below wb.heap.size wb W':=h2.be.trans (hk0.toBelow h2.be.size (fun q hq e=>by have:=hiv q e;omega));have hb2:Below w.heap.size w W':=(h.be.trans (ZA ha h.be.size)).trans (hk0.toBelow (by have:=h.be.size;rw[hsz];omega) (fun q hq e=>by have:=hiv q e;have:=h.bw;omega));have hkc:ZE (fun q=>q=gl) W' (W'.setCell ⟨gl,1,none⟩ v'):=(ZE.refl (fun q=>q=gl) W').setCell (p:=⟨gl,1,none⟩) (Or.inr rfl) _;have hgl:∀ {q:Nat} {ws:List Nat},SetAt W' q ws m→¬q=gl:=by
  intro q ws hs e;exact absurd (hs.kind (e▸hlb)) (by decide)
 have hv':∀q,v'.ownBlock=some q→¬q=gl:=by
  intro q hq e;obtain ⟨cur,hc⟩:=ZI e2 hq;exact absurd (Blk.kind hlb (e▸hc)) (by decide)
 have hform:=RowOf.form (RowOf.own e2);obtain ⟨A,c,hv,hc1,hc2⟩:=hform;have hlen:gs.length=k:=h.s.gn;have hgsW':W.heap.size+2≤W'.heap.size:=by have:=hk0.size;rw[hsz] at this;exact this
 refine ⟨v',W',e1,hlb,⟨A,c,hv,hc2,hc1⟩,⟨hlb.set_ 1 v',h2.glb,?_,by simp[hlen],by simp[ZIM],fun i hi hi2=>?_,?_,?_,Below.setC hb1 h2.glb _⟩,?_,?_,h.bw,Below.setC hb2 (by have:=h.bw;have:=h2.glb;omega) _⟩
 ·rw[List.map_append]
  exact ZB e2 hkc hv'
 ·rw[ZHY]
  by_cases hlt:i<gs.length
  ·rw[List.getElem_append_left hlt]
   have:=h2.st i hlt (by simp[ZIM];omega);rw[ZHY] at this;have h3:=this.keeps hk0 (hnes this);exact h3.keeps hkc (hgl h3)
  ·have:i=gs.length:=by simp at hi;omega
   subst this;rw[List.getElem_append_right (Nat.le_refl _)];simp only[Nat.sub_self,List.getElem_cons_zero];have h3:=hset.keeps hk0 (hnes hset);exact h3.keeps hkc (hgl h3)
 ·rw[List.nodup_append]
  refine ⟨h2.nd,by simp,fun a ha' b hb'=>?_⟩;have:=h.lt a ha';rw[List.mem_singleton] at hb';omega
 ·intro g hg
  rcases List.mem_append.1 hg with h1|h1
  ·exact h2.gsb g h1
  ·rw[List.mem_singleton] at h1
   have:=h.s.be.size;omega
 ·have hbx2:=h.bx.below ha h.bx.lt
  have h3:=hbx2.keeps hk0 (hne hbx2 (by decide));exact h3.far (by show w.heap.size≠gl;have:=h.bw;have:=h2.glb;omega) _
 ·intro g hg
  rw[World.size_setCell];rcases List.mem_append.1 hg with h1|h1
  ·have:=h.lt g h1;omega
  ·rw[List.mem_singleton] at h1;omega
end Go.Proofs.YtggmkofbikafhaaGreatDoor
