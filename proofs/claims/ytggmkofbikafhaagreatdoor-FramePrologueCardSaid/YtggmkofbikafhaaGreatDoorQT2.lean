/- Walks and plain laws on the way to FramePrologue (QT2). Conditions: those that each theorem states. -/
import Derived.Test.YtggmkofbikafhaaGreatDoorQT1
set_option linter.unusedVariables false
set_option linter.unusedSimpArgs false
set_option maxRecDepth 100000
set_option maxHeartbeats 40000000
namespace Go.Proofs.YtggmkofbikafhaaGreatDoor
open Go.RowKit Go.Lib
structure OkS (W0 W:World) (B bm gm gw:Nat) (iv:Value) (R:List Nat) (κ:Nat) (e:MSt):Prop where
 mm:MAt W bm gm iv (κ:Int) e
 be:Below B W0 W
 ww:Blk W gw 57 (R.map ZD2).toArray
theorem OkS.dn {W0 W:World} {B bm gm gw:Nat} {iv:Value} {R:List Nat} {κ:Nat} {e:MSt} (h:OkS W0 W B bm gm gw iv R κ e) (j:Nat):OkS W0 (W.drewN j) B bm gm gw iv R κ e:=⟨h.mm.below (ZM (Below.refl _ _) j),ZM h.be j,h.ww⟩
theorem OkS.bel {W0 W W':World} {B bm gm gw:Nat} {iv:Value} {R:List Nat} {κ:Nat} {e:MSt} (h:OkS W0 W B bm gm gw iv R κ e) (hb:Below W.heap.size W W') (hB:B≤bm):OkS W0 W' B bm gm gw iv R κ e:=⟨h.mm.below hb,h.be.trans (ZA hb (Nat.le_trans hB (Nat.le_of_lt h.mm.lt))),h.ww.below hb h.ww.lt⟩
theorem OkS.dr {W0 W:World} {B bm gm gw:Nat} {iv:Value} {R:List Nat} {κ:Nat} {e:MSt} (h:OkS W0 W B bm gm gw iv R κ e):OkS W0 W.drew B bm gm gw iv R κ e:=⟨h.mm.below (ZAO (Below.refl _ _)),ZAO h.be,h.ww⟩
theorem OkS.st {W0 W W':World} {B bm gm gw:Nat} {iv:Value} {R:List Nat} {κ:Nat} {e e':MSt} (h:OkS W0 W B bm gm gw iv R κ e) (hk:ZE (· = bm) W W') (hm:MAt W' bm gm iv (κ:Int) e') (hB:B≤bm):OkS W0 W' B bm gm gw iv R κ e':=
 ⟨hm,h.be.trans (hk.toBelow (Nat.le_trans hB (Nat.le_of_lt h.mm.lt)) (fun g hg e=>by omega)),h.ww.keeps hk (fun e=>by subst e;exact absurd (h.ww.kind h.mm.b) (by decide))⟩
def g4 (l:List Int) (r:List Nat):Nat→List Nat
 | 0=>r
 | k+1=>(g4 l r k).set (l.getD k 0).toNat 7
theorem g4_len (l:List Int) (r:List Nat):∀k,(g4 l r k).length=r.length
 | 0=>rfl
 | k+1=>by rw[g4,List.length_set,g4_len l r k]
theorem ZEx {r:List Nat} {i j x:Nat} (h:i≠j):(r.set i x).getD j 0=r.getD j 0:=by
 rw[List.getD_eq_getElem?_getD,List.getElem?_set_ne h,List.getD_eq_getElem?_getD]
theorem g4_at {l:List Int} {r:List Nat} {q:Nat}:∀k,(∀i,i<k→(l.getD i 0).toNat≠q)→(g4 l r k).getD q 0=r.getD q 0
 | 0,_=>rfl
 | k+1,h=>by rw[g4,ZEx (h k (by omega)),g4_at k (fun i hi=>h i (by omega))]
theorem ZJ8 {W:World} {A:Option Addr} {n c:Nat} {l:List Int} (h:RowOf W (.slice A n c) n (l.map (Value.int .i64))) (hl:l.length=n) {k:Nat} (hk:k<n):∃g off,A=some ⟨g,off,none⟩∧g<W.heap.size∧∀j,j<n→W.cell? ⟨g,off+j,none⟩=some (.int .i64 (l.getD j 0)):=by
 obtain ⟨g,off,cap,e,h2,h3,h4,h5⟩:=RowOf.open_ h (by omega);injection e with e1 e2 e3
 exact ⟨g,off,e1,h4,fun j hj=>h5 j _ (by simp[show j<l.length by omega])⟩
theorem ZDy {W:World} {gw:Nat} {R:List Nat} (h:Blk W gw 57 (R.map ZD2).toArray) (hl:R.length=16) {k:Nat} (hk:k<16):W.cell? ⟨gw,k,none⟩=some (.int .u32 (R.getD k 0:Nat)):=by
 refine h.cellq ?_;rw[List.getElem?_toArray,List.getElem?_map,List.getElem?_eq_getElem (by omega),List.getD_eq_getElem?_getD,List.getElem?_eq_getElem (by omega)]
 rfl
theorem tail_ok (w W0 X:World) (B q bm gm gw gc NS c8 c:Nat) (A8 A A2:Option Addr) (n2 c2:Nat) (iv:Value) (R:List Nat) (ns:List Area) (T Z Lk At n rm sp ans:Nat) (v1 v2:Int) (l Xb:List Int) (hL:Lay w W0 B q n NS c8 c A8 A Z Lk At T v1 v2 (.slice A2 n2 c2) l) (hS:SetUp W0 X B bm gm gw iv R ns T Z Lk At l n rm sp Xb) (hans:ans<4294967296) (hge:Z≤rm) (y0 y1 y5 y6 y7 y9 y10 y11 y12 y13 y14 y15 y16 y17 y19 y21 y22 y34 y35 y36 y37 y38 y39 y40 y41 y42 y43 y44 y45 y46 y47 y48 y49 y50 y51 y52 y53 y54 y55 y56 y57 y58 y59 y60 y61 y62 y63 y64 y65 y66 y67 y68 y69 y70 y71 y72 y73 y74 y75 y76 y77 y78 y79 y80 y81 y82 y83 y84 y85 y86 y87 y88 y89 y90 y91 y92 y93 y94 y95 y96 y97 y98 y99 y100 y101 y102 y103 y104 y105 y106 y107 y108 y109 y110 y111 y112 y113 y114 y115 y116 y117 y118 y119 y120 y121 y122 y123 y124 y125 y126 y127 y128 y129 y130 y131 y132 y133 y134 y135 y136 y137 y138 y139 y140 y141 y142 y143 y144 y145 y146 y147 y148 y149 y150 y151 y152 y153 y154 y155 y156 y157 y158 y159 y160 y161 y162 y163 y164 y165 y166 y167 y168 y169 y170 y171 y172 y173 y174 y175 y176 y177 y178 y179 y180 y181 y182 y183 y184 y185 y186 y187:Value) :
  Code.wp Tryz.prog restC (bodyPost Tryz.prog Tryz.f3 (Law25 w)) ⟨#[y0,y1,.int .i64 (rm:Int),.int .u32 (ans:Int),.pointer (some ⟨q,0,none⟩),y5,y6,y7,.bool false,y9,y10,y11,y12,y13,y14,y15,y16,y17,.slice A8 NS c8,y19,.pointer (some ⟨bm,0,none⟩),y21,y22,.int .u32 (sp:Int),.pointer (some ⟨gw,0,none⟩),.pointer (some ⟨gc,0,none⟩),undef,undef,undef,undef,undef,undef,undef,undef,y34,y35,y36,y37,y38,y39,y40,y41,y42,y43,y44,y45,y46,y47,y48,y49,y50,y51,y52,y53,y54,y55,y56,y57,y58,y59,y60,y61,y62,y63,y64,y65,y66,y67,y68,y69,y70,y71,y72,y73,y74,y75,y76,y77,y78,y79,y80,y81,y82,y83,y84,y85,y86,y87,y88,y89,y90,y91,y92,y93,y94,y95,y96,y97,y98,y99,y100,y101,y102,y103,y104,y105,y106,y107,y108,y109,y110,y111,y112,y113,y114,y115,y116,y117,y118,y119,y120,y121,y122,y123,y124,y125,y126,y127,y128,y129,y130,y131,y132,y133,y134,y135,y136,y137,y138,y139,y140,y141,y142,y143,y144,y145,y146,y147,y148,y149,y150,y151,y152,y153,y154,y155,y156,y157,y158,y159,y160,y161,y162,y163,y164,y165,y166,y167,y168,y169,y170,y171,y172,y173,y174,y175,y176,y177,y178,y179,y180,y181,y182,y183,y184,y185,y186,y187,undef,undef,undef,undef,undef,undef,undef,undef,undef,undef,undef,undef,undef,undef,undef,undef,undef,undef,undef,undef,undef,undef,undef,undef,undef,undef,undef,undef,undef,undef,undef,undef,undef,undef,undef,undef,undef,undef,undef,undef,undef,undef,undef,undef,undef,undef,undef,undef,undef,undef,undef,undef,undef,undef,undef,undef,undef,undef,undef,undef,undef,undef,undef,undef,undef,undef,undef,undef,undef,undef,undef,undef,undef,undef,undef,undef,undef,undef,undef,undef,undef,undef,undef,undef,undef,undef,undef,undef,undef,undef,undef,undef,undef,undef,undef,undef,undef,undef,undef,undef,undef,undef,undef,undef,undef,undef,undef,undef,undef,undef,undef,undef,undef,undef,undef,undef,undef,undef,undef,undef,undef,undef,undef,undef,undef,undef,undef,undef,undef,undef,undef,undef,undef,undef,undef,undef,undef,undef,undef,undef,undef,undef,undef,undef,undef,undef,undef,undef,undef,undef,undef,undef,undef,undef,undef,undef,undef,undef,undef,undef,undef,undef,undef,undef,undef,undef,undef,undef,undef,undef,undef,undef,undef,undef,undef,undef,undef,undef,undef,undef,undef,undef,undef,undef,undef,undef,undef,undef,undef,undef,undef,undef,undef,undef,undef,undef,undef,undef,undef,undef,undef,undef,undef,undef,undef,undef,undef,undef,undef,undef,undef,undef,undef,undef,undef,undef,undef,undef,undef,undef,undef,undef,undef,undef,undef,undef,undef,undef,undef,undef,undef,undef,undef,undef,undef,undef,undef,undef,undef,undef,undef,undef,undef,undef,undef,undef,undef,undef,undef,undef,undef,undef,undef,undef],[]⟩ X:=by
 obtain ⟨N,e,hN,hp,hP⟩:=pro_path (rg0:=R) (lnk:=4096+4*(13+2*n)) hS.fr hS.tx hS.rl hS.ru (by rw[hS.r13,hS.se]) hS.r12 hS.r14 hge ⟨R,4096,false,0,0,ns⟩ ⟨rfl,hS.km,List.length_replicate,hS.rl⟩;rw[hS.nn] at hp;unfold ProP at hP;rw[hS.nn] at hP;obtain ⟨st,hst⟩:∃st,4096+4*(8+n)=st:=⟨_,rfl⟩
 obtain ⟨sb,hsb⟩:∃sb,4096+T+(64+rm-Z)=sb:=⟨_,rfl⟩
 rw[hst] at hp hP;rw[hsb] at hP;have hstop:atY (Zr (ZBl n) T) (str nmM)=(st:Int):=by rw[at_mid,hst]
 have HSTOP:=Zh hstop;have HL0:=Zh (show LoopS W0 X B bm gm gw iv 0 st e R 0 N ⟨R,4096,false,0,0,ns⟩ from ⟨hS.mm,hS.be,hp,hS.ww,hS.ro,hS.bx⟩);have HL:=Zh hL;have HS:=Zh hS;have HP:=Zh hP;have HSB:=Zh hsb;have hZl:(Z:Int)≤(rm:Int):=by omega
 have hZ4:Z≤4096:=hS.fr.z2;have hrl:=hS.fr.rl;have htl:=hS.fr.tl;have hse:=hS.se;have hsbsp:sb+Z=sp:=by omega
 have hspl:sp<4294967296:=by omega
 have HNN:=Zh (Za hse hsbsp);clear hL hS hst hstop hp hP hsb hse hsbsp
 conv=>arg 2;whnf
 go_upto_region 36 with fail
 go_loopw [26] (fun v W=>∃(i m:Nat) (s:MSt),i+m≤60∧v=.int .i64 i∧Hid (LoopS W0 W B bm gm gw iv 0 st e R i m s)) (fun v _=>64-(Go.RowKit.intOf v).toNat)
 case atStart=>exact ⟨0,N,_,by omega,rfl,HL0.out⟩
 case round=>
  clear HL0;obtain ⟨i,m,s,him,rfl,HLO⟩:=hrel;have hi64:(i:Int)<64:=by omega
  have HQ:=Zh (fun j=>HL.out.at_ (wr.drewN j) (ZM HLO.out.be j) (str nmM));rw[HSTOP.out] at HQ
  match m,HLO with
  | m+1,HLO=>
   obtain ⟨⟨hov,hpc⟩,s',hst,hpa⟩:=HLO.out.p;have HST:=Zh hst;have HPA:=Zh hpa;have t22:=HLO.out.mm.ov;have t17:=HLO.out.mm.pc;rw[hov] at t22;obtain ⟨pc,hpce⟩:∃pc,s.pc=pc:=⟨_,rfl⟩
   rw[hpce] at t17 hpc;have hne:((pc:Int) != (st:Int))=true:=by
    have:¬(pc:Int)=(st:Int):=by omega
    simpa using this
   have hne2:((pc:Int)==(st:Int))=false:=by
    have:¬(pc:Int)=(st:Int):=by omega
    simpa using this
   clear hst hpa hov hpc hpce;go_wp2_with fail
   go_quiet (exact Calls.quiet_of_same (HQ.out _))
   clear t22 t17 hne hne2 HQ;have HLD:=Zh (show LoopS W0 (wr.drewN nq) B bm gm gw iv 0 st e R i (m+1) s from ⟨HLO.out.mm.below (ZM (Below.refl _ _) nq),ZM HLO.out.be nq,HLO.out.p,HLO.out.ww,HLO.out.r,HLO.out.bx⟩);clear HLO;generalize wr.drewN nq=V at HLD ⊢;go_wp2_with fail
   refine (HST.out B bm gm iv _ V HLD.out.mm (by have:=hi64;omega) HS.out.bB HLD.out.r HLD.out.bx).mono ?_;intro E W' hpost;obtain ⟨v,rfl⟩:=hpost.1;have HN:=Zh (HLD.out.step HPA.out hpost);clear hpost HLD HST HPA;go_wp2_with fail
   go_roundw
   case rel=>exact ⟨i+1,m,s',by omega,by go_num,HN.out⟩
   case measure=>first|(simp[Go.RowKit.intOf];done)|(simp[Go.RowKit.intOf];omega)
  | 0,HLO=>
   obtain ⟨rfl,-⟩:=HLO.out.p;obtain ⟨Y1,hpm,hkept⟩:=HP.out;have t22:=HLO.out.mm.ov;have t17:=HLO.out.mm.pc;obtain ⟨nse,hnse⟩:∃nse,s.ns=nse:=⟨_,rfl⟩
   have hee:=hpm.e;have hkm:=hpm.k;rw[hnse] at hee hkm;subst hee;have HKM:=Zh (Za hkm (Za hpm.y hkept));dsimp only at t22 t17;clear hpm hkept hkm hnse;go_wp2_with fail
   go_quiet (exact Calls.quiet_of_same (HQ.out _))
   clear t22 t17 HQ;have HV:=Zh ((show OkS W0 wr B bm gm gw iv R (0+i) ⟨r3 R Z sb,st,false,0,0,nse⟩ from ⟨HLO.out.mm,HLO.out.be,HLO.out.ww⟩).dn nq);have HRO:=Zh (show ∀g∈rowsOf nse,B≤g from HLO.out.r);clear HLO;generalize wr.drewN nq=V at HV ⊢;have x0:V.cell? ⟨q,0,none⟩=some (.int .i64 (Z:Int)):=(HL.out.xx V HV.out.be).cellq rfl;have HQ2:=Zh (fun j=>HL.out.at_ (V.drewN j) (ZM HV.out.be j) (str nmM));rw[HSTOP.out] at HQ2;have t22:=HV.out.mm.ov;have t17:=HV.out.mm.pc;have c13:V.cell? ⟨bm,14,none⟩=some (.int .u32 ((r3 R Z sb).getD 13 0:Nat)):=HV.out.mm.reg (i:=13) (by decide);have c12:V.cell? ⟨bm,13,none⟩=some (.int .u32 ((r3 R Z sb).getD 12 0:Nat)):=HV.out.mm.reg (i:=12) (by decide);have d12:=ZDy HV.out.ww HS.out.rl (k:=12) (by decide);rw[ZDl HS.out.rl,if_pos rfl] at c13;rw[ZDl HS.out.rl,if_neg (by decide),if_neg (by decide)] at c12;dsimp only at t22 t17;obtain ⟨R12,hR12⟩:∃x,R.getD 12 0=x:=⟨_,rfl⟩
   rw[hR12] at c12 d12;have e1:IntKind.u32.wrap (Z:Int)=(Z:Int):=by rw[IntKind.wrap_u32];omega
   have e2:IntKind.u32.wrap ((sp:Int)-(Z:Int))=(sb:Int):=by rw[IntKind.wrap_u32];have:=HNN.out.2;omega
   clear hR12;go_wp2_with fail
   go_quiet (exact Calls.quiet_of_same (HQ2.out _))
   clear t22 t17 c13 c12 d12 e1 e2 x0 HQ2;have HV4:=Zh (HV.out.dn nq);clear HV;generalize V.drewN nq=V4 at HV4 ⊢;go_upto_region 45 with fail
   go_loopw [29] (fun v W=>∃k:Nat,k≤12∧v=.int .i64 k∧Hid (OkS W0 W B bm gm gw iv R (0+i) ⟨r3 R Z sb,st,false,0,0,nse⟩)) (fun v _=>12-(Go.RowKit.intOf v).toNat)
   case atStart=>exact ⟨0,by omega,rfl,HV4.out⟩
   case round=>
    clear HV4;obtain ⟨k,hk,rfl,HK⟩:=hrel
    by_cases hlt:k<12
    ·have hltI:(k:Int)<12:=by omega
     have hk16:(k:Int)<16:=by omega
     have hk16N:k<16:=by omega
     have c1:=HK.out.mm.reg (i:=k) hk16N;have d1:=ZDy HK.out.ww HS.out.rl (k:=k) hk16N;dsimp only at c1;rw[ZDl HS.out.rl,if_neg (by omega),if_neg (by omega)] at c1;obtain ⟨Rk,hRk⟩:∃x,R.getD k 0=x:=⟨_,rfl⟩
     rw[hRk] at c1 d1;clear hRk;go_wp2_with fail
     go_quiet (fail)
     clear c1 d1;have HK2:=Zh (HK.out.dn nq);clear HK;generalize wr.drewN nq=V5 at HK2 ⊢;go_wp2_with fail
     go_roundw
     case rel=>exact ⟨k+1,by omega,by go_num,HK2.out⟩
     case measure=>first|(simp[Go.RowKit.intOf];done)|(simp[Go.RowKit.intOf];omega)
    ·have hk12:k=12:=by omega
     subst hk12;clear hlt hk;have x0:wr.cell? ⟨q,0,none⟩=some (.int .i64 (Z:Int)):=(HL.out.xx wr HK.out.be).cellq rfl;have x4:wr.cell? ⟨q,4,none⟩=some (.int .i64 (Lk:Int)):=(HL.out.xx wr HK.out.be).cellq rfl;have d14:=ZDy HK.out.ww HS.out.rl (k:=14) (by decide);obtain ⟨bk,hbk⟩:∃bk,4096+4*(13+2*n)=bk:=⟨_,rfl⟩
     have hr14:=HS.out.r14;rw[hbk] at hr14;have HR14:=Zh (Za hbk hr14);rw[hr14] at d14;have hkz:=HS.out.fr.kz;have hk4:=HS.out.fr.k4;have hz16:=HS.out.fr.z16;have ht16:=HS.out.fr.t16;have hr16:=HS.out.fr.r16;have hsb0:=HSB.out;have hn2:=HNN.out;have e1:IntKind.i64.wrap (sp:Int)=(sp:Int):=IntWalk.i64_in _ (by omega);have e2:IntKind.i64.wrap ((sp:Int)-(Z:Int))=(sb:Int):=by rw[IntWalk.i64_in _ (by omega)];omega
     have e3:IntKind.i64.wrap ((sb:Int)+(Lk:Int))=((sb+Lk:Nat):Int):=by rw[IntWalk.i64_in _ (by omega)];omega
     have HLD:=Zh (show loadR nse ((sb+Lk:Nat):Int) 4=((bk:Int),0) from by
      rw[HKM.out.1.load (p:=sb+Lk) (o:=64+rm-Z+Lk) (by omega) (by omega) (by omega) HKM.out.2.1,HKM.out.2.2.lk,hbk])
     have hal:=HKM.out.1.all HKM.out.2.2.i0 HKM.out.2.1;have HALL:=Zh (show InG (ZBY nse) (sb:Int) (sp:Int)∧(ZBY nse).length≤1000000 from by
      have e9:((4096+T+(64+rm-Z):Nat):Int)=(sb:Int):=by omega
      have e8:((4096+T+(64+rm):Nat):Int)=(sp:Int):=by omega
      rw[e9,e8] at hal;exact ⟨hal.1,by have:=hal.2;omega⟩)
     obtain ⟨ha,hha⟩:∃ha,sb+Lk=ha:=⟨_,rfl⟩
     have hal2:ha≤1000000000:=by omega
     have hspl2:sp≤1000000000:=by omega
     rw[hha] at HLD e3;have HB9:=Zh (Za hal2 hspl2);clear hbk hr14 hkz hk4 hz16 ht16 hr16 hsb0 hn2 hal hha hal2 hspl2;go_upto_region 49 with fail
     go_wp2_with fail
     refine (ZDO bm gm iv _ _ ha bk wr HK.out.mm HB9.out.1 HLD.out).mono ?_;rintro E V6 ⟨rfl,hb6⟩;have HK6:=Zh (HK.out.bel hb6 HS.out.bB);clear HK hb6 HLD x0 x4 d14 e3 e2;go_wp2_with fail
     refine (ZCd bm gm iv _ _ sb sp V6 HK6.out.mm HB9.out.2 HALL.out.1 HALL.out.2).mono ?_;rintro E V7 ⟨rfl,hb7⟩;have HK7:=Zh (HK6.out.bel hb7 HS.out.bB);clear HK6 hb7 e1;go_upto_region 53 with fail
     go_loopw [31] (fun v W=>∃k:Nat,k≤n∧v=.int .i64 k∧Hid (OkS W0 W B bm gm gw iv R (0+i) ⟨g4 l (r3 R Z sb) k,st,false,0,0,nse⟩)) (fun v _=>n-(Go.RowKit.intOf v).toNat)
     case atStart=>exact ⟨0,by omega,rfl,HK7.out⟩
     case round=>
      clear HK7;obtain ⟨k,hk,rfl,HK⟩:=hrel;have x6:wr.cell? ⟨q,6,none⟩=some (.slice A n c):=(HL.out.xx wr HK.out.be).cellq rfl
      by_cases hlt:k<n
      ·have hltI:(k:Int)<(n:Int):=by omega
       obtain ⟨lk,hlk⟩:∃x,(l.getD k 0).toNat=x:=⟨_,rfl⟩
       have hl1:=HS.out.fr.l1 k (by rw[HS.out.nn];exact hlt);have hlv:=HS.out.lv k hlt;rw[hlk] at hl1 hlv;obtain ⟨gx,off,hA,hg,hc⟩:=ZJ8 (HL.out.ll wr HK.out.be) HS.out.nn hlt;have hc:=hc k hlt;rw[hlv] at hc;subst hA;have x3:wr.cell? ⟨q,3,none⟩=some (.int .i64 (At:Int)):=(HL.out.xx wr HK.out.be).cellq rfl;have d1:=ZDy HK.out.ww HS.out.rl (k:=lk) (by omega);obtain ⟨Rl,hRl⟩:∃x,R.getD lk 0=x:=⟨_,rfl⟩
       rw[hRl] at d1;have hn7:=HS.out.fr.n;rw[HS.out.nn] at hn7;have hkz:=HS.out.fr.az;rw[HS.out.nn] at hkz;have hk4:=HS.out.fr.a4;have hz16:=HS.out.fr.z16;have ht16:=HS.out.fr.t16;have hr16:=HS.out.fr.r16;have hsb0:=HSB.out;have hn2:=HNN.out;have e1:IntKind.i64.wrap ((sb:Int)+(At:Int))=((sb+At:Nat):Int):=by rw[IntWalk.i64_in _ (by omega)];omega
       have e2:IntKind.i64.wrap (4*(k:Int))=((4*k:Nat):Int):=by rw[IntWalk.i64_in _ (by omega)];omega
       obtain ⟨ha,hha⟩:∃ha,sb+At+4*k=ha:=⟨_,rfl⟩
       have e3:IntKind.i64.wrap (((sb+At:Nat):Int)+((4*k:Nat):Int))=(ha:Int):=by rw[IntWalk.i64_in _ (by omega)];omega
       have HLD:=Zh (show loadR nse (ha:Int) 4=((Rl:Int),0) from by
        rw[HKM.out.1.load (p:=ha) (o:=64+rm-Z+At+4*k) (by omega) (by omega) (by omega) HKM.out.2.1,HKM.out.2.2.sv k hlt,hlk,hRl])
       have hal2:ha≤1000000000:=by omega
       have hk7:k<8:=by omega
       have hlkI:(lk:Int)<16:=by omega
       have hlkN:lk<16:=by omega
       have HHO:=Zh (fun W (hk:OkS W0 W B bm gm gw iv R (0+i) ⟨g4 l (r3 R Z sb) k,st,false,0,0,nse⟩)=>ZDO bm gm iv _ _ ha Rl W hk.mm hal2 HLD.out);obtain ⟨u1,hu1⟩:∃u,sb+At=u:=⟨_,rfl⟩
       obtain ⟨u2,hu2⟩:∃u,4*k=u:=⟨_,rfl⟩
       rw[hu1] at e1 e3;rw[hu2] at e2 e3;have HG4:=Zh (show g4 l (r3 R Z sb) (k+1)=(g4 l (r3 R Z sb) k).set lk 7 from by rw[g4,hlk]);clear hu1 hu2 hha hlk hlv hRl hn7 hkz hk4 hz16 ht16 hr16 hsb0 hn2 hl1;go_wp2_with fail
       refine wp_region_held_drew (S:=(fun W=>W.cell? ⟨q,3,none⟩=some (.int .i64 (At:Int))∧W.cell? ⟨q,6,none⟩=some (.slice (some ⟨gx,off,none⟩) n c)∧W.cell? ⟨gx,off+k,none⟩=some (.int .i64 (lk:Int))∧W.cell? ⟨gw,lk,none⟩=some (.int .u32 (Rl:Int)))) (by kernel_rfl) ?_ (fun hHeld=>?_)
       ·exact ⟨x3,x6,hc,d1⟩
       have HKd:=Zh HK.out.dr;clear x3 hc d1 x6 HK;generalize wr.drew=V5 at HKd hHeld ⊢;refine FU 17 rfl ?_;iterate 15 (refine TN 17 rfl ?_;try simp only[AP,Nat.reduceAdd,Nat.reduceSub])
       refine RW 15 rfl fun K hK=>?_;go_simp;go_at_call 17;refine (HHO.out _ HKd.out).mono ?_;rintro E V6 ⟨rfl,hb6⟩;try go_simp
       refine hK.out _ _ (show _∧_∧_∧_ from ⟨(hb6.cell (cell_lt hHeld.1)).trans hHeld.1,(hb6.cell (cell_lt hHeld.2.1)).trans hHeld.2.1,(hb6.cell (cell_lt hHeld.2.2.1)).trans hHeld.2.2.1,(hb6.cell (cell_lt hHeld.2.2.2)).trans hHeld.2.2.2⟩) (fun hHeld=>?_);have HK6:=Zh (HKd.out.bel hb6 HS.out.bB);clear hb6 HKd HHO;clear hK K;try simp only[AP]
       refine TW 16 rfl ?_;try simp only[AP]
       refine wpAnyH_done (by kernel_rfl) ?_ _;have c1:=HK6.out.mm.reg (i:=lk) hlkN;have f1:=HK6.out.mm.b.frozen (1+lk);have hN1:=HK6.out.mm.setReg (i:=lk) hlkN (x:=7) (by decide);have hk1:ZE (· = bm) V6 (V6.setCell ⟨bm,1+lk,none⟩ (.int .u32 ((7:Nat):Int))):=(ZE.refl (· = bm) V6).setCell (p:=⟨bm,1+lk,none⟩) (Or.inr rfl) _;have HN1:=Zh ((HK6.out.st hk1 hN1 HS.out.bB).dr);dsimp only at HN1
       rw[←HG4.out] at HN1
       have x6:=hHeld.2.1;have hc:=hHeld.2.2.1;clear hHeld hN1 hk1 HK6 HLD e1 e2 e3 hal2;dsimp only at c1;go_wp2_with fail
       go_region
       go_wp2_with fail
       go_roundw
       case rel=>exact ⟨k+1,by omega,by go_num,HN1.out⟩
       case measure=>first|(simp[Go.RowKit.intOf];done)|(simp[Go.RowKit.intOf];omega)
      ·have hkn:k=n:=by omega
       subst hkn;clear hlt hk;go_upto_region 58 with fail
       obtain ⟨en,hen⟩:∃x,4096+4*(9+k)=x:=⟨_,rfl⟩
       have hl1:=HS.out.fr.l1;rw[HS.out.nn] at hl1;have hn7:=HS.out.fr.n;rw[HS.out.nn] at hn7;obtain ⟨κ,hκ⟩:∃x,0+i=x:=⟨_,rfl⟩
       have hκ60:κ≤60:=by omega
       rw[hκ] at HK;obtain ⟨G,hG⟩:∃G,g4 l (r3 R Z sb) k=G:=⟨_,rfl⟩
       have hGl:G.length=16:=by rw[←hG,g4_len];simp[r3,HS.out.rl]
       have hGq:∀q,q<4∨10<q→G.getD q 0=(r3 R Z sb).getD q 0:=fun q hq=>by
        rw[←hG]
        exact g4_at k (fun i hi e=>by have:=hl1 i hi;omega)
       have hGs:∀q,(∀i,i<k→(l.getD i 0).toNat≠q)→G.getD q 0=(r3 R Z sb).getD q 0:=fun q hq=>by
        rw[←hG]
        exact g4_at k hq
       rw[hG] at HK;have HGF:=Zh (Za hGl (Za hGq hGs));have HEN:=Zh hen;have henl:en≤1000000000:=by omega
       clear hen hl1 hκ hG hGl hGq hGs x6 him hi64;have c1:wr.cell? ⟨bm,1,none⟩=some (.int .u32 (G.getD 0 0:Nat)):=HK.out.mm.reg (i:=0) (by decide);have f1:wr.frozen? ⟨bm,1,none⟩=false:=HK.out.mm.b.frozen 1;have hN1:=HK.out.mm.setReg (i:=0) (by decide) hans;have hk1:ZE (· = bm) wr (wr.setCell ⟨bm,1+0,none⟩ (.int .u32 (ans:Int))):=(ZE.refl (· = bm) wr).setCell (p:=⟨bm,1+0,none⟩) (Or.inr rfl) _;have HN1:=Zh (HK.out.st hk1 hN1 HS.out.bB);dsimp only at HN1;clear hN1 hk1 HK;go_upto_region 59 with fail
       clear c1 f1;rw[show (1+0:Nat)=1 from rfl] at HN1;obtain ⟨X1,hX1⟩:∃X,wr.setCell ⟨bm,1,none⟩ (.int .u32 (ans:Int))=X:=⟨_,rfl⟩
       rw[hX1] at HN1 ⊢;clear hX1;have c1:X1.cell? ⟨bm,15,none⟩=some (.int .u32 ((G.set 0 ans).getD 14 0:Nat)):=HN1.out.mm.reg (i:=14) (by decide);have f1:X1.frozen? ⟨bm,15,none⟩=false:=HN1.out.mm.b.frozen 15;have hN1:=HN1.out.mm.setReg (i:=14) (by decide) (x:=0) (by decide);have hk1:ZE (· = bm) X1 (X1.setCell ⟨bm,1+14,none⟩ (.int .u32 ((0:Nat):Int))):=(ZE.refl (· = bm) X1).setCell (p:=⟨bm,1+14,none⟩) (Or.inr rfl) _;have HN2:=Zh (HN1.out.st hk1 hN1 HS.out.bB);dsimp only at HN2;clear hN1 hk1 HN1;go_upto_region 60 with fail
       clear c1 f1;rw[show (1+14:Nat)=15 from rfl,show (((0:Nat):Int))=0 from rfl] at HN2;obtain ⟨X2,hX2⟩:∃X,X1.setCell ⟨bm,15,none⟩ (.int .u32 0)=X:=⟨_,rfl⟩
       rw[hX2] at HN2 ⊢;clear hX2;have hAE:=HL.out.at_ X2 HN2.out.be (str nmE);rw[at_end,HEN.out] at hAE;have HAE:=Zh hAE;clear hAE;go_wp2_with fail
       refine HAE.out.mono ?_;rintro E wA ⟨rfl,hw⟩;replace hw:=hw.symm;subst hw;clear HAE;go_wp2_with fail
       refine (ZJf bm gm iv _ _ en X2 HN2.out.mm henl).mono ?_;rintro E X3 ⟨⟨v,rfl⟩,hm3,hk3⟩;have HN3:=Zh (HN2.out.st hk3 hm3 HS.out.bB);dsimp only at HN3;clear hm3 hk3 HN2;obtain ⟨G2,hG2⟩:∃G2,(G.set 0 ans).set 14 0=G2:=⟨_,rfl⟩
       have hG2l:G2.length=16:=by rw[←hG2];simp[HGF.out.1]
       have hG2q:∀q,q≠0→q≠14→G2.getD q 0=G.getD q 0:=fun q h1 h2=>by rw[←hG2,ZEx (Ne.symm h2),ZEx (Ne.symm h1)]
       have hG20:G2.getD 0 0=ans:=by rw[←hG2,ZEx (by decide),ZFL (by have:=HGF.out.1;omega),if_pos rfl]
       rw[hG2] at HN3;have hlp:=ZHV (lnk:=4096+4*(13+2*k)) (rg0:=R) HS.out.fr HS.out.tx HS.out.ru hge (by rw[HS.out.nn]) G2 Y1 HKM.out.2.1 (by rw[HS.out.nn];exact HKM.out.2.2) k 0 G2 (by rw[HS.out.nn];omega) hG2l (by rw[hG2q 13 (by decide) (by decide),HGF.out.2.1 13 (by omega),ZDl HS.out.rl,if_pos rfl,HSB.out]) rfl rfl (fun q q1 q2 hq=>by
        rw[hG2q q (by omega) (by omega),HGF.out.2.2 q (fun i hi=>hq i (by omega) (by rw[HS.out.nn];exact hi)),ZDl HS.out.rl,if_neg (by omega),if_neg (by omega)])
       rw[HS.out.nn] at hlp;obtain ⟨N2,e2,hN2,hp2,hP2⟩:=hlp ⟨G2,4096+4*(9+k+0),false,0,0,nse⟩ ⟨rfl,HKM.out.1,HKM.out.2.1,hG2l⟩;rw[show 4096+4*(9+k+0)=en from HEN.out] at hp2;unfold EpiP at hP2;rw[HR14.out.1] at hp2 hP2;have HP2:=Zh hP2;have HG20:=Zh (Za hG20 (show G2.getD 12 0=R.getD 12 0 from by rw[hG2q 12 (by decide) (by decide),HGF.out.2.1 12 (by omega),ZDl HS.out.rl,if_neg (by decide),if_neg (by decide)]));have HL0:=Zh (show LoopS W0 X3 B bm gm gw iv κ bk e2 R 0 N2 ⟨G2,en,false,0,0,nse⟩ from ⟨HN3.out.mm,HN3.out.be,hp2,HN3.out.ww,HRO.out,Nat.le_trans HS.out.bB (Nat.le_of_lt HN3.out.mm.lt)⟩);have HBACK:=Zh (show atY (Zr (ZBl k) T) (str nmB)=(bk:Int) from by rw[ZKv,HR14.out.1]);clear hG2 hG2l hG2q hG20 hp2 hP2 HN3 HGF HEN henl HRO;go_upto_region 62 with fail
       go_loopw [32] (fun v W=>∃(i m:Nat) (s:MSt),i+m≤60∧v=.int .i64 i∧Hid (LoopS W0 W B bm gm gw iv κ bk e2 R i m s)) (fun v _=>64-(Go.RowKit.intOf v).toNat)
       case atStart=>exact ⟨0,N2,_,by omega,rfl,HL0.out⟩
       case round=>
        clear HL0;obtain ⟨i,m,s,him,rfl,HLO⟩:=hrel;have hi64:(i:Int)<64:=by omega
        have HQ:=Zh (fun j=>HL.out.at_ (wr.drewN j) (ZM HLO.out.be j) (str nmB));rw[HBACK.out] at HQ
        match m,HLO with
        | m+1,HLO=>
         obtain ⟨⟨hov,hpc⟩,s',hst,hpa⟩:=HLO.out.p;have HST:=Zh hst;have HPA:=Zh hpa;have t22:=HLO.out.mm.ov;have t17:=HLO.out.mm.pc;rw[hov] at t22;obtain ⟨pc,hpce⟩:∃pc,s.pc=pc:=⟨_,rfl⟩
         rw[hpce] at t17 hpc;have hne:((pc:Int) != (bk:Int))=true:=by
          have:¬(pc:Int)=(bk:Int):=by omega
          simpa using this
         have hne2:((pc:Int)==(bk:Int))=false:=by
          have:¬(pc:Int)=(bk:Int):=by omega
          simpa using this
         clear hst hpa hov hpc hpce;go_wp2_with fail
         go_quiet (exact Calls.quiet_of_same (HQ.out _))
         clear t22 t17 hne hne2 HQ;have HLD:=Zh (show LoopS W0 (wr.drewN nq) B bm gm gw iv κ bk e2 R i (m+1) s from ⟨HLO.out.mm.below (ZM (Below.refl _ _) nq),ZM HLO.out.be nq,HLO.out.p,HLO.out.ww,HLO.out.r,HLO.out.bx⟩);clear HLO;generalize wr.drewN nq=V at HLD ⊢;go_wp2_with fail
         refine (HST.out B bm gm iv _ V HLD.out.mm (by have:=hi64;omega) HS.out.bB HLD.out.r HLD.out.bx).mono ?_;intro E W' hpost;obtain ⟨v,rfl⟩:=hpost.1;have HN:=Zh (HLD.out.step HPA.out hpost);clear hpost HLD HST HPA;go_wp2_with fail
         go_roundw
         case rel=>exact ⟨i+1,m,s',by omega,by go_num,HN.out⟩
         case measure=>first|(simp[Go.RowKit.intOf];done)|(simp[Go.RowKit.intOf];omega)
        | 0,HLO=>
         obtain ⟨rfl,-⟩:=HLO.out.p;obtain ⟨r,hpm,h13,h0,h12,hq⟩:=HP2.out;have t22:=HLO.out.mm.ov;have t17:=HLO.out.mm.pc;obtain ⟨nsf,hnsf⟩:∃x,s.ns=x:=⟨_,rfl⟩
         have hee:=hpm.e;have hkm:=hpm.k;rw[hnsf] at hee hkm;subst hee;have hrl2:=hpm.r;have hal:=hkm.all HKM.out.2.2.i0 HKM.out.2.1;have hz2:=HS.out.fr.z2;have hr8:=HS.out.fr.rl;have hsb0:=HSB.out;have hn2:=HNN.out;have e9:((4096+T+(64+rm-Z):Nat):Int)=(sb:Int):=by omega
         have e8:((4096+T+(64+rm):Nat):Int)=(sp:Int):=by omega
         rw[e9,e8] at hal;have HAL2:=Zh (show InG (ZBY nsf) (sb:Int) (sp:Int)∧(ZBY nsf).length≤1000000 from ⟨hal.1,by have:=hal.2;omega⟩)
         rw[←hn2.1] at h13
         rw[HG20.out.1] at h0;rw[HG20.out.2] at h12;have e1:IntKind.i64.wrap (sp:Int)=(sp:Int):=IntWalk.i64_in _ (by omega);have HRQ:=Zh (Za h13 (Za h0 (Za h12 hq)));dsimp only at t22 t17;clear hpm h13 h0 h12 hq hnsf hkm hal hz2 hr8 hsb0 hn2 e9 e8;go_wp2_with fail
         go_quiet (exact Calls.quiet_of_same (HQ.out _))
         clear t22 t17 HQ;obtain ⟨κ2,hκ2⟩:∃x,κ+i=x:=⟨_,rfl⟩
         have HV:=Zh ((show OkS W0 wr B bm gm gw iv R (κ+i) ⟨r,bk,false,0,0,nsf⟩ from ⟨HLO.out.mm,HLO.out.be,HLO.out.ww⟩).dn nq);rw[hκ2] at HV;clear HLO hκ2 hi64 him;generalize wr.drewN nq=V at HV ⊢;have HQ2:=Zh (fun j=>HL.out.at_ (V.drewN j) (ZM HV.out.be j) (str nmB));rw[HBACK.out] at HQ2;have t22:=HV.out.mm.ov;have t17:=HV.out.mm.pc;have c13:V.cell? ⟨bm,14,none⟩=some (.int .u32 (r.getD 13 0:Nat)):=HV.out.mm.reg (i:=13) (by decide);have c0:V.cell? ⟨bm,1,none⟩=some (.int .u32 (r.getD 0 0:Nat)):=HV.out.mm.reg (i:=0) (by decide);rw[HRQ.out.1] at c13;rw[HRQ.out.2.1] at c0;dsimp only at t22 t17;go_upto_region 65 with fail
         go_quiet (exact Calls.quiet_of_same (HQ2.out _))
         clear t22 t17 c13 c0 HQ2;have HV4:=Zh (HV.out.dn nq);clear HV;generalize V.drewN nq=V4 at HV4 ⊢;go_upto_region 68 with fail
         go_loopw [33] (fun v W=>∃k:Nat,4≤k∧k≤11∧v=.int .i64 k∧Hid (OkS W0 W B bm gm gw iv R κ2 ⟨r,bk,false,0,0,nsf⟩)) (fun v _=>11-(Go.RowKit.intOf v).toNat)
         case atStart=>exact ⟨4,by omega,by omega,rfl,HV4.out⟩
         case round=>
          clear HV4;obtain ⟨k',hk4,hk11,rfl,HK⟩:=hrel
          by_cases hlt:k'<11
          ·have hltI:(k':Int)≤10:=by omega
           have hk16:(k':Int)<16:=by omega
           have hk16N:k'<16:=by omega
           have c1:=HK.out.mm.reg (i:=k') hk16N;have d1:=ZDy HK.out.ww HS.out.rl (k:=k') hk16N;dsimp only at c1;rw[HRQ.out.2.2.2 k' hk4 (by omega)] at c1;obtain ⟨Rk,hRk⟩:∃x,R.getD k' 0=x:=⟨_,rfl⟩
           rw[hRk] at c1 d1;clear hRk;go_wp2_with fail
           go_quiet (fail)
           clear c1 d1;have HK2:=Zh (HK.out.dn nq);clear HK;generalize wr.drewN nq=V5 at HK2 ⊢;go_wp2_with fail
           go_roundw
           case rel=>exact ⟨k'+1,by omega,by omega,by go_num,HK2.out⟩
           case measure=>first|(simp[Go.RowKit.intOf];done)|(simp[Go.RowKit.intOf];omega)
          ·have hk12:k'=11:=by omega
           subst hk12;clear hlt hk4 hk11;have c12:wr.cell? ⟨bm,13,none⟩=some (.int .u32 (r.getD 12 0:Nat)):=HK.out.mm.reg (i:=12) (by decide);rw[HRQ.out.2.2.1] at c12;have d12:=ZDy HK.out.ww HS.out.rl (k:=12) (by decide);obtain ⟨R12,hR12⟩:∃x,R.getD 12 0=x:=⟨_,rfl⟩
           rw[hR12] at c12 d12;have HWI:=Zh (fun W (h:OkS W0 W B bm gm gw iv R κ2 ⟨r,bk,false,0,0,nsf⟩)=>ZCd bm gm iv _ _ sb sp W h.mm HB9.out.2 HAL2.out.1 HAL2.out.2);clear hR12;go_upto_region 72 with fail
           refine wp_region_held_drew (S:=(fun W=>W.cell? ⟨bm,13,none⟩=some (.int .u32 (R12:Int))∧W.cell? ⟨gw,12,none⟩=some (.int .u32 (R12:Int)))) (by kernel_rfl) ?_ (fun hHeld=>?_)
           ·exact ⟨c12,d12⟩
           have HKd:=Zh HK.out.dr;clear c12 d12 HK;generalize wr.drew=V5 at HKd hHeld ⊢;refine FU 16 rfl ?_;iterate 13 (refine TN 16 rfl ?_;try simp only[AP,Nat.reduceAdd,Nat.reduceSub])
           refine RW 13 rfl fun K hK=>?_;go_simp;go_at_call 18;refine (HWI.out _ HKd.out).mono ?_;rintro E V9 ⟨rfl,hb9⟩;try go_simp
           refine hK.out _ _ (show _∧_ from ⟨(hb9.cell (cell_lt hHeld.1)).trans hHeld.1,(hb9.cell (cell_lt hHeld.2)).trans hHeld.2⟩) (fun hHeld=>?_);have HFIN:=Zh (HL.out.b V9 (HKd.out.bel hb9 HS.out.bB).be);clear hb9 HKd HWI;clear hK K;try simp only[AP]
           iterate 2 (refine TN 16 rfl ?_;try simp only[AP,Nat.reduceAdd,Nat.reduceSub])
           refine wpAnyH_done (by kernel_rfl) ?_ _;go_wp2_with fail
           go_ret;exact ⟨rfl,HFIN.out⟩
end Go.Proofs.YtggmkofbikafhaaGreatDoor
