/- Walks and plain laws on the way to FramePrologue (QL). Conditions: those that each theorem states. -/
import Derived.Test.YtggmkofbikafhaaGreatDoorQT2
set_option linter.unusedVariables false
set_option linter.unusedSimpArgs false
set_option maxRecDepth 100000
set_option maxHeartbeats 40000000
namespace Go.Proofs.YtggmkofbikafhaaGreatDoor
open Go.RowKit Go.Lib
theorem u32_open {W:World} {A:Option Addr} {n c:Nat} {l:List Nat} (h:RowOf W (.slice A n c) n (l.map ZD2)) (hl:l.length=n) {k:Nat} (hk:k<n):∃g off,A=some ⟨g,off,none⟩∧g<W.heap.size∧∀j,j<n→W.cell? ⟨g,off+j,none⟩=some (.int .u32 (l.getD j 0:Nat)):=by
 obtain ⟨g,off,cap,e,h2,h3,h4,h5⟩:=RowOf.open_ h (by omega);injection e with e1 e2 e3
 exact ⟨g,off,e1,h4,fun j hj=>h5 j _ (by simp[show j<l.length by omega,ZD2])⟩
theorem reg16 {R:List Nat} (h:R.length=16):(#[.int .u32 (R.getD 0 0:Nat),.int .u32 (R.getD 1 0:Nat),.int .u32 (R.getD 2 0:Nat),.int .u32 (R.getD 3 0:Nat),.int .u32 (R.getD 4 0:Nat),.int .u32 (R.getD 5 0:Nat),.int .u32 (R.getD 6 0:Nat),.int .u32 (R.getD 7 0:Nat),.int .u32 (R.getD 8 0:Nat),.int .u32 (R.getD 9 0:Nat),.int .u32 (R.getD 10 0:Nat),.int .u32 (R.getD 11 0:Nat),.int .u32 (R.getD 12 0:Nat),.int .u32 (R.getD 13 0:Nat),.int .u32 (R.getD 14 0:Nat),.int .u32 (R.getD 15 0:Nat)]:Array Value)=(R.map ZD2).toArray:=by
 match R,h with
 | [a0,a1,a2,a3,a4,a5,a6,a7,a8,a9,a10,a11,a12,a13,a14,a15],_=>rfl
theorem fr_of {Z Lk At T rm:Nat} {l:List Int} (h:ownB Z At Lk l=true) (hZ:Z≤4096) (ht:T%16=0) (htl:T≤90000) (h16:rm%16=0) (hl:rm≤8176):Fr Z Lk At l T rm:=by
 obtain ⟨-,m1,z1,z2,m2,m3,a0,k0,kz,az,ap⟩:=(ZHO _ _ _ _).1 h;have hn:=ZBw h;rw[Int.tmod_eq_emod_of_nonneg (by omega)] at m1 m2 m3;exact ⟨by omega,by omega,hZ,by omega,by omega,by omega,by omega,by omega,hn.2.1,fun k hk=>by have:=hn.1 k hk;omega,ht,htl,h16,hl⟩
def rgK (rs:List Nat):Nat→List Nat
 | 0=>List.replicate 16 0
 | k+1=>(rgK rs k).set k (rs.getD k 0)
theorem ZJS (rs:List Nat):∀k,(rgK rs k).length=16
 | 0=>rfl
 | k+1=>by rw[rgK,List.length_set,ZJS rs k]
theorem getD_u {rs:List Nat} (h:∀x∈rs,x<4294967296) (k:Nat):rs.getD k 0<4294967296:=by
 rcases Nat.lt_or_ge k rs.length with hi|hi
 ·rw[List.getD_eq_getElem?_getD,List.getElem?_eq_getElem hi]
  exact h _ (List.getElem_mem hi)
 ·rw[List.getD_eq_getElem?_getD,List.getElem?_eq_none hi];decide
theorem law_ok (Z Lk At:Nat) (v1 v2:Int) (sl:Value) (hsl:∃A n c,sl=.slice A n c) (A:Option Addr) (c:Nat) (l:List Int) (AR:Option Addr) (cR:Nat) (rs:List Nat) (room:Int) (ans:Nat) (w:World) (h:RowOf w (.slice A l.length c) l.length (l.map (Value.int .i64))) (hl:l.length≤2^50)
  (hr:RowOf w (.slice AR rs.length cR) rs.length (rs.map ZD2)) (hrl:rs.length≤2^50) (hru:∀x∈rs,x<4294967296) (hans:ans<4294967296) (ho:ownB Z At Lk l=true) (hW:ZFE w) (ht:ZIp w.heap.size w) :
  Calls Tryz.prog 3 #[.agg #[.int .i64 (Z:Int),.int .i64 v1,.int .i64 v2,.int .i64 (At:Int),.int .i64 (Lk:Int),sl,.slice A l.length c],.slice AR rs.length cR,.int .i64 room,.int .u32 (ans:Int)] w fun e w'=>e=.returned (.bool true)∧Below w.heap.size w w':=by
 obtain ⟨A2,n2,c2,rfl⟩:=hsl;have hml:l.length≤maxLen:=by unfold maxLen;omega
 have HWK:=Zh hW;have HP:=Zh (fun W (hb:Below w.heap.size w W)=>pro_ok Z Lk At v1 v2 (.slice A2 n2 c2) ⟨_,_,_,rfl⟩ A c l W (RowOf.below h hb) hml ho (fun X hX=>ht X (hb.trans (hX.mono hb.size))));have HE:=Zh (fun W (hb:Below w.heap.size w W)=>epi_ok Z Lk At v1 v2 (.slice A2 n2 c2) ⟨_,_,_,rfl⟩ A c l W (RowOf.below h hb) hml ho (fun X hX=>ht X (hb.trans (hX.mono hb.size))));have HS:=Zh (fun W (hb:Below w.heap.size w W)=>ZD5 Z v1 v2 At Lk (.slice A2 n2 c2) ⟨_,_,_,rfl⟩ A c l W (RowOf.below h hb) hl);rw[ho] at HS;have HSL:=Zh h;have HRS:=Zh hr;have HOWN:=Zh ho;have HRU:=Zh hru;obtain ⟨n,hn⟩:∃n,l.length=n:=⟨_,rfl⟩
 have HN:=Zh hn;obtain ⟨nr,hnr⟩:∃n,rs.length=n:=⟨_,rfl⟩
 have HNR:=Zh hnr;have hzb:(Z:Int)≤16777216:=(ZBw ho).2.2.2.1;rw[hn] at HP HE HS HSL ⊢;rw[hnr] at hrl HRS ⊢;clear h hl ho hW hml hn hnr hr hru ht;have hx0:=Blk.new w 24 (frA Z v1 v2 At Lk (.slice A2 n2 c2) (.slice A n c));have hx1:=ZV w (.cells (frA Z v1 v2 At Lk (.slice A2 n2 c2) (.slice A n c)) 24);unfold frA at hx0 hx1;go_enter Tryz.func3,Tryz.ntmps3
 go_upto_region 1 with fail
 obtain ⟨q,hq⟩:∃q,w.heap.size=q:=⟨_,rfl⟩
 obtain ⟨W1,hW1⟩:∃W1,w.alloc (.cells #[.int .i64 (Z:Int),.int .i64 v1,.int .i64 v2,.int .i64 (At:Int),.int .i64 (Lk:Int),.slice A2 n2 c2,.slice A n c] 24)=W1:=⟨_,rfl⟩
 rw[hW1] at hx0 hx1 ⊢;rw[hq] at hx0 ⊢;have HX0:=Zh (Za hx0 hx1);clear hW1 hx0 hx1 hq;go_wp2_with fail
 refine (HWK.out _ (HX0.out.2)).mono ?_;rintro e W2 ⟨rfl,hb2⟩;have HX2:=Zh (Za (HX0.out.1.below hb2 HX0.out.1.lt) (HX0.out.2.trans (ZA hb2 HX0.out.2.size)));clear HX0 hb2 HWK;obtain ⟨x0,x1,x2,x3,x4,x5,x6⟩:=Blk.frC HX2.out.1;go_wp2_with fail
 clear x0 x1 x2 x3 x4 x5 x6;refine (HP.out _ (HX2.out.2)).mono ?_;rintro e W3 ⟨⟨t1,rfl,-,ht1⟩,hb3⟩;have HT1:=Zh ht1;have HX3:=Zh (Za (HX2.out.1.below hb3 HX2.out.1.lt) (HX2.out.2.trans (ZA hb3 HX2.out.2.size)));clear HX2 hb3 HP ht1;obtain ⟨x0,x1,x2,x3,x4,x5,x6⟩:=Blk.frC HX3.out.1;go_wp2_with fail
 clear x0 x1 x2 x3 x4 x5 x6;refine (HE.out _ (HX3.out.2)).mono ?_;rintro e W4 ⟨⟨t2,rfl,-,ht2⟩,hb4⟩;have HT2:=Zh ht2;have HX4:=Zh (Za (HX3.out.1.below hb4 HX3.out.1.lt) (HX3.out.2.trans (ZA hb4 HX3.out.2.size)));clear HX3 hb4 HE ht2;obtain ⟨x0,x1,x2,x3,x4,x5,x6⟩:=Blk.frC HX4.out.1;go_wp2_with fail
 clear x0 x1 x2 x3 x4 x5 x6;refine (HS.out _ (HX4.out.2)).mono ?_;rintro e W5 ⟨rfl,hb5⟩;have HX5:=Zh (Za (HX4.out.1.below hb5 HX4.out.1.lt) (HX4.out.2.trans (ZA hb5 HX4.out.2.size)));clear HX4 hb5 HS;have x0:=(Blk.frC HX5.out.1).c0
 by_cases hZ:4096<Z
 ·have hZI:(4096:Int)<(Z:Int):=by omega
  clear HSL HRS HOWN HRU HT1 HT2;go_wp2_with fail
  go_ret;exact ⟨rfl,HX5.out.2⟩
 have hZ':Z≤4096:=by omega
 have hZI:(Z:Int)≤4096:=by omega
 have et1:=HT1.out hZ';have et2:=HT2.out hZ';have hgt:=ZBw HOWN.out;have hgl:∀k,k<l.length→4≤(l.getD k 0).toNat∧(l.getD k 0).toNat≤10:=fun k hk=>by have:=hgt.1 k hk;omega
 have hLk:Lk+4≤Z:=by omega
 have hAt:At+4*l.length≤Z:=by omega
 have hn7:=hgt.2.1;have htl:=text_len hZ' (by omega:Lk≤4096) hgl (by omega:At+4*l.length≤4096) hn7;have hrun:=run_text hZ' (by omega:Lk≤4096) hgl (by omega:At+4*l.length≤4096);have htx:=txL_len Z Lk At l;rw[HN.out] at hrun;have HA:=Zh (fun W=>asm5_any (textL Z Lk At l) W (by omega) (txL Z Lk At l) (ZBl n) hrun (by show 4≤1000;decide));have htl2:=htl;unfold textL at htl2;simp only[List.length_append] at htl2;have ad1:∀W,(Op.stringOp .add ⟨#[115,116,97,114,116,58,10]⟩ (str t1)).run Tryz.prog W=.ok (.string (str (lit1++t1))) W:=fun W=>ZAe lit1 t1 (by rw[et1];omega) W;have ad2:∀W,(Op.stringOp .add (str (lit1++t1)) ⟨#[10,109,105,100,58,10,46,119,111,114,100,32,48,10,101,110,100,58,10]⟩).run Tryz.prog W=.ok (.string (str (lit1++t1++lit2))) W:=fun W=>ZAe (lit1++t1) lit2 (by rw[et1];simp only[List.length_append];omega) W;have ad3:∀W,(Op.stringOp .add (str (lit1++t1++lit2)) (str t2)).run Tryz.prog W=.ok (.string (str (lit1++t1++lit2++t2))) W:=fun W=>ZAe _ t2 (by rw[et1,et2];simp only[List.length_append];omega) W;have ad4:∀W,(Op.stringOp .add (str (lit1++t1++lit2++t2)) ⟨#[10,98,97,99,107,58,10,46,119,111,114,100,32,48,10]⟩).run Tryz.prog W=.ok (.string (str (textL Z Lk At l))) W:=fun W=>by
  have h9:=ZAe (P:=Tryz.prog) (lit1++t1++lit2++t2) lit3 (by rw[et1,et2];simp only[List.length_append];omega) W;rw[et1,et2] at h9 ⊢;exact h9
 generalize lit1++t1++lit2++t2=s3 at ad3 ad4;generalize lit1++t1++lit2=s2 at ad2 ad3;generalize lit1++t1=s1 at ad1 ad2;generalize textL Z Lk At l=s4 at ad4 HA;clear et1 et2 HT1 HT2 htl htl2 hrun hgt hZ;rw[HN.out] at hAt hn7 htx hgl;go_wp2_with fail
 refine (HA.out _).mono ?_;rintro e W6 ⟨⟨tv,lv,r,rfl,htv,hlv⟩,hb6⟩;obtain ⟨A6,c6,rfl,-,-⟩:=ZR htv;obtain ⟨A7,c7,rfl,-,-⟩:=hlv.form;have HX6:=Zh (Za (HX5.out.1.below hb6 HX5.out.1.lt) (HX5.out.2.trans (ZA hb6 HX5.out.2.size)));obtain ⟨NT,hNT⟩:∃NT,(txL Z Lk At l).length=NT:=⟨_,rfl⟩
 have HNT:=Zh hNT;obtain ⟨NL,hNL⟩:∃NL,(ZBl n).length=NL:=⟨_,rfl⟩
 rw[hNT] at htv htx ⊢;rw[hNL] at hlv ⊢;have HNL:=Zh hNL;have HO6:=Zh (Za htv hlv);clear HX5 HA x0 htv hlv hb6 ad1 ad2 ad3 ad4 hNT hNL;have HTX:=Zh htx;have hNT5:NT≤112:=by omega
 have hNTI:(NT:Int)≤520:=by omega
 clear htx;obtain ⟨p,hp⟩:∃p,W6.heap.size=p:=⟨_,rfl⟩
 have hobA:=Blk.new W6 36 #[.slice A6 NT c6,.slice none 0 0,.slice A7 NL c7,.slice (some ⟨r,0,none⟩) 0 0];have hobB:=hobA.alloc (.cells #[.int .i64 0,.int .i64 0] 38);have hflB:=ZY (w:=W6.alloc (.cells #[.slice A6 NT c6,.slice none 0 0,.slice A7 NL c7,.slice (some ⟨r,0,none⟩) 0 0] 36)) (n:=W6.heap.size+1) (by simp[World.size_alloc]) 38 #[.int .i64 0,.int .i64 0];have hbe7:=bel2 W6 (.cells #[.slice A6 NT c6,.slice none 0 0,.slice A7 NL c7,.slice (some ⟨r,0,none⟩) 0 0] 36) (.cells #[.int .i64 0,.int .i64 0] 38);go_upto_region 13 with fail
 obtain ⟨W7,hW7⟩:∃W7,(W6.alloc (.cells #[.slice A6 NT c6,.slice none 0 0,.slice A7 NL c7,.slice (some ⟨r,0,none⟩) 0 0] 36)).alloc (.cells #[.int .i64 0,.int .i64 0] 38)=W7:=⟨_,rfl⟩
 rw[hW7] at hobB hflB hbe7 ⊢;rw[hp] at hobB hflB;have HX7:=Zh (Za (HX6.out.1.below hbe7 HX6.out.1.lt) (HX6.out.2.trans (ZA hbe7 HX6.out.2.size)));have HO7:=Zh (Za (show OwnB W7 W5.heap.size (.slice A6 NT c6) (txL Z Lk At l) from ZB HO6.out.1 (ZC (fun _=>False) hbe7) (fun _ _=>id)) (HO6.out.2.below hbe7));have HB7:=Zh (Za hobB hflB);have y0:W7.cell? ⟨p,0,none⟩=some (.slice A6 NT c6):=hobB.cellq rfl;have y1:W7.cell? ⟨p,1,none⟩=some (.slice none 0 0):=hobB.cellq rfl;have y2:W7.cell? ⟨p,2,none⟩=some (.slice A7 NL c7):=hobB.cellq rfl;have y3:W7.cell? ⟨p,3,none⟩=some (.slice (some ⟨r,0,none⟩) 0 0):=hobB.cellq rfl;have f0:W7.cell? ⟨p+1,0,none⟩=some (.int .i64 0):=hflB.cellq rfl;have f1:W7.cell? ⟨p+1,1,none⟩=some (.int .i64 0):=hflB.cellq rfl;clear hobA hobB hflB hbe7 hW7 hp HX6 HO6;go_upto_region 16 with fail
 obtain ⟨gE,hgE⟩:∃g,W7.heap.size=g:=⟨_,rfl⟩
 have hE8:=Blk.new W7 42 #[.string { data:=#[115,116,97,99,107] },.int .i64 0,.int .i64 16384,.bool true,.bool false];have hb8:=ZV W7 (.cells #[.string { data:=#[115,116,97,99,107] },.int .i64 0,.int .i64 16384,.bool true,.bool false] 42);obtain ⟨W8,hW8⟩:∃W8,W7.alloc (.cells #[.string { data:=#[115,116,97,99,107] },.int .i64 0,.int .i64 16384,.bool true,.bool false] 42)=W8:=⟨_,rfl⟩
 rw[hW8] at hE8 hb8 ⊢;rw[hgE] at hE8 ⊢;clear hgE hW8 y0 y1 y2 y3 f0 f1
 -- what lies at 8: the box,the object,the fault,the range
 have HX8:=Zh (Za (HX7.out.1.below hb8 HX7.out.1.lt) (HX7.out.2.trans (ZA hb8 HX7.out.2.size)));have HO8:=Zh (Za (show OwnB W8 W5.heap.size (.slice A6 NT c6) (txL Z Lk At l) from ZB HO7.out.1 (ZC (fun _=>False) hb8) (fun _ _=>id)) (HO7.out.2.below hb8));have HB8:=Zh (Za (HB7.out.1.below hb8 HB7.out.1.lt) (HB7.out.2.below hb8 HB7.out.2.lt));have HE8:=Zh hE8;have HJ8:Hid (∀W,Below W8.heap.size W8 W→ZHk (W.alloc (.cells #[.slice A6 NT c6,.slice none 0 0,.slice A7 NL c7,.slice (some ⟨r,0,none⟩) 0 0] 36)) (.slice (some ⟨W.heap.size,0,none⟩) 1 1) (txL Z Lk At l) (ZBl n)):=fun W hW=>by
  have hal:=ZV W (.cells #[.slice A6 NT c6,.slice none 0 0,.slice A7 NL c7,.slice (some ⟨r,0,none⟩) 0 0] 36);have hb9:=hW.trans (ZA hal hW.size);exact ZJ3 (Blk.bx4 (Blk.new W _ _)) (show OwnB _ W5.heap.size (.slice A6 NT c6) (txL Z Lk At l) from ZB HO8.out.1 (ZC (fun _=>False) hb9) (fun _ _=>id)) (HO8.out.2.below hb9) (ZHX (by rw[HNT.out];exact HTX.out) hn7) (by decide) (by decide)
 have HPL:Hid (∀W,Below W8.heap.size W8 W→ZC0 (W.alloc (.cells #[.slice A6 NT c6,.slice none 0 0,.slice A7 NL c7,.slice (some ⟨r,0,none⟩) 0 0] 36)) (.slice (some ⟨gE,0,none⟩) 1 1) (.slice (some ⟨W.heap.size,0,none⟩) 1 1) (txL Z Lk At l) (ZBl n)):=fun W hW=>by
  have hal:=ZV W (.cells #[.slice A6 NT c6,.slice none 0 0,.slice A7 NL c7,.slice (some ⟨r,0,none⟩) 0 0] 36);have hb9:=hW.trans (ZA hal hW.size);have he:=HE8.out.below hb9 HE8.out.lt;exact ZGi ⟨he.cellq rfl,he.cellq rfl,he.cellq rfl,he.cellq rfl,he.cellq rfl⟩ (HJ8.out W hW) (by rw[HNT.out];omega)
 have HL8:=Zh (link_any (str nmS) _ _ ⟨_,_,_,rfl⟩ ⟨_,_,_,rfl⟩ (txL Z Lk At l) (ZBl n) _ (HPL.out W8 (Below.refl _ _)) (by rw[HNT.out];omega) (by rw[HNT.out,HTX.out];omega) (by show 4≤1000;decide) (by show 0<4;decide) ⟨rfl,rfl⟩ (fun k hk h0=>by
  have hk':k<4:=hk;have hc:k=1∨k=2∨k=3:=by omega
  rcases hc with rfl|rfl|rfl
  ·exact fun e=>absurd (ZBq e) (by show nmM≠nmS;decide)
  ·exact fun e=>absurd (ZBq e) (by show nmE≠nmS;decide)
  ·exact fun e=>absurd (ZBq e) (by show nmB≠nmS;decide)))
 have y0:W8.cell? ⟨p,0,none⟩=some (.slice A6 NT c6):=HB8.out.1.cellq rfl;have y1:W8.cell? ⟨p,1,none⟩=some (.slice none 0 0):=HB8.out.1.cellq rfl;have y2:W8.cell? ⟨p,2,none⟩=some (.slice A7 NL c7):=HB8.out.1.cellq rfl;have y3:W8.cell? ⟨p,3,none⟩=some (.slice (some ⟨r,0,none⟩) 0 0):=HB8.out.1.cellq rfl;clear hE8 hb8 HX7 HO7 HB7;go_wp2_with fail
 clear y0 y1 y2 y3;refine (HL8.out).mono ?_;rintro e W9 ⟨⟨gr,cr,gF,cF,bv,rfl,hR9,hF0,hF1,hBv⟩,hb9'⟩;have hb9:Below W8.heap.size W8 W9:=(ZV W8 _).trans (ZA hb9' (by simp[World.size_alloc]));have HX9:=Zh (Za (HX8.out.1.below hb9 HX8.out.1.lt) (HX8.out.2.trans (ZA hb9 HX8.out.2.size)));have HB9:=Zh (Za (HB8.out.1.below hb9 HB8.out.1.lt) (HB8.out.2.below hb9 HB8.out.2.lt));have H89:=Zh hb9;have HR9:=Zh (Za hR9 (Za hF0 (Za hF1 hBv)));have f0:(W9.alloc (.cells #[.slice (some ⟨gr,0,none⟩) 3 cr,.slice (some ⟨gF,0,none⟩) 1 cF,.int .i64 4096] 46)).cell? ⟨p+1,0,none⟩=some (.int .i64 0):=ZJ (HB9.out.2.cellq rfl) _;have f1:(W9.alloc (.cells #[.slice (some ⟨gr,0,none⟩) 3 cr,.slice (some ⟨gF,0,none⟩) 1 cF,.int .i64 4096] 46)).cell? ⟨p+1,1,none⟩=some (.int .i64 0):=ZJ (HB9.out.2.cellq rfl) _;have z0:=(HB9.out.2.alloc (.cells #[.slice (some ⟨gr,0,none⟩) 3 cr,.slice (some ⟨gF,0,none⟩) 1 cF,.int .i64 4096] 46)).frozen 0;have z1:=(HB9.out.2.alloc (.cells #[.slice (some ⟨gr,0,none⟩) 3 cr,.slice (some ⟨gF,0,none⟩) 1 cF,.int .i64 4096] 46)).frozen 1;clear HL8 hR9 hF0 hF1 hBv hb9 hb9' HB8 HX8;go_upto_region 17 with fail
 rw[Zd (HB9.out.2.alloc _) rfl,Zd (HB9.out.2.alloc _) rfl];obtain ⟨gI,hgI⟩:∃g,W9.heap.size=g:=⟨_,rfl⟩
 have hI10:=Blk.new W9 46 #[.slice (some ⟨gr,0,none⟩) 3 cr,.slice (some ⟨gF,0,none⟩) 1 cF,.int .i64 4096];have hb10:=ZV W9 (.cells #[.slice (some ⟨gr,0,none⟩) 3 cr,.slice (some ⟨gF,0,none⟩) 1 cF,.int .i64 4096] 46);obtain ⟨W10,hW10⟩:∃W10,W9.alloc (.cells #[.slice (some ⟨gr,0,none⟩) 3 cr,.slice (some ⟨gF,0,none⟩) 1 cF,.int .i64 4096] 46)=W10:=⟨_,rfl⟩
 rw[hW10] at hI10 hb10 ⊢;rw[hgI] at hI10 ⊢;clear hgI hW10 f0 f1 z0 z1;have HX10:=Zh (Za (HX9.out.1.below hb10 HX9.out.1.lt) (HX9.out.2.trans (ZA hb10 HX9.out.2.size)));have HB10:=Zh (Za (HB9.out.1.below hb10 HB9.out.1.lt) (HB9.out.2.below hb10 HB9.out.2.lt));have HI10:=Zh hI10;have H810:=Zh (H89.out.trans (ZA hb10 H89.out.size));have H910:=Zh hb10;obtain ⟨T,hT⟩:∃T,upN NT=T:=⟨_,rfl⟩
 have hTf:T%16=0∧4*(14+2*n)≤T∧T≤200:=by
  have h9:=HTX.out
  rw[←hT]
  unfold upN;omega
 have HTF:=Zh (Za hT hTf);have HSY:=Zh (ZGQ NT _ _ ⟨_,_,_,rfl⟩ ⟨_,_,_,rfl⟩ (txL Z Lk At l) (ZBl n) _ (HPL.out W10 H810.out) (by rw[HNT.out];omega) (by show 4≤100;decide) (ZHX HTX.out hn7) (ZGZ (by rw[HNT.out,hT];omega)));rw[HNT.out,hT] at HSY HR9;have y0:W10.cell? ⟨p,0,none⟩=some (.slice A6 NT c6):=HB10.out.1.cellq rfl;have y1:W10.cell? ⟨p,1,none⟩=some (.slice none 0 0):=HB10.out.1.cellq rfl;have y2:W10.cell? ⟨p,2,none⟩=some (.slice A7 NL c7):=HB10.out.1.cellq rfl;have y3:W10.cell? ⟨p,3,none⟩=some (.slice (some ⟨r,0,none⟩) 0 0):=HB10.out.1.cellq rfl;clear hT hTf hI10 hb10 HX9 HB9;go_wp2_with fail
 clear y0 y1 y2 y3;refine (HSY.out).mono ?_;rintro e W11 ⟨⟨sv,rfl,hsy⟩,hb11'⟩;obtain ⟨A8,c8,rfl,-,-⟩:=hsy.form;obtain ⟨NS,hNS⟩:∃NS,(Zr (ZBl n) T).length=NS:=⟨_,rfl⟩
 have HNS:=Zh hNS;rw[hNS] at hsy ⊢;have hb11:Below W10.heap.size W10 W11:=(ZV W10 _).trans (ZA hb11' (by simp[World.size_alloc]));have HX11:=Zh (Za (HX10.out.1.below hb11 HX10.out.1.lt) (HX10.out.2.trans (ZA hb11 HX10.out.2.size)));have HB11:=Zh (HB10.out.2.below hb11 HB10.out.2.lt);have HI11:=Zh (HI10.out.below hb11 HI10.out.lt);have H911:=Zh (H910.out.trans (ZA hb11 H910.out.size));have HSY11:=Zh hsy;clear HSY hsy hb11' hb11 hNS HX10 HB10 HI10 H810 H910 HPL HJ8 H89;obtain ⟨gf,hgf⟩:∃g,W11.heap.size=g:=⟨_,rfl⟩
 have hf12:=Blk.new W11 38 #[.int .i64 0,.int .i64 0];have hb12:=ZV W11 (.cells #[.int .i64 0,.int .i64 0] 38);go_upto_region 18 with fail
 obtain ⟨W12,hW12⟩:∃W12,W11.alloc (.cells #[.int .i64 0,.int .i64 0] 38)=W12:=⟨_,rfl⟩
 rw[hW12] at hf12 hb12 ⊢;rw[hgf] at hf12;try rw[hgf]
 clear hgf hW12;have HX12:=Zh (Za (HX11.out.1.below hb12 HX11.out.1.lt) (HX11.out.2.trans (ZA hb12 HX11.out.2.size)));have H912:=Zh (H911.out.trans (ZA hb12 H911.out.size));have HSY12:=Zh (HSY11.out.below hb12);have hB12:=HB11.out.below hb12 HB11.out.lt;have hI12:=HI11.out.below hb12 HI11.out.lt;have f0:W12.cell? ⟨p+1,0,none⟩=some (.int .i64 0):=hB12.cellq rfl;have f1:W12.cell? ⟨p+1,1,none⟩=some (.int .i64 0):=hB12.cellq rfl;have f2:W12.cell? ⟨gf,0,none⟩=some (.int .i64 0):=hf12.cellq rfl;have f3:W12.cell? ⟨gf,1,none⟩=some (.int .i64 0):=hf12.cellq rfl;have i0:W12.cell? ⟨gI,0,none⟩=some (.slice (some ⟨gr,0,none⟩) 3 cr):=hI12.cellq rfl;have i1:W12.cell? ⟨gI,1,none⟩=some (.slice (some ⟨gF,0,none⟩) 1 cF):=hI12.cellq rfl;have i2:W12.cell? ⟨gI,2,none⟩=some (.int .i64 4096):=hI12.cellq rfl;have hbv:OwnB W12 _ bv (txL Z Lk At l):=ZB HR9.out.2.2.2 (ZC (fun _=>False) H912.out) (fun _ _=>id);have HNW:=Zh (new4_any T gr cr gF cF _ _ bv (txL Z Lk At l) W12 (HR9.out.1.below H912.out) (ZE9 HR9.out.2.1 H912.out) (ZE9 HR9.out.2.2.1 H912.out) hbv (by rw[HNT.out,HTX.out];omega) (by rw[HNT.out,HTX.out];exact HTF.out.2.2.1) (by have:=HTF.out.2.2.2;omega) HTF.out.2.1);clear hf12 hb12 hB12 hI12 hbv HX11 HB11 HI11 H911 HSY11 H912 HR9;go_wp2_with fail
 clear f0 f1 f2 f3 i0 i1 i2;refine (HNW.out).mono ?_;rintro e W13 ⟨⟨bm,gm,iv,ns,rfl,hm,hkey,hbm,hrows⟩,hb13⟩;have HKM:Hid (KM ns T (splice (List.replicate T 0) 0 (nums (txL Z Lk At l))) (List.replicate 16384 0)):=hkey
 -- the blocks that came before the machine
 obtain ⟨B,hB⟩:∃B,W12.heap.size=B:=⟨_,rfl⟩
 have HALL:Hid (∀X,Below B W12 X→(Blk X q 24 #[.int .i64 (Z:Int),.int .i64 v1,.int .i64 v2,.int .i64 (At:Int),.int .i64 (Lk:Int),.slice A2 n2 c2,.slice A n c]∧Below w.heap.size w X)∧RowOf X (.slice A n c) n (l.map (Value.int .i64))∧RowOf X (.slice AR nr cR) nr (rs.map ZD2)):=fun X hX=>by
  have h9:Below W12.heap.size W12 X:=by rw[hB];exact hX
  have h8:=HX12.out.2.trans (ZA h9 HX12.out.2.size);exact ⟨⟨HX12.out.1.below h9 HX12.out.1.lt,h8⟩,RowOf.below HSL.out h8,RowOf.below HRS.out h8⟩
 have HAT:Hid (∀X,Below B W12 X→∀s,Calls Tryz.prog 12 #[.slice A8 NS c8,.string s] X fun e w'=>e=.returned (.int .i64 (atY (Zr (ZBl n) T) s))∧w'=X):=fun X hX s=>by
  have h9:Below W12.heap.size W12 X:=by rw[hB];exact hX
  have h8:=RowOf.own (HSY12.out.below h9);rw[HNS.out] at h8;have h7:=at25_any A8 c8 (Zr (ZBl n) T) s X (by rw[HNS.out];exact h8) (by show 6≤1000;decide);rw[HNS.out] at h7;exact h7
 have HBW:=Zh (show B≤W13.heap.size from by rw[←hB];exact hb13.size);have HBQ:=Zh (show q<B from by rw[←hB];exact HX12.out.1.lt);rw[hB] at hbm hrows hb13;have HBM:=Zh (Za hbm hrows);have HM13:=Zh (Za hm hb13);clear HNW hkey hm hbm hrows hb13 HX12 HSY12 HSL HRS hB HNS;have HRU2:=Zh (fun k=>getD_u HRU.out k);clear HRU;go_upto_region 24 with fail
 go_loopw [21] (fun v W=>∃k:Nat,k≤12∧k≤nr∧v=.int .i64 k∧Hid (MAt W bm gm iv 0 ⟨rgK rs k,4096,false,0,0,ns⟩∧Below B W12 W)) (fun v _=>12-(Go.RowKit.intOf v).toNat)
 case atStart=>exact ⟨0,by omega,by omega,rfl,HM13.out⟩
 case round=>
  obtain ⟨k,hk12,hkn,rfl,HM⟩:=hrel
  by_cases hlt:k<12∧k<nr
  ·obtain ⟨hl1,hl2⟩:=hlt
   have hl1I:(k:Int)<12:=by omega
   have hl2I:(k:Int)<(nr:Int):=by omega
   have hk16:k<16:=by omega
   have hk16I:(k:Int)<16:=by omega
   obtain ⟨g,off,hA,hg,hc⟩:=u32_open (HALL.out _ HM.out.2).2.2 HNR.out hl2;subst hA;have hrc:=hc k hl2;have t1:=HM.out.1.reg hk16;have t2:=HM.out.1.b.frozen (1+k);obtain ⟨rk,hrk⟩:∃rk,rs.getD k 0=rk:=⟨_,rfl⟩
   have hrku:rk<4294967296:=by rw[←hrk];exact HRU2.out k
   have HN2:=Zh (Za (HM.out.1.setReg hk16 hrku) (HM.out.2.trans (((ZE.refl (· = bm) wr).setCell (p:=⟨bm,1+k,none⟩) (Or.inr rfl) (.int .u32 (rk:Int))).toBelow (by have:=HM.out.1.lt;have:=HBM.out.1;omega) (fun g hg e=>by have:=HBM.out.1;omega))));have hrgk:rgK rs (k+1)=(rgK rs k).set k rk:=by rw[rgK,hrk]
   have HRG:=Zh hrgk;rw[hrk] at hrc;clear hrgk hrk hc hg HM hkn hk12;dsimp only at t1;go_wp2_with fail
   go_region
   go_wp2_with fail
   go_roundw
   case rel=>exact ⟨k+1,by omega,by omega,by go_num,by rw[HRG.out];exact ⟨HN2.out.1.below (ZAO (Below.refl _ _)),ZAO HN2.out.2⟩⟩
   case measure=>first|(simp[Go.RowKit.intOf];done)|(simp[Go.RowKit.intOf];omega)
  ·obtain ⟨R0,hR0⟩:∃R0,rgK rs k=R0:=⟨_,rfl⟩
   have hl0:=ZJS rs k;rw[hR0] at HM hl0;have HL0:=Zh hl0;clear HM13 HRU2 hR0 hl0
   -- the room
   obtain ⟨a,ha⟩:∃a:Nat,(IntKind.u64.wrap room).tmod 8192=(a:Int)∧a<8192:=by
    have h9:0≤IntKind.u64.wrap room:=by rw[IntKind.wrap_u64];omega
    refine ⟨((IntKind.u64.wrap room).tmod 8192).toNat,?_,?_⟩
    all_goals rw[Int.tmod_eq_emod_of_nonneg h9];omega
   obtain ⟨e1,hal⟩:=ha;have e2:IntKind.i64.wrap (a:Int)=(a:Int):=IntWalk.i64_in _ (by omega);obtain ⟨d,hd⟩:∃d,a / 16=d:=⟨_,rfl⟩
   have e3:(a:Int).tdiv 16=(d:Int):=by rw[Int.tdiv_eq_ediv_of_nonneg (by omega)];omega
   have e4:IntKind.i64.wrap (d:Int)=(d:Int):=IntWalk.i64_in _ (by omega);obtain ⟨rm,hrm⟩:∃rm,d*16=rm:=⟨_,rfl⟩
   have e5:IntKind.i64.wrap ((d:Int)*16)=(rm:Int):=by rw[IntWalk.i64_in _ (by omega)];omega
   have HRM:=Zh (show rm%16=0∧rm≤8176 from by omega);clear hal hd hrm;rcases Nat.lt_or_ge k 12 with h12|h12
   case' inl=>
    have h12I:(k:Int)<12:=by omega
    have hknI:(nr:Int)≤(k:Int):=by omega
    have hkn2:nr≤k:=by omega
    clear hlt hkn hk12;go_upto_region 27 with fail
    clear h12 h12I hknI hkn2;go_upto_region 28 with fail
   case' inr=>
    have hk12':k=12:=by omega
    subst hk12';clear hlt hkn hk12 h12;go_upto_region 27 with fail
    go_upto_region 28 with fail
   all_goals
    clear e1 e2 e3 e4 e5;obtain ⟨sk,hsk⟩:∃sk,4096+T=sk:=⟨_,rfl⟩
    have hA1:=HAT.out _ HM.out.2 stackS;rw[at_stack,hsk] at hA1;have hA2:=fun X hX=>HAT.out X hX (str nmB);obtain ⟨bk,hbk⟩:∃bk,4096+4*(13+2*n)=bk:=⟨_,rfl⟩
    simp only[ZKv,hbk] at hA2;have HA2:=Zh hA2;have HA1:=Zh hA1;have htf:=HTF.out.2;have hrmf:=HRM.out;obtain ⟨bot,hbot⟩:∃b,sk+64=b:=⟨_,rfl⟩
    obtain ⟨sp,hsp⟩:∃b,bot+rm=b:=⟨_,rfl⟩
    have HGEO:=Zh (Za hsk (Za hbk (Za hbot hsp)));have e1:IntKind.i64.wrap ((sk:Int)+64)=(bot:Int):=by rw[IntWalk.i64_in _ (by omega)];omega
    have e2:IntKind.i64.wrap ((bot:Int)+(rm:Int))=(sp:Int):=by rw[IntWalk.i64_in _ (by omega)];omega
    have e3:IntKind.u32.wrap (sp:Int)=(sp:Int):=by rw[IntKind.wrap_u32];omega
    have e4:IntKind.u32.wrap (bot:Int)=(bot:Int):=by rw[IntKind.wrap_u32];omega
    have e5:IntKind.u32.wrap (bk:Int)=(bk:Int):=by rw[IntKind.wrap_u32];omega
    have hbotu:bot<4294967296:=by omega
    have hspu:sp<4294967296:=by omega
    have hbku:bk<4294967296:=by omega
    have HU:=Zh (Za hbotu (Za hspu hbku));clear hA1 hA2 htf hrmf hsk hbk hbot hsp hbotu hspu hbku;go_wp2_with fail
    refine (HA1.out).mono ?_;rintro e wA ⟨rfl,hw⟩;replace hw:=hw.symm;subst hw;have t1:wr.cell? ⟨bm,13,none⟩=some (.int .u32 (R0.getD 12 0:Nat)):=HM.out.1.reg (i:=12) (by decide);have t2:wr.frozen? ⟨bm,13,none⟩=false:=HM.out.1.b.frozen 13;have hN1:=HM.out.1.setReg (i:=12) (by decide) HU.out.1;have hb1:=HM.out.2.trans (((ZE.refl (· = bm) wr).setCell (p:=⟨bm,1+12,none⟩) (Or.inr rfl) (.int .u32 (bot:Int))).toBelow (by have:=HM.out.1.lt;have:=HBM.out.1;omega) (fun g hg e=>by have:=HBM.out.1;omega));clear HA1;go_upto_region 31 with fail
    obtain ⟨X1,hX1⟩:∃X,wr.setCell ⟨bm,13,none⟩ (.int .u32 (bot:Int))=X:=⟨_,rfl⟩
    rw[show (1+12:Nat)=13 from rfl,hX1] at hN1 hb1;rw[hX1];have HM1:=Zh (Za hN1 hb1);clear hX1 hN1 hb1 t1 t2 HM;have t1:X1.cell? ⟨bm,14,none⟩=some (.int .u32 ((R0.set 12 bot).getD 13 0:Nat)):=HM1.out.1.reg (i:=13) (by decide);have t2:X1.frozen? ⟨bm,14,none⟩=false:=HM1.out.1.b.frozen 14;have hN1:=HM1.out.1.setReg (i:=13) (by decide) HU.out.2.1;have hb1:=HM1.out.2.trans (((ZE.refl (· = bm) X1).setCell (p:=⟨bm,1+13,none⟩) (Or.inr rfl) (.int .u32 (sp:Int))).toBelow (by have:=HM1.out.1.lt;have:=HBM.out.1;omega) (fun g hg e=>by have:=HBM.out.1;omega));go_upto_region 32 with fail
    obtain ⟨X2,hX2⟩:∃X,X1.setCell ⟨bm,14,none⟩ (.int .u32 (sp:Int))=X:=⟨_,rfl⟩
    rw[show (1+13:Nat)=14 from rfl,hX2] at hN1 hb1;rw[hX2];have HM2:=Zh (Za hN1 hb1);clear hX2 hN1 hb1 t1 t2 HM1;dsimp only at HM2;have t1:X2.cell? ⟨bm,15,none⟩=some (.int .u32 (((R0.set 12 bot).set 13 sp).getD 14 0:Nat)):=HM2.out.1.reg (i:=14) (by decide);have t2:X2.frozen? ⟨bm,15,none⟩=false:=HM2.out.1.b.frozen 15;have hN1:=HM2.out.1.setReg (i:=14) (by decide) HU.out.2.2;have hb1:=HM2.out.2.trans (((ZE.refl (· = bm) X2).setCell (p:=⟨bm,1+14,none⟩) (Or.inr rfl) (.int .u32 (bk:Int))).toBelow (by have:=HM2.out.1.lt;have:=HBM.out.1;omega) (fun g hg e=>by have:=HBM.out.1;omega));rw[show (1+14:Nat)=15 from rfl] at hN1 hb1;have HM3:=Zh (Za (hN1.below (ZAO (Below.refl _ _))) (ZAO hb1));clear hN1 hb1
    go_region_with (go_at_call 12;refine (HA2.out _ (by first|exact HM2.out.2|exact ZAO HM2.out.2)).mono ?_;rintro e wA ⟨rfl,hw⟩;replace hw:=hw.symm;subst hw)
    obtain ⟨X3,hX3⟩:∃X,(X2.setCell ⟨bm,15,none⟩ (.int .u32 (bk:Int))).drew=X:=⟨_,rfl⟩
    rw[hX3] at HM3 ⊢;obtain ⟨R,hR⟩:∃R,((R0.set 12 bot).set 13 sp).set 14 bk=R:=⟨_,rfl⟩
    try dsimp only at HM3
    have hRf:R.getD 12 0=bot∧R.getD 13 0=sp∧R.getD 14 0=bk∧R.length=16:=by
     have h9:=HL0.out
     rw[←hR]
     refine ⟨?_,?_,?_,by simp[h9]⟩
     ·rw[ZFL (by simp[h9]),if_neg (by decide),ZFL (by simp[h9]),if_neg (by decide),ZFL (by simp[h9]),if_pos rfl]
     ·rw[ZFL (by simp[h9]),if_neg (by decide),ZFL (by simp[h9]),if_pos rfl]
     ·rw[ZFL (by simp[h9]),if_pos rfl]
    rw[hR] at HM3;have HRF:=Zh hRf;clear hX3 hR hRf t1 t2 HM2 HA2;have g0:X3.cell? ⟨bm,1,none⟩=some (.int .u32 (R.getD 0 0:Nat)):=HM3.out.1.reg (i:=0) (by decide);have g1:X3.cell? ⟨bm,2,none⟩=some (.int .u32 (R.getD 1 0:Nat)):=HM3.out.1.reg (i:=1) (by decide);have g2:X3.cell? ⟨bm,3,none⟩=some (.int .u32 (R.getD 2 0:Nat)):=HM3.out.1.reg (i:=2) (by decide);have g3:X3.cell? ⟨bm,4,none⟩=some (.int .u32 (R.getD 3 0:Nat)):=HM3.out.1.reg (i:=3) (by decide);have g4:X3.cell? ⟨bm,5,none⟩=some (.int .u32 (R.getD 4 0:Nat)):=HM3.out.1.reg (i:=4) (by decide);have g5:X3.cell? ⟨bm,6,none⟩=some (.int .u32 (R.getD 5 0:Nat)):=HM3.out.1.reg (i:=5) (by decide);have g6:X3.cell? ⟨bm,7,none⟩=some (.int .u32 (R.getD 6 0:Nat)):=HM3.out.1.reg (i:=6) (by decide);have g7:X3.cell? ⟨bm,8,none⟩=some (.int .u32 (R.getD 7 0:Nat)):=HM3.out.1.reg (i:=7) (by decide);have g8:X3.cell? ⟨bm,9,none⟩=some (.int .u32 (R.getD 8 0:Nat)):=HM3.out.1.reg (i:=8) (by decide);have g9:X3.cell? ⟨bm,10,none⟩=some (.int .u32 (R.getD 9 0:Nat)):=HM3.out.1.reg (i:=9) (by decide);have g10:X3.cell? ⟨bm,11,none⟩=some (.int .u32 (R.getD 10 0:Nat)):=HM3.out.1.reg (i:=10) (by decide);have g11:X3.cell? ⟨bm,12,none⟩=some (.int .u32 (R.getD 11 0:Nat)):=HM3.out.1.reg (i:=11) (by decide);have g12:X3.cell? ⟨bm,13,none⟩=some (.int .u32 (R.getD 12 0:Nat)):=HM3.out.1.reg (i:=12) (by decide);have g13:X3.cell? ⟨bm,14,none⟩=some (.int .u32 (R.getD 13 0:Nat)):=HM3.out.1.reg (i:=13) (by decide);have g14:X3.cell? ⟨bm,15,none⟩=some (.int .u32 (R.getD 14 0:Nat)):=HM3.out.1.reg (i:=14) (by decide);have g15:X3.cell? ⟨bm,16,none⟩=some (.int .u32 (R.getD 15 0:Nat)):=HM3.out.1.reg (i:=15) (by decide);go_upto_region 34 with fail
    clear g0 g1 g2 g3 g4 g5 g6 g7 g8 g9 g10 g11 g12 g13 g14 g15
    rename_i KK hKK
    have HKK:=Zh hKK;clear hKK;obtain ⟨gw,hgw⟩:∃x,X3.heap.size=x:=⟨_,rfl⟩
    have hww:=Blk.new X3 57 (R.map ZD2).toArray;have hal4:=ZV X3 (.cells (R.map ZD2).toArray 57)
    rw[←reg16 HRF.out.2.2.2] at hww hal4
    simp only[List.getD_eq_getElem?_getD] at hww hal4;rw[hgw] at hww ⊢;obtain ⟨X4,hX4⟩:∃X,X3.alloc (.cells #[.int .u32 (R[0]?.getD 0:Nat),.int .u32 (R[1]?.getD 0:Nat),.int .u32 (R[2]?.getD 0:Nat),.int .u32 (R[3]?.getD 0:Nat),.int .u32 (R[4]?.getD 0:Nat),.int .u32 (R[5]?.getD 0:Nat),.int .u32 (R[6]?.getD 0:Nat),.int .u32 (R[7]?.getD 0:Nat),.int .u32 (R[8]?.getD 0:Nat),.int .u32 (R[9]?.getD 0:Nat),.int .u32 (R[10]?.getD 0:Nat),.int .u32 (R[11]?.getD 0:Nat),.int .u32 (R[12]?.getD 0:Nat),.int .u32 (R[13]?.getD 0:Nat),.int .u32 (R[14]?.getD 0:Nat),.int .u32 (R[15]?.getD 0:Nat)] 57)=X:=⟨_,rfl⟩
    rw[hX4] at hww hal4 ⊢
    simp only[←List.getD_eq_getElem?_getD] at hww
    rw[reg16 HRF.out.2.2.2] at hww;have HM4:=Zh (Za (HM3.out.1.below hal4) (Za (HM3.out.2.trans (ZA hal4 (Nat.le_trans HBM.out.1 (Nat.le_of_lt HM3.out.1.lt)))) hww));clear hgw hX4 hal4 hww HM3;have m0:=HM4.out.1.mem;have hpos:0<ns.length:=by
     obtain ⟨a,d,s,e,-⟩:=HKM.out.ex;rw[e];exact Nat.zero_lt_succ _
    have HCL:=Zh (ZH5 gm ns X4 HM4.out.1.m hpos);clear hpos;go_wp2_with fail
    clear m0;refine HCL.out.mono ?_;rintro e X5 ⟨⟨gc,rfl⟩,hb5⟩;have HM5:=Zh (Za (HM4.out.1.below hb5) (Za (HM4.out.2.1.trans (ZA hb5 (Nat.le_trans HBM.out.1 (Nat.le_of_lt HM4.out.1.lt)))) (HM4.out.2.2.below hb5 HM4.out.2.2.lt)));clear HCL HM4 hb5;go_wp2_with fail
    refine HKK.out _ _ ?_;have hgeo:=HGEO.out;have hown:=HOWN.out;have hL:Lay w W12 B q n NS c8 c A8 A Z Lk At T v1 v2 (.slice A2 n2 c2) l:=⟨fun Y hY=>(HALL.out Y hY).1.1,fun Y hY=>(HALL.out Y hY).1.2,fun Y hY=>(HALL.out Y hY).2.1,HAT.out⟩
    have hS:SetUp W12 X5 B bm gm gw iv R ns T Z Lk At l n rm sp (splice (List.replicate T 0) 0 (nums (txL Z Lk At l))):=by
     have hfr:=fr_of hown hZ' HTF.out.2.1 (by have:=HTF.out.2.2.2;omega) HRM.out.1 HRM.out.2;have hl1:=hfr.l1;refine ⟨HM5.out.1,HM5.out.2.1,HBM.out.1,HBM.out.2,Nat.le_trans HBM.out.1 (Nat.le_of_lt HM5.out.1.lt),HM5.out.2.2,HKM.out,?_,hfr,HN.out,HRF.out.2.2.2,HM5.out.1.ru,by rw[HRF.out.1];omega,by rw[HRF.out.2.1],by omega,by rw[HRF.out.2.2.1];omega,fun k hk=>by
      have:=(ZBw hown).1 k (by rw[HN.out];exact hk)
      omega⟩
     exact Txt.of (by have:=HTF.out.2.2.2;omega) (by rw[ZHM,HN.out];exact HTF.out.2.2.1) (prog_w hZ' (by have:=hfr.kz;have:=hfr.z2;omega) hl1 (by have:=hfr.az;have:=hfr.z2;omega))
    rcases Nat.lt_or_ge rm Z with hrz|hrz
    ·exact ZI6 w W12 X5 B q bm gm gw gc NS c8 c A8 A A2 n2 c2 iv R ns T Z Lk At n rm sp ans v1 v2 l _ hL hS hans hrz _ _ _ _ _ _ _ _ _ _ _ _ _ _ _ _ _ _ _ _ _ _ _ _ _ _ _ _ _ _ _ _ _ _ _ _ _ _ _ _ _ _ _ _ _ _ _ _ _ _ _ _ _ _ _ _ _ _ _ _ _ _ _ _ _ _ _ _ _ _ _ _ _ _ _ _ _ _ _ _ _ _ _ _ _ _ _ _ _ _ _ _ _ _ _ _ _ _ _ _ _ _ _ _ _ _ _ _ _ _ _ _ _ _ _ _ _ _ _ _ _ _ _ _ _ _ _ _ _ _ _ _ _ _ _ _ _ _ _ _ _ _ _ _ _ _ _ _ _ _ _ _ _ _ _ _ _ _ _ _ _ _ _ _ _ _ _ _ _ _ _
    ·exact tail_ok w W12 X5 B q bm gm gw gc NS c8 c A8 A A2 n2 c2 iv R ns T Z Lk At n rm sp ans v1 v2 l _ hL hS hans hrz _ _ _ _ _ _ _ _ _ _ _ _ _ _ _ _ _ _ _ _ _ _ _ _ _ _ _ _ _ _ _ _ _ _ _ _ _ _ _ _ _ _ _ _ _ _ _ _ _ _ _ _ _ _ _ _ _ _ _ _ _ _ _ _ _ _ _ _ _ _ _ _ _ _ _ _ _ _ _ _ _ _ _ _ _ _ _ _ _ _ _ _ _ _ _ _ _ _ _ _ _ _ _ _ _ _ _ _ _ _ _ _ _ _ _ _ _ _ _ _ _ _ _ _ _ _ _ _ _ _ _ _ _ _ _ _ _ _ _ _ _ _ _ _ _ _ _ _ _ _ _ _ _ _ _ _ _ _ _ _ _ _ _ _ _ _ _ _ _ _ _
end Go.Proofs.YtggmkofbikafhaaGreatDoor
