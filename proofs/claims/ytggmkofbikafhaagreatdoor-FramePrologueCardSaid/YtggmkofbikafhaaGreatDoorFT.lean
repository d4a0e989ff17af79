/- Walks and plain laws on the way to FramePrologue (FS, FT). Conditions: those that each theorem states. -/
import Derived.Test.YtggmkofbikafhaaGreatDoorFR
set_option linter.unusedVariables false
set_option linter.unusedSimpArgs false
set_option maxRecDepth 100000
set_option maxHeartbeats 40000000
namespace Go.Proofs.YtggmkofbikafhaaGreatDoor
open Go.RowKit Go.Lib
def epiL (Z Lk At:Nat) (l:List Int):List UInt8:=ZJD [108,119] At l l.length++atL [108,119] 14 Lk++ZCp Z++([97,100,100,32,114,49,51,32,114,49,51,32,114,49,53]++[10])++([114,101,103,32,114,49,52]++[10])
theorem epi_bad (z v1 v2 at_ lk:Int) (sl:Value) (hsl:∃A n c,sl=.slice A n c) (A:Option Addr) (c:Nat) (l:List Int) (w:World) (h:RowOf w (.slice A l.length c) l.length (l.map (Value.int .i64))) (hl:l.length≤maxLen) (ho:ownB z at_ lk l=false) :
  Calls Tryz.prog 6 #[.agg #[.int .i64 z,.int .i64 v1,.int .i64 v2,.int .i64 at_,.int .i64 lk,sl,.slice A l.length c]] w fun e w'=>e=.returned (.tuple #[.string { data:=#[] },.int .i64 5])∧Below w.heap.size w w':=by
 obtain ⟨As,ns,cs,rfl⟩:=hsl;have hal:=ZV w (.cells #[.int .i64 z,.int .i64 v1,.int .i64 v2,.int .i64 at_,.int .i64 lk,.slice As ns cs,.slice A l.length c] 24);have HO:=Zh (ZEj z v1 v2 at_ lk (.slice As ns cs) ⟨_,_,_,rfl⟩ A c l _ (h.below hal) hl);rw[ho] at HO;have HB:=Zh hal;obtain ⟨n,hn⟩:∃n,l.length=n:=⟨_,rfl⟩
 rw[hn] at HO HB ⊢;clear h hal hn ho;go_enter Tryz.func6,Tryz.ntmps6
 go_wp2_with fail
 refine HO.out.mono ?_;rintro e w1 ⟨rfl,hb1⟩;have HB1:=Zh (HB.out.trans (ZA hb1 HB.out.size));clear hb1 HO HB;go_wp2_with fail
 go_ret2
 exact ⟨rfl,HB1.out⟩
theorem epi_ok (Z Lk At:Nat) (v1 v2:Int) (sl:Value) (hsl:∃A n c,sl=.slice A n c) (A:Option Addr) (c:Nat) (l:List Int) (w:World) (h:RowOf w (.slice A l.length c) l.length (l.map (Value.int .i64))) (hl:l.length≤maxLen) (ho:ownB Z At Lk l=true) (ht:ZIp w.heap.size w) :
  Calls Tryz.prog 6 #[.agg #[.int .i64 (Z:Int),.int .i64 v1,.int .i64 v2,.int .i64 (At:Int),.int .i64 (Lk:Int),sl,.slice A l.length c]] w fun e w'=>(∃t,e=.returned (.tuple #[.string (str t),.int .i64 0])∧t≠[]∧(Z≤4096→t=epiL Z Lk At l))∧Below w.heap.size w w':=by
 obtain ⟨As,ns,cs,rfl⟩:=hsl;obtain ⟨hrg,hl7,hz1,hz2,-,hlk,-,hat⟩:=ZBw ho;have hal:=ZV w (.cells #[.int .i64 (Z:Int),.int .i64 v1,.int .i64 v2,.int .i64 (At:Int),.int .i64 (Lk:Int),.slice As ns cs,.slice A l.length c] 24);have HBX:=Zh (Blk.new w 24 #[.int .i64 (Z:Int),.int .i64 v1,.int .i64 v2,.int .i64 (At:Int),.int .i64 (Lk:Int),.slice As ns cs,.slice A l.length c]);have HO:=Zh (ZEj Z v1 v2 At Lk (.slice As ns cs) ⟨_,_,_,rfl⟩ A c l _ (h.below hal) hl);rw[ho] at HO;have HROW:=Zh (h.below hal);have HAL:=Zh hal;have HT:=Zh ht;have HRG:=Zh hrg;obtain ⟨n,hn⟩:∃n,l.length=n:=⟨_,rfl⟩
 have HN:=Zh hn;rw[hn] at HO HAL HBX HROW hl7 hat ⊢;clear h hal hn ho ht hrg hl;go_enter Tryz.func6,Tryz.ntmps6
 go_upto_region 1 with fail
 obtain ⟨q,hq⟩:∃q,w.heap.size=q:=⟨_,rfl⟩
 obtain ⟨w1,hw1⟩:∃w1,w.alloc (.cells #[.int .i64 (Z:Int),.int .i64 v1,.int .i64 v2,.int .i64 (At:Int),.int .i64 (Lk:Int),.slice As ns cs,.slice A n c] 24)=w1:=⟨_,rfl⟩
 rw[hw1,hq] at HBX;rw[hw1] at HO HAL HROW
 first|rw[hw1,hq]|(rw[hw1];try rw[hq])
 have HQ:=Zh hq;clear hw1 hq;have b0:w1.cell? ⟨q,0,none⟩=some (.int .i64 (Z:Int)):=HBX.out.cellp rfl;have b1:w1.cell? ⟨q,1,none⟩=some (.int .i64 v1):=HBX.out.cellp rfl;have b2:w1.cell? ⟨q,2,none⟩=some (.int .i64 v2):=HBX.out.cellp rfl;have b3:w1.cell? ⟨q,3,none⟩=some (.int .i64 (At:Int)):=HBX.out.cellp rfl;have b4:w1.cell? ⟨q,4,none⟩=some (.int .i64 (Lk:Int)):=HBX.out.cellp rfl;have b5:w1.cell? ⟨q,5,none⟩=some (.slice As ns cs):=HBX.out.cellp rfl;have b6:w1.cell? ⟨q,6,none⟩=some (.slice A n c):=HBX.out.cellp rfl;go_wp2_with fail
 refine HO.out.mono ?_;rintro e w2 ⟨rfl,hb2⟩;have H2:Hid (Below w.heap.size w w2∧RowOf w2 (.slice A n c) n (l.map (Value.int .i64))∧Blk w2 q 24 #[.int .i64 (Z:Int),.int .i64 v1,.int .i64 v2,.int .i64 (At:Int),.int .i64 (Lk:Int),.slice As ns cs,.slice A n c]):=⟨HAL.out.trans (ZA hb2 HAL.out.size),HROW.out.below hb2,HBX.out.below hb2 HBX.out.lt⟩
 clear hb2 b0 b1 b2 b3 b4 b5 b6 HO HAL HROW HBX;obtain ⟨b,hb⟩:∃b,w2.heap.size=b:=⟨_,rfl⟩
 have hq0:q<b:=by rw[←hb];exact H2.out.2.2.lt
 have hwb:w.heap.size≤b:=by rw[←hb];exact H2.out.1.size
 have hbl0:=ZKp hb;have HB3:=Zh (show Below w.heap.size w (w2.alloc (.cells #[.pointer none,.slice none 0 0] 91)) from H2.out.1.trans (ZA (ZV _ _) H2.out.1.size));have H3:Hid (RowOf (w2.alloc (.cells #[.pointer none,.slice none 0 0] 91)) (.slice A n c) n (l.map (Value.int .i64))∧Blk (w2.alloc (.cells #[.pointer none,.slice none 0 0] 91)) q 24 #[.int .i64 (Z:Int),.int .i64 v1,.int .i64 v2,.int .i64 (At:Int),.int .i64 (Lk:Int),.slice As ns cs,.slice A n c]):=⟨H2.out.2.1.below (ZV _ _),H2.out.2.2.alloc _⟩
 go_upto_region 4 with fail
 try rw[hb]
 obtain ⟨w3,hw3⟩:∃w3,w2.alloc (.cells #[.pointer none,.slice none 0 0] 91)=w3:=⟨_,rfl⟩
 rw[hw3] at hbl0 HB3 H3 ⊢;have HN0:=Zh (Za hbl0 (Below.refl b w3));have HRB:Hid (∀k,k<n→∃g off,A=some ⟨g,off,none⟩∧g<b∧w3.cell? ⟨g,off+k,none⟩=some (.int .i64 (l.getD k 0))):=fun k hk=>by
  have h9:=H2.out.2.1;have h8:RowOf w2 (.slice A n c) l.length (l.map (Value.int .i64)):=by rw[HN.out];exact h9
  obtain ⟨g,off,e,hg,hc⟩:=ZGB.open_ h8 (k:=k) (by rw[HN.out];exact hk);refine ⟨g,off,e,by rw[←hb];exact hg,?_⟩
  rw[←hw3]
  exact ZJ (hc k (by rw[HN.out];exact hk)) _
 clear hw3 hb hbl0 H2;have HIT:Hid (∀W,Below b w3 W→Calls Tryz.prog 24 #[.int .i64 (Z:Int)] W fun e w'=>e=.returned (.string (str (Lib.decDigits Z)))∧Below W.heap.size W w'):=fun W hW=>by
  refine (Tryz.strconv_Itoa (Z:Int) (by omega) (by omega) W (HT.out W (HB3.out.trans (hW.mono hwb)))).mono ?_;rintro e w' ⟨rfl,k,os,rfl⟩;exact ⟨by rw[ZCy];rfl,below_grow W k os⟩
 have hd1:(Lib.decDigits Z).length≤12:=ZQ (k:=12) (by omega) (by decide);have HTB:Hid (∀W,Below b w3 W→ZIp b W):=fun W hW X hX=>HT.out X (HB3.out.trans ((hW.trans hX).mono hwb));have b6:w3.cell? ⟨q,6,none⟩=some (.slice A n c):=H3.out.2.cellp rfl;go_wp2_with fail
 clear b6
 go_loopw [15] (fun v W=>∃k:Nat,k≤n∧v=.int .i64 k∧Hid (∃m,BL W b b (m)∧Below b w3 W∧m.length≤200*k∧(Z≤4096→m=ZJD [108,119] At l k))) (fun v _=>n-(Go.RowKit.intOf v).toNat)
 case atStart=>exact ⟨0,by omega,rfl,[],HN0.out.1,HN0.out.2,by simp,fun _=>rfl⟩
 case round=>
  obtain ⟨k,hk,rfl,HM⟩:=hrel;obtain ⟨m,hm1,hm2,hm3,hm4⟩:=HM.out;have HM1:=Zh (Za hm1 (Za hm2 hm4));clear HM hm1 hm2 hm4;rcases Nat.lt_or_ge k n with hlt|hge
  ·obtain ⟨g,off,hA,hg,hc⟩:=HRB.out k hlt
   subst hA;have hrg:=HRG.out k (by rw[HN.out];exact hlt);obtain ⟨R,hR⟩:∃R:Nat,l.getD k 0=(R:Int):=⟨(l.getD k 0).toNat,by omega⟩
   rw[hR] at hc hrg;have HRE:=Zh (show (l.getD k 0).toNat=R from by rw[hR];rfl);clear hR;have c0:wr.cell? ⟨g,off+k,none⟩=some (.int .i64 (R:Int)):=(HM1.out.2.1.cell (p:=⟨g,off+k,none⟩) hg).trans hc;have b3:wr.cell? ⟨q,3,none⟩=some (.int .i64 (At:Int)):=(HM1.out.2.1.cell (p:=⟨q,3,none⟩) hq0).trans (H3.out.2.cellp rfl);obtain ⟨pl,hpl⟩:∃pl,At+4*k=pl:=⟨_,rfl⟩
   have e1:IntKind.i64.wrap (4*(k:Int))=4*(k:Int):=IntWalk.i64_in _ (by omega);have e2:IntKind.i64.wrap ((At:Int)+4*(k:Int))=(pl:Int):=by rw[IntWalk.i64_in _ (by omega)];omega
   have HPL:=Zh hpl;have hkI:(k:Int)<(n:Int):=by omega
   have HA12:Hid (Calls Tryz.prog 25 #[.pointer (some ⟨b,0,none⟩),.string { data:=#[108,119] },.int .i64 (R:Int),.int .i64 (pl:Int)] wr fun e w'=>e=.returned (.tuple #[])∧(∃m',BL w' b b (m++m')∧m'.length≤200∧(pl≤32767→m'=atL [108,119] R pl))∧Below b wr w'):=ZCH b b (m) [108,119] R pl wr HM1.out.1 (HTB.out wr HM1.out.2.1) (by omega) (by omega) (by decide) (by omega);have hpz:Z≤4096→pl≤32767:=fun h=>by omega
   have HPZ:=Zh hpz;clear hc hg hrg hpl hpz;go_wp2_with fail
   refine HA12.out.mono ?_;rintro e V12 ⟨rfl,⟨m',h3,hm',hq'⟩,hb3⟩;have HX:Hid (∃m,BL V12 b b (m)∧Below b w3 V12∧m.length≤200*(k+1)∧(Z≤4096→m=ZJD [108,119] At l (k+1))):=by
    refine ⟨m++m',h3,HM1.out.2.1.trans hb3,by rw[List.length_append];omega,fun hz=>?_⟩;rw[ZFZ,HM1.out.2.2 hz,hq' (HPZ.out hz),HRE.out,HPL.out]
   clear h3 hm' hq' hb3 HA12 c0 b3 e1 e2;go_wp2_with fail
   go_roundw
   case rel=>exact ⟨k+1,by omega,by go_num,HX.out⟩
   case measure=>first|(simp[Go.RowKit.intOf];done)|(simp[Go.RowKit.intOf];omega)
  ·have hkn:k=n:=by omega
   subst hkn;have b4:wr.cell? ⟨q,4,none⟩=some (.int .i64 (Lk:Int)):=(HM1.out.2.1.cell (p:=⟨q,4,none⟩) hq0).trans (H3.out.2.cellp rfl);have HA9:Hid (Calls Tryz.prog 25 #[.pointer (some ⟨b,0,none⟩),.string { data:=#[108,119] },.int .i64 14,.int .i64 (Lk:Int)] wr fun e w'=>e=.returned (.tuple #[])∧(∃m',BL w' b b (m++m')∧m'.length≤200∧(Lk≤32767→m'=atL [108,119] 14 Lk))∧Below b wr w'):=ZCH b b m [108,119] 14 Lk wr HM1.out.1 (HTB.out wr HM1.out.2.1) (by omega) (by omega) (by decide) (by omega);go_wp2_with fail
   refine HA9.out.mono ?_;rintro e V9 ⟨rfl,⟨m9,h3,hm9,hq9⟩,hb3⟩;obtain ⟨p9,hp9⟩:∃p,m++m9=p:=⟨_,rfl⟩
   have hl9:p9.length≤3000:=by rw[←hp9,List.length_append];omega
   rw[hp9] at h3;have HP9:=Zh hp9;have HQ9:=Zh hq9;have HN9:=Zh (show BL V9 b b p9∧Below b w3 V9 from ⟨h3,HM1.out.2.1.trans hb3⟩);clear h3 hb3 hq9 HA9 b4 hp9;have b0:V9.cell? ⟨q,0,none⟩=some (.int .i64 (Z:Int)):=(HN9.out.2.cell (p:=⟨q,0,none⟩) hq0).trans (H3.out.2.cellp rfl);go_wp2_with fail
   refine (HIT.out V9 HN9.out.2).mono ?_;rintro e w4 ⟨rfl,hb4⟩;have HB4:=Zh hb4;clear hb4 b0;go_wp2_with fail
   have hal10:=ZV w4 (.cells #[.string { data:=#[99,111,110,115,116,32,114,49,53] },.string (str (Lib.decDigits Z))] 9);have hjl10:(Lib.join (([{ data:=#[99,111,110,115,116,32,114,49,53] },str (Lib.decDigits Z)]:List ByteArray).map (·.data.toList)) [32]).length≤60:=by
    simp[Lib.join,List.intercalate,List.intersperse,ZU];omega
   have HX10:=Zh (Zi b b w4.heap.size 0 2 p9 [{ data:=#[99,111,110,115,116,32,114,49,53] },str (Lib.decDigits Z)] (w4.alloc (.cells #[.string { data:=#[99,111,110,115,116,32,114,49,53] },.string (str (Lib.decDigits Z))] 9)) ((HN9.out.1.below HB4.out).below hal10) (fun j x hx=>by
    rw[Nat.zero_add,(Blk.new w4 _ _).cell]
    match j,hx with
    | 0,hx=>simp at hx;subst hx;rfl
    | 1,hx=>simp at hx;subst hx;rfl
    | j+2,hx=>simp at hx) (by simp[World.size_alloc]) (Nat.le_refl _) (by show 2≤100;omega) (by omega) (by omega))
   have hj10:Lib.join (([{ data:=#[99,111,110,115,116,32,114,49,53] },str (Lib.decDigits Z)]:List ByteArray).map (·.data.toList)) [32]++[10]=ZCp Z:=by
    simp[Lib.join,List.intercalate,List.intersperse,ZU,ZCp]
   rw[hj10] at HX10;have HAL10:=Zh hal10;clear hal10 hj10 hjl10;refine HX10.out.mono ?_;rintro e V10 ⟨rfl,h3,hb3⟩;obtain ⟨p10,hp10⟩:∃p,p9++ZCp Z=p:=⟨_,rfl⟩
   have hl10:p10.length≤3400:=by rw[←hp10,List.length_append];unfold ZCp;simp;omega
   rw[hp10] at h3;have HP10:=Zh hp10;have HN10:=Zh (show BL V10 b b p10∧Below b w3 V10 from ⟨h3,HN9.out.2.trans ((HB4.out.mono (by have:=HN9.out.1.le;omega)).trans ((HAL10.out.mono (by have:=HB4.out.size;have:=HN9.out.1.le;omega)).trans hb3))⟩);clear h3 hb3 HX10 HAL10 hp10 HB4;go_wp2_with fail
   have hal11:=ZV V10 (.cells #[.string { data:=#[97,100,100,32,114,49,51,32,114,49,51,32,114,49,53] }] 9);have HX11:=Zh (Zi b b V10.heap.size 0 1 p10 [{ data:=#[97,100,100,32,114,49,51,32,114,49,51,32,114,49,53] }] (V10.alloc (.cells #[.string { data:=#[97,100,100,32,114,49,51,32,114,49,51,32,114,49,53] }] 9)) (HN10.out.1.below hal11) (fun j x hx=>by
    rw[Nat.zero_add,(Blk.new V10 _ _).cell]
    match j,hx with
    | 0,hx=>simp at hx;subst hx;rfl
    | j+1,hx=>simp at hx) (by simp[World.size_alloc]) (Nat.le_refl _) (by show 1≤100;omega) (by simp[Lib.join,List.intercalate,List.intersperse]) (by omega))
   have hj11:Lib.join (([{ data:=#[97,100,100,32,114,49,51,32,114,49,51,32,114,49,53] }]:List ByteArray).map (·.data.toList)) [32]++[10]=[97,100,100,32,114,49,51,32,114,49,51,32,114,49,53]++[10]:=by
    simp[Lib.join,List.intercalate,List.intersperse]
   rw[hj11] at HX11;have HAL11:=Zh hal11;clear hal11 hj11;refine HX11.out.mono ?_;rintro e V11 ⟨rfl,h3,hb3⟩;obtain ⟨p11,hp11⟩:∃p,p10++([97,100,100,32,114,49,51,32,114,49,51,32,114,49,53]++[10])=p:=⟨_,rfl⟩
   have hl11:p11.length≤4100:=by rw[←hp11,List.length_append];simp;omega
   rw[hp11] at h3;have HP11:=Zh hp11;have HN11:=Zh (show BL V11 b b p11∧Below b w3 V11 from ⟨h3,HN10.out.2.trans ((HAL11.out.mono (by have:=HN10.out.1.le;omega)).trans hb3)⟩);clear h3 hb3 HX11 HAL11 hp11;go_wp2_with fail
   have hal12:=ZV V11 (.cells #[.string { data:=#[114,101,103,32,114,49,52] }] 9);have HX12:=Zh (Zi b b V11.heap.size 0 1 p11 [{ data:=#[114,101,103,32,114,49,52] }] (V11.alloc (.cells #[.string { data:=#[114,101,103,32,114,49,52] }] 9)) (HN11.out.1.below hal12) (fun j x hx=>by
    rw[Nat.zero_add,(Blk.new V11 _ _).cell]
    match j,hx with
    | 0,hx=>simp at hx;subst hx;rfl
    | j+1,hx=>simp at hx) (by simp[World.size_alloc]) (Nat.le_refl _) (by show 1≤100;omega) (by simp[Lib.join,List.intercalate,List.intersperse]) (by omega))
   have hj12:Lib.join (([{ data:=#[114,101,103,32,114,49,52] }]:List ByteArray).map (·.data.toList)) [32]++[10]=[114,101,103,32,114,49,52]++[10]:=by
    simp[Lib.join,List.intercalate,List.intersperse]
   rw[hj12] at HX12;have HAL12:=Zh hal12;clear hal12 hj12;refine HX12.out.mono ?_;rintro e V12 ⟨rfl,h3,hb3⟩;obtain ⟨p12,hp12⟩:∃p,p11++([114,101,103,32,114,49,52]++[10])=p:=⟨_,rfl⟩
   have hl12:p12.length≤4200:=by rw[←hp12,List.length_append];simp;omega
   rw[hp12] at h3;have HP12:=Zh hp12;have HN12:=Zh (show BL V12 b b p12∧Below b w3 V12 from ⟨h3,HN11.out.2.trans ((HAL12.out.mono (by have:=HN11.out.1.le;omega)).trans hb3)⟩);clear h3 hb3 HX12 HAL12 hp12;have hne:p12≠[]:=by
    rw[←HP12.out]
    simp
   have HSG:=Zh (ZD4 b b p12 V12 HN12.out.1 hne);clear hne;go_wp2_with fail
   refine HSG.out.mono ?_;rintro e V13 ⟨rfl,hb3⟩;have HZ:Hid (Below w.heap.size w V13):=HB3.out.trans ((HN12.out.2.trans hb3).mono hwb);clear hb3 HSG;go_wp2_with fail
   go_ret2
   refine ⟨⟨p12,by rfl,?_,fun hz=>?_⟩,HZ.out⟩
   ·rw[←HP12.out]
    simp
   ·rw[←HP12.out,←HP11.out,←HP10.out,←HP9.out,HQ9.out (by omega),HM1.out.2.2 hz]
    unfold epiL;rw[HN.out]
theorem ZHO (z a lk:Int) (l:List Int):ownB z a lk l=true↔(∀k,k<l.length→okS l k=true)∧z.tmod 16=0∧16≤z∧z≤16777216∧a.tmod 4=0∧lk.tmod 4=0∧0≤a∧0≤lk∧lk≤z-4∧a≤z-4*l.length∧(l.length=0∨lk+4≤a∨a+4*l.length≤lk):=by
 unfold ownB szB wiB meB;simp only[Bool.and_eq_true,decide_eq_true_eq,Bool.not_eq_true',Bool.and_eq_false_iff,decide_eq_false_iff_not]
 constructor
 ·rintro ⟨h1,⟨⟨h2,h3⟩,h4⟩,⟨⟨⟨h5,h6⟩,h7⟩,h8⟩,⟨⟨⟨h9,h10⟩,h11⟩,h12⟩,h13⟩
  have e1:=Int.tmod_eq_emod_of_nonneg (b:=16) (show 0≤z by omega);have e2:=Int.tmod_eq_emod_of_nonneg (b:=4) h5;have e3:=Int.tmod_eq_emod_of_nonneg (b:=4) h9;exact ⟨fun k hk=>ZC2 h1 hk,by rw[e1];exact h4,h2,h3,by rw[e2];exact h6,by rw[e3];exact h10,h5,h9,by omega,by omega,by omega⟩
 ·rintro ⟨h1,h2,h3,h4,h5,h6,h7,h8,h9,h10,h11⟩
  have e1:=Int.tmod_eq_emod_of_nonneg (b:=16) (show 0≤z by omega);have e2:=Int.tmod_eq_emod_of_nonneg (b:=4) h7;have e3:=Int.tmod_eq_emod_of_nonneg (b:=4) h8;rw[e1] at h2;rw[e2] at h5;rw[e3] at h6;exact ⟨ZD7 h1,⟨⟨h3,h4⟩,h2⟩,⟨⟨⟨h7,h5⟩,by omega⟩,h10⟩,⟨⟨⟨h8,h6⟩,by omega⟩,h9⟩,by omega⟩
theorem be (b:Bool):b=false∨b=true:=by cases b<;>simp
theorem ZD5 (z v1 v2 at_ lk:Int) (sl:Value) (hsl:∃A n c,sl=.slice A n c) (A:Option Addr) (c:Nat) (l:List Int) (w:World) (h:RowOf w (.slice A l.length c) l.length (l.map (Value.int .i64))) (hl:l.length≤2^50) :
  Calls Tryz.prog 7 #[.agg #[.int .i64 z,.int .i64 v1,.int .i64 v2,.int .i64 at_,.int .i64 lk,sl,.slice A l.length c]] w fun e w'=>e=.returned (.bool (ownB z at_ lk l))∧Below w.heap.size w w':=by
 obtain ⟨As,ns,cs,rfl⟩:=hsl;have hal:=ZV w (.cells #[.int .i64 z,.int .i64 v1,.int .i64 v2,.int .i64 at_,.int .i64 lk,.slice As ns cs,.slice A l.length c] 24);have HL:=Zh (h.below hal);have HAL:=Zh hal;have HBL:=Zh (Blk.new w 24 #[.int .i64 z,.int .i64 v1,.int .i64 v2,.int .i64 at_,.int .i64 lk,.slice As ns cs,.slice A l.length c]);have HQ:=Zh (ZHO z at_ lk l);obtain ⟨R,hR⟩:∃R:Bool,ownB z at_ lk l=R:=⟨_,rfl⟩
 rw[hR] at HQ ⊢;obtain ⟨n,hn⟩:∃n,l.length=n:=⟨_,rfl⟩
 have HN:=Zh hn;rw[hn] at HL HAL HBL hl HQ ⊢;clear h hal hR hn;go_enter Tryz.func7,Tryz.ntmps7
 go_upto_region 1 with fail
 obtain ⟨q,hq⟩:∃q,w.heap.size=q:=⟨_,rfl⟩
 obtain ⟨w1,hw1⟩:∃w1,w.alloc (.cells #[.int .i64 z,.int .i64 v1,.int .i64 v2,.int .i64 at_,.int .i64 lk,.slice As ns cs,.slice A n c] 24)=w1:=⟨_,rfl⟩
 rw[hw1,hq] at HBL;rw[hw1] at HL HAL
 first|rw[hw1,hq]|(rw[hw1];try rw[hq])
 have HQ0:=Zh hq;clear hw1 hq;have b0:w1.cell? ⟨q,0,none⟩=some (.int .i64 z):=HBL.out.cellp rfl;have b3:w1.cell? ⟨q,3,none⟩=some (.int .i64 at_):=HBL.out.cellp rfl;have b4:w1.cell? ⟨q,4,none⟩=some (.int .i64 lk):=HBL.out.cellp rfl;have b6:w1.cell? ⟨q,6,none⟩=some (.slice A n c):=HBL.out.cellp rfl;obtain ⟨m1,e1⟩:∃m,z.tmod 16=m:=⟨_,rfl⟩
 rcases be (m1==0) with g1|g1
 ·have HX:Hid (Ending.returned (.bool false)=.returned (.bool R)):=Zq (by
   rcases be R with hr|hr
   ·exact hr.symm
   ·have hh:=HQ.out.1 hr
    exfalso
    exact absurd (show m1=0 by rw[←e1];omega) (by simpa using g1))
  have d1:¬m1=0:=by simpa using g1
  clear HQ;go_wp2_with fail
  go_ret;exact ⟨HX.out,HAL.out⟩
 have m1z:m1=0:=by simpa using g1
 subst m1z;clear g1;rcases be (decide (z<16)) with g2|g2;rotate_left
 ·have HX:Hid (Ending.returned (.bool false)=.returned (.bool R)):=Zq (by
   rcases be R with hr|hr
   ·exact hr.symm
   ·have hh:=HQ.out.1 hr
    exfalso
    have:=of_decide_eq_true g2;omega)
  clear HQ;go_wp2_with fail
  go_ret;exact ⟨HX.out,HAL.out⟩
 have k2:=of_decide_eq_false g2;have K2:=Zh (Za k2 trivial);clear k2;rcases be (decide (16777216<z)) with g3|g3;rotate_left
 ·have HX:Hid (Ending.returned (.bool false)=.returned (.bool R)):=Zq (by
   rcases be R with hr|hr
   ·exact hr.symm
   ·have hh:=HQ.out.1 hr
    exfalso
    have:=of_decide_eq_true g3;omega)
  clear HQ;go_wp2_with fail
  go_ret;exact ⟨HX.out,HAL.out⟩
 have k3:=of_decide_eq_false g3;have K3:=Zh (Za k3 trivial);clear k3;obtain ⟨m4,e4⟩:∃m,at_.tmod 4=m:=⟨_,rfl⟩
 rcases be (m4==0) with g4|g4
 ·have HX:Hid (Ending.returned (.bool false)=.returned (.bool R)):=Zq (by
   rcases be R with hr|hr
   ·exact hr.symm
   ·have hh:=HQ.out.1 hr
    exfalso
    exact absurd (show m4=0 by rw[←e4];omega) (by simpa using g4))
  have d4:¬m4=0:=by simpa using g4
  clear HQ;go_wp2_with fail
  go_ret;exact ⟨HX.out,HAL.out⟩
 have m4z:m4=0:=by simpa using g4
 subst m4z;clear g4;obtain ⟨m5,e5⟩:∃m,lk.tmod 4=m:=⟨_,rfl⟩
 rcases be (m5==0) with g5|g5
 ·have HX:Hid (Ending.returned (.bool false)=.returned (.bool R)):=Zq (by
   rcases be R with hr|hr
   ·exact hr.symm
   ·have hh:=HQ.out.1 hr
    exfalso
    exact absurd (show m5=0 by rw[←e5];omega) (by simpa using g5))
  have d5:¬m5=0:=by simpa using g5
  clear HQ;go_wp2_with fail
  go_ret;exact ⟨HX.out,HAL.out⟩
 have m5z:m5=0:=by simpa using g5
 subst m5z;clear g5;rcases be (decide (at_<0)) with g6|g6;rotate_left
 ·have HX:Hid (Ending.returned (.bool false)=.returned (.bool R)):=Zq (by
   rcases be R with hr|hr
   ·exact hr.symm
   ·have hh:=HQ.out.1 hr
    exfalso
    have:=of_decide_eq_true g6;omega)
  clear HQ;go_wp2_with fail
  go_ret;exact ⟨HX.out,HAL.out⟩
 have k6:=of_decide_eq_false g6;have K6:=Zh (Za k6 trivial);clear k6;rcases be (decide (lk<0)) with g7|g7;rotate_left
 ·have HX:Hid (Ending.returned (.bool false)=.returned (.bool R)):=Zq (by
   rcases be R with hr|hr
   ·exact hr.symm
   ·have hh:=HQ.out.1 hr
    exfalso
    have:=of_decide_eq_true g7;omega)
  clear HQ;go_wp2_with fail
  go_ret;exact ⟨HX.out,HAL.out⟩
 have k7:=of_decide_eq_false g7;have K7:=Zh (Za k7 trivial);clear k7;have e8:IntKind.i64.wrap (z-4)=z-4:=IntWalk.i64_in _ (by have:=K2.out.1;have:=K3.out.1;omega);rcases be (decide (z-4<lk)) with g8|g8;rotate_left
 ·have HX:Hid (Ending.returned (.bool false)=.returned (.bool R)):=Zq (by
   rcases be R with hr|hr
   ·exact hr.symm
   ·have hh:=HQ.out.1 hr
    exfalso
    have:=of_decide_eq_true g8;omega)
  clear HQ;go_wp2_with fail
  go_ret;exact ⟨HX.out,HAL.out⟩
 have k8:=of_decide_eq_false g8;have K8:=Zh (Za k8 trivial);clear k8;have e9:IntKind.i64.wrap (4*(n:Int))=4*(n:Int):=IntWalk.i64_in _ (by omega);have e10:IntKind.i64.wrap (z-4*(n:Int))=z-4*(n:Int):=IntWalk.i64_in _ (by have:=K2.out.1;have:=K3.out.1;omega);rcases be (decide (z-4*(n:Int)<at_)) with g9|g9;rotate_left
 ·have HX:Hid (Ending.returned (.bool false)=.returned (.bool R)):=Zq (by
   rcases be R with hr|hr
   ·exact hr.symm
   ·have hh:=HQ.out.1 hr
    exfalso
    have:=of_decide_eq_true g9;omega)
  clear HQ;go_wp2_with fail
  go_ret;exact ⟨HX.out,HAL.out⟩
 have k9:=of_decide_eq_false g9;have K9:=Zh (Za k9 trivial);clear k9;have HQ2:Hid (R=true↔(∀k,k<n→okS l k=true)∧(n=0∨lk+4≤at_∨at_+4*(n:Int)≤lk)):=by
  show _↔_;rw[HQ.out];have:=K2.out.1;have:=K3.out.1;have:=K6.out.1;have:=K7.out.1;have:=K8.out.1;have:=K9.out.1;exact ⟨fun h=>⟨h.1,h.2.2.2.2.2.2.2.2.2.2⟩,fun h=>⟨h.1,e1,by omega,by omega,e4,e5,by omega,by omega,by omega,by omega,h.2⟩⟩
 have HB:=Zh (show 0≤at_∧at_≤16777216∧0≤lk∧lk≤16777216∧n≤16777216 from by
  have:=K2.out.1;have:=K3.out.1;have:=K6.out.1;have:=K7.out.1;have:=K8.out.1;have:=K9.out.1
  omega)
 clear HQ K2 K3 K6 K7 K8 K9;go_wp2_with fail
 clear e1 e4 e5 e8 e9 e10 g2 g3 g6 g7 g8 g9 b0 b3 b4 b6
 go_loopw [3] (fun v W=>∃k:Nat,k≤n∧v=.int .i64 k∧Hid (Below w1.heap.size w1 W)∧Hid (∀j,j<k→okS l j=true)) (fun v _=>n-(Go.RowKit.intOf v).toNat)
 case atStart=>exact ⟨0,by omega,rfl,Below.refl _ _,fun j h=>by omega⟩
 case round=>
  obtain ⟨k,hk,rfl,HW,HO⟩:=hrel;have b6:wr.cell? ⟨q,6,none⟩=some (.slice A n c):=(HBL.out.below HW.out HBL.out.lt).cellp rfl;rcases Nat.lt_or_ge k n with hlt|hge
  ·have hkl:k<l.length:=by rw[HN.out];exact hlt
   have hrow:RowOf wr (.slice A n c) l.length (l.map (Value.int .i64)):=by rw[HN.out];exact HL.out.below HW.out
   obtain ⟨g,off,rfl,hg,hc⟩:=ZGB.open_ hrow hkl;have c0:=hc k hkl;have HP:=Zh (fun (hk0:0<k)=>hc (k-1) (by omega));obtain ⟨r,hr⟩:∃r,l.getD k 0=r:=⟨_,rfl⟩
   rw[hr] at c0;have HRR:=Zh hr;have hkI:(k:Int)<(n:Int):=by omega
   clear hc hrow hg hr;have HF:Hid (okS l k=false→Ending.returned (.bool false)=.returned (.bool R)):=fun h=>Zq (by
    rcases be R with hr|hr
    ·exact hr.symm
    ·rw[(HQ2.out.1 hr).1 k hlt] at h
     cases h)
   have HROW:=Zh hkl;rcases be (decide (r<4)) with g1|g1;rotate_left
   ·have HX:=Zh (HF.out (by unfold okS;rw[HRR.out];have:=of_decide_eq_true g1;rw[decide_eq_false (show ¬4≤r by omega)];rfl))
    clear HF;go_wp2_with fail
    go_quiet (fail)
    have HW2:Hid (Below w1.heap.size w1 (wr.drewN nq)):=HW.out.trans (ZM (Below.refl _ _) _);clear b6 HW c0;generalize wr.drewN nq=w2 at HW2 ⊢;go_wp2_with fail
    go_ret;exact ⟨HX.out,HAL.out.trans (HW2.out.mono HAL.out.size)⟩
   ·rcases be (decide (10<r)) with g2|g2
    rotate_left
    ·have HX:=Zh (HF.out (by unfold okS;rw[HRR.out];have:=of_decide_eq_true g2;rw[decide_eq_false (show ¬r≤10 by omega),Bool.and_false];rfl))
     clear HF;go_wp2_with fail
     go_quiet (fail)
     have HW2:Hid (Below w1.heap.size w1 (wr.drewN nq)):=HW.out.trans (ZM (Below.refl _ _) _);clear b6 HW c0;generalize wr.drewN nq=w2 at HW2 ⊢;go_wp2_with fail
     go_ret;exact ⟨HX.out,HAL.out.trans (HW2.out.mono HAL.out.size)⟩
    ·have G:=Zh (show 4≤r∧r≤10 from ⟨by have:=of_decide_eq_false g1;omega,by have:=of_decide_eq_false g2;omega⟩)
     rcases Nat.eq_zero_or_pos k with hk0|hk0
     ·have g3:decide ((0:Int)<(k:Int))=false:=decide_eq_false (by omega)
      have HX:Hid (∀j,j<k+1→okS l j=true):=fun j hj=>by
       have:j=k:=by omega
       subst this;unfold okS;rw[HRR.out,decide_eq_true G.out.1,decide_eq_true G.out.2,decide_eq_true hk0]
       rfl
      have g3':decide (0<k)=false:=decide_eq_false (by omega);clear hk0;clear HF;go_wp2_with fail
      go_quiet (fail)
      have HW2:Hid (Below w1.heap.size w1 (wr.drewN nq)):=HW.out.trans (ZM (Below.refl _ _) _);clear b6 HW c0;generalize wr.drewN nq=w2 at HW2 ⊢;go_wp2_with fail
      go_roundw
      case rel=>exact ⟨k+1,by omega,by go_num,HW2.out,HX.out⟩
      case measure=>first|(simp[Go.RowKit.intOf];done)|(simp[Go.RowKit.intOf];omega)
     ·have c1:=HP.out hk0
      have g3:decide ((0:Int)<(k:Int))=true:=decide_eq_true (by omega);obtain ⟨k1,hk1⟩:∃k1,k-1=k1:=⟨_,rfl⟩
      obtain ⟨r1,hr1⟩:∃r1,l.getD (k-1) 0=r1:=⟨_,rfl⟩
      rw[hr1,hk1] at c1;have HR1:=Zh hr1;have e1:IntKind.i64.wrap ((k:Int)-1)=(k1:Int):=by rw[IntWalk.i64_in _ (by omega)];omega
      have hk1I:(k1:Int)<(n:Int):=by omega
      have hk1N:k1<n:=by omega
      have hkne:¬k=0:=by omega
      have HKN:=Zh (Za hkne hk0);clear hr1 hk1 hkne;rcases be (decide (r≤r1)) with g4|g4;rotate_left
      ·have HX:=Zh (HF.out (by unfold okS;rw[HRR.out,HR1.out];have:=of_decide_eq_true g4;rw[decide_eq_false (show ¬r1<r by omega),decide_eq_false HKN.out.1,Bool.or_false,Bool.and_false]))
       clear HF;go_wp2_with fail
       go_quiet (fail)
       have HW2:Hid (Below w1.heap.size w1 (wr.drewN nq)):=HW.out.trans (ZM (Below.refl _ _) _);clear b6 HW c0;generalize wr.drewN nq=w2 at HW2 ⊢;go_wp2_with fail
       go_ret;exact ⟨HX.out,HAL.out.trans (HW2.out.mono HAL.out.size)⟩
      ·have HX:Hid (∀j,j<k+1→okS l j=true):=fun j hj=>by
        rcases Nat.lt_or_ge j k with h|h
        ·exact HO.out j h
        ·have:j=k:=by omega
         subst this;unfold okS;have:=of_decide_eq_false g4;rw[HRR.out,HR1.out,decide_eq_true G.out.1,decide_eq_true G.out.2,decide_eq_true (show r1<r by omega),Bool.or_true]
         rfl
       clear HF;go_wp2_with fail
       go_quiet (fail)
       have HW2:Hid (Below w1.heap.size w1 (wr.drewN nq)):=HW.out.trans (ZM (Below.refl _ _) _);clear b6 HW c0;generalize wr.drewN nq=w2 at HW2 ⊢;go_wp2_with fail
       go_roundw
       case rel=>exact ⟨k+1,by omega,by go_num,HW2.out,HX.out⟩
       case measure=>first|(simp[Go.RowKit.intOf];done)|(simp[Go.RowKit.intOf];omega)
  ·have hkn:k=n:=by omega
   subst hkn;have HZ:Hid (Below w.heap.size w wr):=HAL.out.trans (HW.out.mono HAL.out.size);have b3:wr.cell? ⟨q,3,none⟩=some (.int .i64 at_):=(HBL.out.below HW.out HBL.out.lt).cellp rfl;have b4:wr.cell? ⟨q,4,none⟩=some (.int .i64 lk):=(HBL.out.below HW.out HBL.out.lt).cellp rfl;have e1:IntKind.i64.wrap (lk+4)=lk+4:=IntWalk.i64_in _ (by have:=HB.out;omega);have e2:IntKind.i64.wrap (4*(k:Int))=4*(k:Int):=IntWalk.i64_in _ (by have:=HB.out;omega);have e3:IntKind.i64.wrap (at_+4*(k:Int))=at_+4*(k:Int):=IntWalk.i64_in _ (by have:=HB.out;omega);have HV:Hid ((decide (k=0) || (decide (lk+4≤at_) || decide (at_+4*(k:Int)≤lk)))=R):=by
    show _=_;rw[Bool.eq_iff_iff,HQ2.out];simp only[Bool.or_eq_true,decide_eq_true_eq];exact ⟨fun h=>⟨HO.out,h⟩,fun h=>h.2⟩
   clear HQ2 hk hge;rcases Nat.eq_zero_or_pos k with hk0|hk0
   ·have HX:Hid (Ending.returned (.bool true)=.returned (.bool R)):=Zq (by rw[←HV.out,decide_eq_true hk0];rfl)
    have z1:((k:Int)==0)=true:=by rw[hk0];rfl
    have z2:(k:Int)=0:=by omega
    go_wp2_with fail
    go_ret;exact ⟨HX.out,HZ.out⟩
   ·have z1:((k:Int)==0)=false:=beq_eq_false_iff_ne.2 (by omega)
    have z2:¬(k:Int)=0:=by omega
    have z3:¬k=0:=by omega
    have HY:=HV.out;rw[decide_eq_false z3,Bool.false_or] at HY;have HY2:=Zh HY;clear HY;rcases be (decide (lk+4≤at_)) with g1|g1
    ·have HX:Hid (Ending.returned (.bool (decide (at_+4*(k:Int)≤lk)))=.returned (.bool R)):=Zq (by rw[←HY2.out,g1];rfl)
     go_wp2_with fail
     go_ret;exact ⟨HX.out,HZ.out⟩
    ·have HX:Hid (Ending.returned (.bool true)=.returned (.bool R)):=Zq (by rw[←HY2.out,g1];rfl)
     go_wp2_with fail
     go_ret;exact ⟨HX.out,HZ.out⟩
end Go.Proofs.YtggmkofbikafhaaGreatDoor
