/- Walks and plain laws on the way to FramePrologue (FR). Conditions: those that each theorem states. -/
import Derived.Test.YtggmkofbikafhaaGreatDoorFQ
set_option linter.unusedVariables false
set_option linter.unusedSimpArgs false
set_option maxRecDepth 100000
set_option maxHeartbeats 40000000
namespace Go.Proofs.YtggmkofbikafhaaGreatDoor
open Go.RowKit Go.Lib
def ZJD (op:List UInt8) (At:Nat) (l:List Int) (k:Nat):List UInt8:=(List.range k).flatMap fun i=>atL op (l.getD i 0).toNat (At+4*i)
theorem ZFZ (op:List UInt8) (At:Nat) (l:List Int) (k:Nat):ZJD op At l (k+1)=ZJD op At l k++atL op (l.getD k 0).toNat (At+4*k):=by
 unfold ZJD;rw[List.range_succ,List.flatMap_append];simp
def ZCp (Z:Nat):List UInt8:=[99,111,110,115,116,32,114,49,53]++32::Lib.decDigits Z++[10]
def proL (Z Lk At:Nat) (l:List Int):List UInt8:=ZCp Z++([98,108,117,32,114,49,51,32,114,49,53,32,51]++[10])++([115,117,98,32,114,49,53,32,114,49,51,32,114,49,53]++[10])++([98,108,117,32,114,49,53,32,114,49,50,32,49]++[10])++([106,117,109,112,32,49]++[10])++([116,114,97,112,32,49]++[10])++([97,100,100,105,32,114,49,51,32,114,49,53,32,48]++[10])++atL [115,119] 14 Lk++ZJD [115,119] At l l.length
theorem ZKp {w:World} {b:Nat} (hb:w.heap.size=b):BL (w.alloc (.cells #[.pointer none,.slice none 0 0] 91)) b b []:=by
 subst hb;exact ZEy w
theorem ZBw {z at_ lk:Int} {l:List Int} (h:ownB z at_ lk l=true):(∀k,k<l.length→4≤l.getD k 0∧l.getD k 0≤10)∧l.length≤7∧16≤z∧z≤16777216∧0≤lk∧lk≤z-4∧0≤at_∧at_+4*l.length≤z:=by
 unfold ownB at h;simp only[Bool.and_eq_true] at h;obtain ⟨h1,h2,h3,h4,-⟩:=h;have hk:=fun k hk=>ZC2 h1 (k:=k) hk;unfold szB at h2;unfold wiB at h3 h4;simp only[Bool.and_eq_true,decide_eq_true_eq] at h2 h3 h4;refine ⟨fun k hk'=>?_,ZD8 hk,by omega,by omega,by omega,by omega,by omega,by omega⟩;have:=hk k hk';unfold okS at this;simp only[Bool.and_eq_true,decide_eq_true_eq] at this;omega
theorem pro_bad (z v1 v2 at_ lk:Int) (sl:Value) (hsl:∃A n c,sl=.slice A n c) (A:Option Addr) (c:Nat) (l:List Int) (w:World) (h:RowOf w (.slice A l.length c) l.length (l.map (Value.int .i64))) (hl:l.length≤maxLen) (ho:ownB z at_ lk l=false) :
  Calls Tryz.prog 5 #[.agg #[.int .i64 z,.int .i64 v1,.int .i64 v2,.int .i64 at_,.int .i64 lk,sl,.slice A l.length c]] w fun e w'=>e=.returned (.tuple #[.string { data:=#[] },.int .i64 5])∧Below w.heap.size w w':=by
 obtain ⟨As,ns,cs,rfl⟩:=hsl;have hal:=ZV w (.cells #[.int .i64 z,.int .i64 v1,.int .i64 v2,.int .i64 at_,.int .i64 lk,.slice As ns cs,.slice A l.length c] 24);have HO:=Zh (ZEj z v1 v2 at_ lk (.slice As ns cs) ⟨_,_,_,rfl⟩ A c l _ (h.below hal) hl);rw[ho] at HO;have HB:=Zh hal;obtain ⟨n,hn⟩:∃n,l.length=n:=⟨_,rfl⟩
 rw[hn] at HO HB ⊢;clear h hal hn ho;go_enter Tryz.func5,Tryz.ntmps5
 go_wp2_with fail
 refine HO.out.mono ?_;rintro e w1 ⟨rfl,hb1⟩;have HB1:=Zh (HB.out.trans (ZA hb1 HB.out.size));clear hb1 HO HB;go_wp2_with fail
 go_ret2
 exact ⟨rfl,HB1.out⟩
theorem pro_ok (Z Lk At:Nat) (v1 v2:Int) (sl:Value) (hsl:∃A n c,sl=.slice A n c) (A:Option Addr) (c:Nat) (l:List Int) (w:World) (h:RowOf w (.slice A l.length c) l.length (l.map (Value.int .i64))) (hl:l.length≤maxLen) (ho:ownB Z At Lk l=true) (ht:ZIp w.heap.size w) :
  Calls Tryz.prog 5 #[.agg #[.int .i64 (Z:Int),.int .i64 v1,.int .i64 v2,.int .i64 (At:Int),.int .i64 (Lk:Int),sl,.slice A l.length c]] w fun e w'=>(∃t,e=.returned (.tuple #[.string (str t),.int .i64 0])∧t≠[]∧(Z≤4096→t=proL Z Lk At l))∧Below w.heap.size w w':=by
 obtain ⟨As,ns,cs,rfl⟩:=hsl;obtain ⟨hrg,hl7,hz1,hz2,-,hlk,-,hat⟩:=ZBw ho;have hal:=ZV w (.cells #[.int .i64 (Z:Int),.int .i64 v1,.int .i64 v2,.int .i64 (At:Int),.int .i64 (Lk:Int),.slice As ns cs,.slice A l.length c] 24);have HBX:=Zh (Blk.new w 24 #[.int .i64 (Z:Int),.int .i64 v1,.int .i64 v2,.int .i64 (At:Int),.int .i64 (Lk:Int),.slice As ns cs,.slice A l.length c]);have HO:=Zh (ZEj Z v1 v2 At Lk (.slice As ns cs) ⟨_,_,_,rfl⟩ A c l _ (h.below hal) hl);rw[ho] at HO;have HROW:=Zh (h.below hal);have HAL:=Zh hal;have HT:=Zh ht;have HRG:=Zh hrg;obtain ⟨n,hn⟩:∃n,l.length=n:=⟨_,rfl⟩
 have HN:=Zh hn;rw[hn] at HO HAL HBX HROW hl7 hat ⊢;clear h hal hn ho ht hrg hl;go_enter Tryz.func5,Tryz.ntmps5
 go_upto_region 1 with fail
 obtain ⟨q,hq⟩:∃q,w.heap.size=q:=⟨_,rfl⟩
 obtain ⟨w1,hw1⟩:∃w1,w.alloc (.cells #[.int .i64 (Z:Int),.int .i64 v1,.int .i64 v2,.int .i64 (At:Int),.int .i64 (Lk:Int),.slice As ns cs,.slice A n c] 24)=w1:=⟨_,rfl⟩
 rw[hw1,hq] at HBX;rw[hw1] at HO HAL HROW
 first|rw[hw1,hq]|(rw[hw1];try rw[hq])
 have HQ:=Zh hq;clear hw1 hq;have b0:w1.cell? ⟨q,0,none⟩=some (.int .i64 (Z:Int)):=HBX.out.cellp rfl;have b1:w1.cell? ⟨q,1,none⟩=some (.int .i64 v1):=HBX.out.cellp rfl;have b2:w1.cell? ⟨q,2,none⟩=some (.int .i64 v2):=HBX.out.cellp rfl;have b3:w1.cell? ⟨q,3,none⟩=some (.int .i64 (At:Int)):=HBX.out.cellp rfl;have b4:w1.cell? ⟨q,4,none⟩=some (.int .i64 (Lk:Int)):=HBX.out.cellp rfl;have b5:w1.cell? ⟨q,5,none⟩=some (.slice As ns cs):=HBX.out.cellp rfl;have b6:w1.cell? ⟨q,6,none⟩=some (.slice A n c):=HBX.out.cellp rfl;go_wp2_with fail
 refine HO.out.mono ?_;rintro e w2 ⟨rfl,hb2⟩;have H2:Hid (Below w.heap.size w w2∧RowOf w2 (.slice A n c) n (l.map (Value.int .i64))∧Blk w2 q 24 #[.int .i64 (Z:Int),.int .i64 v1,.int .i64 v2,.int .i64 (At:Int),.int .i64 (Lk:Int),.slice As ns cs,.slice A n c]):=⟨HAL.out.trans (ZA hb2 HAL.out.size),HROW.out.below hb2,HBX.out.below hb2 HBX.out.lt⟩
 clear hb2 b0 b1 b2 b3 b4 b5 b6 HO HAL HROW HBX;obtain ⟨b,hb⟩:∃b,w2.heap.size=b:=⟨_,rfl⟩
 have hq0:q<b:=by rw[←hb];exact H2.out.2.2.lt
 have hwb:w.heap.size≤b:=by rw[←hb];exact H2.out.1.size
 have hbl0:=ZKp hb;have HB3:=Zh (show Below w.heap.size w (w2.alloc (.cells #[.pointer none,.slice none 0 0] 91)) from H2.out.1.trans (ZA (ZV _ _) H2.out.1.size));have H3:Hid (RowOf (w2.alloc (.cells #[.pointer none,.slice none 0 0] 91)) (.slice A n c) n (l.map (Value.int .i64))∧Blk (w2.alloc (.cells #[.pointer none,.slice none 0 0] 91)) q 24 #[.int .i64 (Z:Int),.int .i64 v1,.int .i64 v2,.int .i64 (At:Int),.int .i64 (Lk:Int),.slice As ns cs,.slice A n c]):=⟨H2.out.2.1.below (ZV _ _),H2.out.2.2.alloc _⟩
 go_upto_region 4 with fail
 try rw[hb]
 obtain ⟨w3,hw3⟩:∃w3,w2.alloc (.cells #[.pointer none,.slice none 0 0] 91)=w3:=⟨_,rfl⟩
 rw[hw3] at hbl0 HB3 H3 ⊢;have HN0:=Zh (Za hbl0 (Below.refl b w3));have HRB:Hid (∀k,k<n→∃g off,A=some ⟨g,off,none⟩∧g<b∧w3.cell? ⟨g,off+k,none⟩=some (.int .i64 (l.getD k 0))):=fun k hk=>by
  have h9:=H2.out.2.1;have h8:RowOf w2 (.slice A n c) l.length (l.map (Value.int .i64)):=by rw[HN.out];exact h9
  obtain ⟨g,off,e,hg,hc⟩:=ZGB.open_ h8 (k:=k) (by rw[HN.out];exact hk);refine ⟨g,off,e,by rw[←hb];exact hg,?_⟩
  rw[←hw3]
  exact ZJ (hc k (by rw[HN.out];exact hk)) _
 clear hw3 hb hbl0 H2;have b0:w3.cell? ⟨q,0,none⟩=some (.int .i64 (Z:Int)):=H3.out.2.cellp rfl;have HIT:Hid (∀W,Below b w3 W→Calls Tryz.prog 24 #[.int .i64 (Z:Int)] W fun e w'=>e=.returned (.string (str (Lib.decDigits Z)))∧Below W.heap.size W w'):=fun W hW=>by
  refine (Tryz.strconv_Itoa (Z:Int) (by omega) (by omega) W (HT.out W (HB3.out.trans (hW.mono hwb)))).mono ?_;rintro e w' ⟨rfl,k,os,rfl⟩;exact ⟨by rw[ZCy];rfl,below_grow W k os⟩
 have hd1:(Lib.decDigits Z).length≤12:=ZQ (k:=12) (by omega) (by decide);go_wp2_with fail
 refine (HIT.out w3 (Below.refl _ _)).mono ?_;rintro e w4 ⟨rfl,hb4⟩;have HB4:=Zh hb4;clear hb4 b0 HIT;go_wp2_with fail
 have hal4:=ZV w4 (.cells #[.string { data:=#[99,111,110,115,116,32,114,49,53] },.string (str (Lib.decDigits Z))] 9);have hjl4:(Lib.join (([{ data:=#[99,111,110,115,116,32,114,49,53] },str (Lib.decDigits Z)]:List ByteArray).map (·.data.toList)) [32]).length≤60:=by
  simp[Lib.join,List.intercalate,List.intersperse,ZU];omega
 have HX4:=Zh (Zi b b w4.heap.size 0 2 [] [{ data:=#[99,111,110,115,116,32,114,49,53] },str (Lib.decDigits Z)] (w4.alloc (.cells #[.string { data:=#[99,111,110,115,116,32,114,49,53] },.string (str (Lib.decDigits Z))] 9)) ((HN0.out.1.below HB4.out).below hal4) (fun j x hx=>by
  rw[Nat.zero_add,(Blk.new w4 _ _).cell]
  match j,hx with
  | 0,hx=>simp at hx;subst hx;rfl
  | 1,hx=>simp at hx;subst hx;rfl
  | j+2,hx=>simp at hx) (by simp[World.size_alloc]) (Nat.le_refl _) (by show 2≤100;omega) (by omega) (by simp))
 have hj4:Lib.join (([{ data:=#[99,111,110,115,116,32,114,49,53] },str (Lib.decDigits Z)]:List ByteArray).map (·.data.toList)) [32]++[10]=ZCp Z:=by
  simp[Lib.join,List.intercalate,List.intersperse,ZU,ZCp]
 rw[hj4] at HX4;have HAL4:=Zh hal4;clear hal4 hj4 hjl4;refine HX4.out.mono ?_;rintro e V4 ⟨rfl,h3,hb3⟩;obtain ⟨p4,hp4⟩:∃p,[]++ZCp Z=p:=⟨_,rfl⟩
 have hl4:p4.length≤400:=by rw[←hp4];unfold ZCp;simp;omega
 rw[hp4] at h3;have HP4:=Zh hp4;have HN4:=Zh (show BL V4 b b p4∧Below b w3 V4 from ⟨h3,(HB4.out.mono (by have:=HN0.out.1.le;omega)).trans ((HAL4.out.mono (by have:=HB4.out.size;have:=HN0.out.1.le;omega)).trans hb3)⟩);clear h3 hb3 HX4 HAL4 hp4 HB4 HN0;go_wp2_with fail
 have hal5:=ZV V4 (.cells #[.string { data:=#[98,108,117,32,114,49,51,32,114,49,53,32,51] }] 9);have HX5:=Zh (Zi b b V4.heap.size 0 1 p4 [{ data:=#[98,108,117,32,114,49,51,32,114,49,53,32,51] }] (V4.alloc (.cells #[.string { data:=#[98,108,117,32,114,49,51,32,114,49,53,32,51] }] 9)) (HN4.out.1.below hal5) (fun j x hx=>by
  rw[Nat.zero_add,(Blk.new V4 _ _).cell]
  match j,hx with
  | 0,hx=>simp at hx;subst hx;rfl
  | j+1,hx=>simp at hx) (by simp[World.size_alloc]) (Nat.le_refl _) (by show 1≤100;omega) (by simp[Lib.join,List.intercalate,List.intersperse]) (by omega))
 have hj5:Lib.join (([{ data:=#[98,108,117,32,114,49,51,32,114,49,53,32,51] }]:List ByteArray).map (·.data.toList)) [32]++[10]=[98,108,117,32,114,49,51,32,114,49,53,32,51]++[10]:=by
  simp[Lib.join,List.intercalate,List.intersperse]
 rw[hj5] at HX5;have HAL5:=Zh hal5;clear hal5 hj5;refine HX5.out.mono ?_;rintro e V5 ⟨rfl,h3,hb3⟩;obtain ⟨p5,hp5⟩:∃p,p4++([98,108,117,32,114,49,51,32,114,49,53,32,51]++[10])=p:=⟨_,rfl⟩
 have hl5:p5.length≤500:=by rw[←hp5,List.length_append];simp;omega
 rw[hp5] at h3;have HP5:=Zh hp5;have HN5:=Zh (show BL V5 b b p5∧Below b w3 V5 from ⟨h3,HN4.out.2.trans ((HAL5.out.mono (by have:=HN4.out.1.le;omega)).trans hb3)⟩);clear h3 hb3 HX5 HAL5 hp5;go_wp2_with fail
 have hal6:=ZV V5 (.cells #[.string { data:=#[115,117,98,32,114,49,53,32,114,49,51,32,114,49,53] }] 9);have HX6:=Zh (Zi b b V5.heap.size 0 1 p5 [{ data:=#[115,117,98,32,114,49,53,32,114,49,51,32,114,49,53] }] (V5.alloc (.cells #[.string { data:=#[115,117,98,32,114,49,53,32,114,49,51,32,114,49,53] }] 9)) (HN5.out.1.below hal6) (fun j x hx=>by
  rw[Nat.zero_add,(Blk.new V5 _ _).cell]
  match j,hx with
  | 0,hx=>simp at hx;subst hx;rfl
  | j+1,hx=>simp at hx) (by simp[World.size_alloc]) (Nat.le_refl _) (by show 1≤100;omega) (by simp[Lib.join,List.intercalate,List.intersperse]) (by omega))
 have hj6:Lib.join (([{ data:=#[115,117,98,32,114,49,53,32,114,49,51,32,114,49,53] }]:List ByteArray).map (·.data.toList)) [32]++[10]=[115,117,98,32,114,49,53,32,114,49,51,32,114,49,53]++[10]:=by
  simp[Lib.join,List.intercalate,List.intersperse]
 rw[hj6] at HX6;have HAL6:=Zh hal6;clear hal6 hj6;refine HX6.out.mono ?_;rintro e V6 ⟨rfl,h3,hb3⟩;obtain ⟨p6,hp6⟩:∃p,p5++([115,117,98,32,114,49,53,32,114,49,51,32,114,49,53]++[10])=p:=⟨_,rfl⟩
 have hl6:p6.length≤600:=by rw[←hp6,List.length_append];simp;omega
 rw[hp6] at h3;have HP6:=Zh hp6;have HN6:=Zh (show BL V6 b b p6∧Below b w3 V6 from ⟨h3,HN5.out.2.trans ((HAL6.out.mono (by have:=HN5.out.1.le;omega)).trans hb3)⟩);clear h3 hb3 HX6 HAL6 hp6;go_wp2_with fail
 have hal7:=ZV V6 (.cells #[.string { data:=#[98,108,117,32,114,49,53,32,114,49,50,32,49] }] 9);have HX7:=Zh (Zi b b V6.heap.size 0 1 p6 [{ data:=#[98,108,117,32,114,49,53,32,114,49,50,32,49] }] (V6.alloc (.cells #[.string { data:=#[98,108,117,32,114,49,53,32,114,49,50,32,49] }] 9)) (HN6.out.1.below hal7) (fun j x hx=>by
  rw[Nat.zero_add,(Blk.new V6 _ _).cell]
  match j,hx with
  | 0,hx=>simp at hx;subst hx;rfl
  | j+1,hx=>simp at hx) (by simp[World.size_alloc]) (Nat.le_refl _) (by show 1≤100;omega) (by simp[Lib.join,List.intercalate,List.intersperse]) (by omega))
 have hj7:Lib.join (([{ data:=#[98,108,117,32,114,49,53,32,114,49,50,32,49] }]:List ByteArray).map (·.data.toList)) [32]++[10]=[98,108,117,32,114,49,53,32,114,49,50,32,49]++[10]:=by
  simp[Lib.join,List.intercalate,List.intersperse]
 rw[hj7] at HX7;have HAL7:=Zh hal7;clear hal7 hj7;refine HX7.out.mono ?_;rintro e V7 ⟨rfl,h3,hb3⟩;obtain ⟨p7,hp7⟩:∃p,p6++([98,108,117,32,114,49,53,32,114,49,50,32,49]++[10])=p:=⟨_,rfl⟩
 have hl7:p7.length≤700:=by rw[←hp7,List.length_append];simp;omega
 rw[hp7] at h3;have HP7:=Zh hp7;have HN7:=Zh (show BL V7 b b p7∧Below b w3 V7 from ⟨h3,HN6.out.2.trans ((HAL7.out.mono (by have:=HN6.out.1.le;omega)).trans hb3)⟩);clear h3 hb3 HX7 HAL7 hp7;go_wp2_with fail
 have hal8:=ZV V7 (.cells #[.string { data:=#[106,117,109,112,32,49] }] 9);have HX8:=Zh (Zi b b V7.heap.size 0 1 p7 [{ data:=#[106,117,109,112,32,49] }] (V7.alloc (.cells #[.string { data:=#[106,117,109,112,32,49] }] 9)) (HN7.out.1.below hal8) (fun j x hx=>by
  rw[Nat.zero_add,(Blk.new V7 _ _).cell]
  match j,hx with
  | 0,hx=>simp at hx;subst hx;rfl
  | j+1,hx=>simp at hx) (by simp[World.size_alloc]) (Nat.le_refl _) (by show 1≤100;omega) (by simp[Lib.join,List.intercalate,List.intersperse]) (by omega))
 have hj8:Lib.join (([{ data:=#[106,117,109,112,32,49] }]:List ByteArray).map (·.data.toList)) [32]++[10]=[106,117,109,112,32,49]++[10]:=by
  simp[Lib.join,List.intercalate,List.intersperse]
 rw[hj8] at HX8;have HAL8:=Zh hal8;clear hal8 hj8;refine HX8.out.mono ?_;rintro e V8 ⟨rfl,h3,hb3⟩;obtain ⟨p8,hp8⟩:∃p,p7++([106,117,109,112,32,49]++[10])=p:=⟨_,rfl⟩
 have hl8:p8.length≤800:=by rw[←hp8,List.length_append];simp;omega
 rw[hp8] at h3;have HP8:=Zh hp8;have HN8:=Zh (show BL V8 b b p8∧Below b w3 V8 from ⟨h3,HN7.out.2.trans ((HAL8.out.mono (by have:=HN7.out.1.le;omega)).trans hb3)⟩);clear h3 hb3 HX8 HAL8 hp8;go_wp2_with fail
 have hal9:=ZV V8 (.cells #[.string { data:=#[116,114,97,112,32,49] }] 9);have HX9:=Zh (Zi b b V8.heap.size 0 1 p8 [{ data:=#[116,114,97,112,32,49] }] (V8.alloc (.cells #[.string { data:=#[116,114,97,112,32,49] }] 9)) (HN8.out.1.below hal9) (fun j x hx=>by
  rw[Nat.zero_add,(Blk.new V8 _ _).cell]
  match j,hx with
  | 0,hx=>simp at hx;subst hx;rfl
  | j+1,hx=>simp at hx) (by simp[World.size_alloc]) (Nat.le_refl _) (by show 1≤100;omega) (by simp[Lib.join,List.intercalate,List.intersperse]) (by omega))
 have hj9:Lib.join (([{ data:=#[116,114,97,112,32,49] }]:List ByteArray).map (·.data.toList)) [32]++[10]=[116,114,97,112,32,49]++[10]:=by
  simp[Lib.join,List.intercalate,List.intersperse]
 rw[hj9] at HX9;have HAL9:=Zh hal9;clear hal9 hj9;refine HX9.out.mono ?_;rintro e V9 ⟨rfl,h3,hb3⟩;obtain ⟨p9,hp9⟩:∃p,p8++([116,114,97,112,32,49]++[10])=p:=⟨_,rfl⟩
 have hl9:p9.length≤900:=by rw[←hp9,List.length_append];simp;omega
 rw[hp9] at h3;have HP9:=Zh hp9;have HN9:=Zh (show BL V9 b b p9∧Below b w3 V9 from ⟨h3,HN8.out.2.trans ((HAL9.out.mono (by have:=HN8.out.1.le;omega)).trans hb3)⟩);clear h3 hb3 HX9 HAL9 hp9;go_wp2_with fail
 have hal10:=ZV V9 (.cells #[.string { data:=#[97,100,100,105,32,114,49,51,32,114,49,53,32,48] }] 9);have HX10:=Zh (Zi b b V9.heap.size 0 1 p9 [{ data:=#[97,100,100,105,32,114,49,51,32,114,49,53,32,48] }] (V9.alloc (.cells #[.string { data:=#[97,100,100,105,32,114,49,51,32,114,49,53,32,48] }] 9)) (HN9.out.1.below hal10) (fun j x hx=>by
  rw[Nat.zero_add,(Blk.new V9 _ _).cell]
  match j,hx with
  | 0,hx=>simp at hx;subst hx;rfl
  | j+1,hx=>simp at hx) (by simp[World.size_alloc]) (Nat.le_refl _) (by show 1≤100;omega) (by simp[Lib.join,List.intercalate,List.intersperse]) (by omega))
 have hj10:Lib.join (([{ data:=#[97,100,100,105,32,114,49,51,32,114,49,53,32,48] }]:List ByteArray).map (·.data.toList)) [32]++[10]=[97,100,100,105,32,114,49,51,32,114,49,53,32,48]++[10]:=by
  simp[Lib.join,List.intercalate,List.intersperse]
 rw[hj10] at HX10;have HAL10:=Zh hal10;clear hal10 hj10;refine HX10.out.mono ?_;rintro e V10 ⟨rfl,h3,hb3⟩;obtain ⟨p10,hp10⟩:∃p,p9++([97,100,100,105,32,114,49,51,32,114,49,53,32,48]++[10])=p:=⟨_,rfl⟩
 have hl10:p10.length≤1000:=by rw[←hp10,List.length_append];simp;omega
 rw[hp10] at h3;have HP10:=Zh hp10;have HN10:=Zh (show BL V10 b b p10∧Below b w3 V10 from ⟨h3,HN9.out.2.trans ((HAL10.out.mono (by have:=HN9.out.1.le;omega)).trans hb3)⟩);clear h3 hb3 HX10 HAL10 hp10;have HTB:Hid (∀W,Below b w3 W→ZIp b W):=fun W hW X hX=>HT.out X (HB3.out.trans ((hW.trans hX).mono hwb));have b4:V10.cell? ⟨q,4,none⟩=some (.int .i64 (Lk:Int)):=(HN10.out.2.cell (p:=⟨q,4,none⟩) hq0).trans (H3.out.2.cellp rfl);have HA11:Hid (Calls Tryz.prog 25 #[.pointer (some ⟨b,0,none⟩),.string { data:=#[115,119] },.int .i64 14,.int .i64 (Lk:Int)] V10 fun e w'=>e=.returned (.tuple #[])∧(∃m,BL w' b b (p10++m)∧m.length≤200∧(Lk≤32767→m=atL [115,119] 14 Lk))∧Below b V10 w'):=ZCH b b p10 [115,119] 14 Lk V10 HN10.out.1 (HTB.out V10 HN10.out.2) (by omega) (by omega) (by decide) (by omega);go_wp2_with fail
 refine HA11.out.mono ?_;rintro e V11 ⟨rfl,⟨m11,h3,hm11,hq11⟩,hb3⟩;have HN11:=Zh (show BL V11 b b (p10++m11)∧Below b w3 V11 from ⟨h3,HN10.out.2.trans hb3⟩);have HQ11:=Zh hq11;clear h3 hb3 hq11 HA11 b4;have b6:V11.cell? ⟨q,6,none⟩=some (.slice A n c):=(HN11.out.2.cell (p:=⟨q,6,none⟩) hq0).trans (H3.out.2.cellp rfl);go_wp2_with fail
 clear b6
 go_loopw [43] (fun v W=>∃k:Nat,k≤n∧v=.int .i64 k∧Hid (∃m,BL W b b (p10++m11++m)∧Below b w3 W∧m.length≤200*k∧(Z≤4096→m=ZJD [115,119] At l k))) (fun v _=>n-(Go.RowKit.intOf v).toNat)
 case atStart=>exact ⟨0,by omega,rfl,[],by rw[List.append_nil];exact HN11.out.1,HN11.out.2,by simp,fun _=>rfl⟩
 case round=>
  obtain ⟨k,hk,rfl,HM⟩:=hrel;obtain ⟨m,hm1,hm2,hm3,hm4⟩:=HM.out;have HM1:=Zh (Za hm1 (Za hm2 hm4));clear HM hm1 hm2 hm4;rcases Nat.lt_or_ge k n with hlt|hge
  ·obtain ⟨g,off,hA,hg,hc⟩:=HRB.out k hlt
   subst hA;have hrg:=HRG.out k (by rw[HN.out];exact hlt);obtain ⟨R,hR⟩:∃R:Nat,l.getD k 0=(R:Int):=⟨(l.getD k 0).toNat,by omega⟩
   rw[hR] at hc hrg;have HRE:=Zh (show (l.getD k 0).toNat=R from by rw[hR];rfl);clear hR;have c0:wr.cell? ⟨g,off+k,none⟩=some (.int .i64 (R:Int)):=(HM1.out.2.1.cell (p:=⟨g,off+k,none⟩) hg).trans hc;have b3:wr.cell? ⟨q,3,none⟩=some (.int .i64 (At:Int)):=(HM1.out.2.1.cell (p:=⟨q,3,none⟩) hq0).trans (H3.out.2.cellp rfl);obtain ⟨pl,hpl⟩:∃pl,At+4*k=pl:=⟨_,rfl⟩
   have e1:IntKind.i64.wrap (4*(k:Int))=4*(k:Int):=IntWalk.i64_in _ (by omega);have e2:IntKind.i64.wrap ((At:Int)+4*(k:Int))=(pl:Int):=by rw[IntWalk.i64_in _ (by omega)];omega
   have HPL:=Zh hpl;have hkI:(k:Int)<(n:Int):=by omega
   have HA12:Hid (Calls Tryz.prog 25 #[.pointer (some ⟨b,0,none⟩),.string { data:=#[115,119] },.int .i64 (R:Int),.int .i64 (pl:Int)] wr fun e w'=>e=.returned (.tuple #[])∧(∃m',BL w' b b (p10++m11++m++m')∧m'.length≤200∧(pl≤32767→m'=atL [115,119] R pl))∧Below b wr w'):=ZCH b b (p10++m11++m) [115,119] R pl wr HM1.out.1 (HTB.out wr HM1.out.2.1) (by omega) (by omega) (by decide) (by simp only[List.length_append];omega);have hpz:Z≤4096→pl≤32767:=fun h=>by omega
   have HPZ:=Zh hpz;clear hc hg hrg hpl hpz;go_wp2_with fail
   refine HA12.out.mono ?_;rintro e V12 ⟨rfl,⟨m',h3,hm',hq'⟩,hb3⟩;have HX:Hid (∃m,BL V12 b b (p10++m11++m)∧Below b w3 V12∧m.length≤200*(k+1)∧(Z≤4096→m=ZJD [115,119] At l (k+1))):=by
    refine ⟨m++m',by rw[←List.append_assoc];exact h3,HM1.out.2.1.trans hb3,by rw[List.length_append];omega,fun hz=>?_⟩;rw[ZFZ,HM1.out.2.2 hz,hq' (HPZ.out hz),HRE.out,HPL.out]
   clear h3 hm' hq' hb3 HA12 c0 b3 e1 e2;go_wp2_with fail
   go_roundw
   case rel=>exact ⟨k+1,by omega,by go_num,HX.out⟩
   case measure=>first|(simp[Go.RowKit.intOf];done)|(simp[Go.RowKit.intOf];omega)
  ·have hkn:k=n:=by omega
   subst hkn;have hne:p10++m11++m≠[]:=by
    rw[←HP10.out]
    simp
   have HSG:=Zh (ZD4 b b (p10++m11++m) wr HM1.out.1 hne);clear hne;go_wp2_with fail
   refine HSG.out.mono ?_;rintro e V13 ⟨rfl,hb3⟩;have HZ:Hid (Below w.heap.size w V13):=HB3.out.trans ((HM1.out.2.1.trans hb3).mono hwb);clear hb3 HSG;go_wp2_with fail
   go_ret2
   refine ⟨⟨p10++(m11++m),by rfl,?_,fun hz=>?_⟩,HZ.out⟩
   ·rw[←HP10.out]
    simp
   ·rw[←List.append_assoc,HM1.out.2.2 hz,HQ11.out (by omega),←HP10.out,←HP9.out,←HP8.out,←HP7.out,←HP6.out,←HP5.out,←HP4.out,List.nil_append]
    unfold proL;rw[HN.out]
end Go.Proofs.YtggmkofbikafhaaGreatDoor
