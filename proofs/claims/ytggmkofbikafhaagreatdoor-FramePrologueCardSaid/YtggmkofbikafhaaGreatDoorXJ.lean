/- Walks and plain laws on the way to FramePrologue (XI, YE0, YE1, YE2, YE3, YE4, YE5, XJ). Conditions: those that each theorem states. -/
import Derived.Laws.Concat
import Derived.Test.YtggmkofbikafhaaGreatDoorXE
set_option linter.unusedVariables false
set_option linter.unusedSimpArgs false
set_option maxRecDepth 100000
set_option maxHeartbeats 40000000
namespace Go.Proofs.YtggmkofbikafhaaGreatDoor
open Go.RowKit Go.Lib
theorem ZAe {P:Program} (l m:List UInt8) (h:l.length+m.length≤10000000) (W:World):(Op.stringOp .add (str l) (str m)).run P W=.ok (.string (str (l++m))) W:=by
 rw[run_string_add_sum W (str l) (str m) (by rw[Zb,Zb];omega),ZCN]
def partR:List UInt8→List UInt8→List (List UInt8)
 | cur,[]=>if cur=[] then [] else [cur]
 | cur,c::r=>if c.toNat=32 then (if cur=[] then partR [] r else cur::partR [] r) else partR (cur++[c]) r
theorem ZI8 (l:List UInt8):(str l).toList.isEmpty=l.isEmpty:=by rw[Lib.toList_data,ZU]
theorem ZB5 (l:List UInt8) (w:World) (hl:l.length≤65536) (hno:∀c∈l,c.toNat≠59∧c.toNat≠9) :
  Calls Tryz.prog 64 #[.string (str l)] w fun e w'=>(∃v,e=.returned v∧OwnX w' w.heap.size v (partR [] l))∧Below w.heap.size w w':=by
 have hsz:(str l).size=l.length:=Zb l;have hx:∀a b,(str l).extract a b=str ((l.take b).drop a):=ZAA l;have hg:∀k (h:k<(str l).size) (h2:k<l.length),((str l)[k]'h)=l[k]:=fun k h h2=>ZAu h;obtain ⟨s,hs⟩:∃s,str l=s:=⟨_,rfl⟩
 rw[hs] at hsz hx;have HG:Hid (∀k (h:k<s.size) (h2:k<l.length),(s[k]'h)=l[k]):=by subst hs;exact hg
 have HX:=Zh hx;have HSZ:=Zh hsz;have HNO:=Zh hno;rw[hs];have hl2:s.size≤65536:=by omega
 clear hs hg hx hsz hl hno;have hE:=ZV w (.cells #[] 9);have H0:=Zh (show OwnX (w.alloc (.cells #[] 9)) w.heap.size (.slice (some ⟨w.heap.size,0,none⟩) 0 0) []∧Below w.heap.size w (w.alloc (.cells #[] 9)) from ⟨ZAT _ _,hE⟩);clear hE;go_enter Tryz.func64,Tryz.ntmps64
 go_wp2_with fail
 go_loopw [5,4,3] (fun i sv4 ov wr=>∃(k:Nat) (cur:List UInt8) (out:List (List UInt8)),k≤s.size∧cur.length≤k∧out.length≤k∧i=.int .i64 k∧sv4=.string (str cur)∧Hid (partR [] l=out++partR cur (l.drop k))∧Hid (OwnX wr w.heap.size ov out∧Below w.heap.size w wr)) (fun i _ _ _=>s.size-(intOf i).toNat)
 case atStart=>exact ⟨0,[],[],by omega,by simp,by simp,rfl,rfl,by show _=_;simp,H0.out⟩
 case round=>
  clear H0;obtain ⟨k,cur,out,hk,hcl,hol,rfl,rfl,HC,HW⟩:=hrel;have hemp:=ZI8 cur
  by_cases hlt:k<s.size
  ·have hkl:k<l.length:=by rw[←HSZ.out];exact hlt
   have hno:=HNO.out l[k] (List.getElem_mem hkl);have hgk:=HG.out k hlt hkl;have hdr:l.drop k=l[k]::l.drop (k+1):=List.drop_eq_getElem_cons hkl;obtain ⟨c,hc⟩:∃c:Nat,(s[k]'hlt).toNat=c:=⟨_,rfl⟩
   have hcl2:l[k].toNat=c:=by rw[←hgk];exact hc
   rw[hcl2] at hno;have e59:((c:Int) != 59)=true:=by
    have:(c:Int)≠59:=by omega
    simpa using this
   have e59':((c:Int)==59)=false:=by
    have:(c:Int)≠59:=by omega
    simpa using this
   have e9:((c:Int)==9)=false:=by
    have:(c:Int)≠9:=by omega
    simpa using this
   cases h32:((c:Int)==32) with
   | true=>
    have h32':c=32:=by
     have:(c:Int)=32:=by simpa using h32
     omega
    cases cur with
    | nil=>
     have HC2:=Zh (show partR [] l=out++partR [] (l.drop (k+1)) from by
      rw[HC.out,hdr,partR,if_pos (by rw[hcl2];exact h32'),if_pos rfl])
     have HW2:=Zh HW.out;rw[show ([]:List UInt8).isEmpty=true from rfl] at hemp;clear HC HW hdr hgk hcl2;go_wp2_with fail
     go_roundw
     case rel=>exact ⟨k+1,[],out,by omega,by simp,by omega,by go_num,rfl,HC2.out,HW2.out⟩
     case measure=>simp[intOf];omega
    | cons x cur=>
     have HC2:=Zh (show partR [] l=(out++[x::cur])++partR [] (l.drop (k+1)) from by
      rw[HC.out,hdr,partR,if_pos (by rw[hcl2];exact h32'),if_neg (by simp),List.append_assoc];rfl)
     rw[show (x::cur).isEmpty=false from rfl] at hemp;obtain ⟨v',W',e1,e2,e3⟩:=HW.out.1.push HW.out.2.size (by omega) (x::cur) 97;have HAP:=Zh e1;have HN:=Zh (show OwnX W' w.heap.size v' (out++[x::cur])∧Below w.heap.size w W' from ⟨e2,HW.out.2.trans (HW.out.1.keepsB e3 HW.out.2.size)⟩);clear HC HW hdr hgk hcl2 e1 e2 e3;go_wp2_with (at_builtin;refine ZK rfl (.tmp 31) (.tmp 33) 97 rfl rfl rfl HAP.out ?_)
     go_roundw
     case rel=>exact ⟨k+1,[],_,by omega,by simp,by simp;omega,by go_num,rfl,HC2.out,HN.out⟩
     case measure=>simp[intOf];omega
   | false=>
    have h32':c≠32:=by
     have:(c:Int)≠32:=by simpa using h32
     omega
    have HC2:=Zh (show partR [] l=out++partR (cur++[l[k]]) (l.drop (k+1)) from by
     rw[HC.out,hdr,partR,if_neg (by rw[hcl2];exact h32')])
    have hext:s.extract k (k+1)=str [l[k]]:=by
     rw[HX.out,List.take_succ_eq_append_getElem hkl,List.drop_append_of_le_length (by rw[List.length_take];omega),List.drop_eq_nil_of_le (by rw[List.length_take];omega)]
     rfl
    have ad:=ZAe (P:=Tryz.prog) cur [l[k]] (by simp;omega);obtain ⟨ck,hck⟩:∃ck,l[k]=ck:=⟨_,rfl⟩
    rw[hck] at hext ad HC2;have HW2:=Zh HW.out;clear HC HW hdr hgk hcl2 hck hemp;go_wp2_with fail
    go_roundw
    case rel=>exact ⟨k+1,cur++[ck],out,by omega,by simp;omega,by omega,by go_num,rfl,HC2.out,HW2.out⟩
    case measure=>simp[intOf];omega
  ·have hke:k=s.size:=by omega
   have hdr:l.drop k=[]:=List.drop_eq_nil_of_le (by rw[←HSZ.out];omega);subst hke
   cases cur with
   | nil=>
    have HF:=Zh (show partR [] l=out from by rw[HC.out,hdr,partR,if_pos rfl,List.append_nil]);rw[show ([]:List UInt8).isEmpty=true from rfl] at hemp;have HW2:=Zh HW.out;obtain ⟨A,cap,rfl,-,-⟩:=HW.out.1.form;clear HC HW hdr;go_wp2_with fail
    go_ret;exact ⟨⟨_,rfl,by rw[HF.out];exact HW2.out.1⟩,HW2.out.2⟩
   | cons x cur=>
    have HF:=Zh (show partR [] l=out++[x::cur] from by rw[HC.out,hdr,partR,if_neg (by simp)]);rw[show (x::cur).isEmpty=false from rfl] at hemp;obtain ⟨v',W',e1,e2,e3⟩:=HW.out.1.push HW.out.2.size (by omega) (x::cur) 97;obtain ⟨A,cap,rfl,-,-⟩:=HW.out.1.form;obtain ⟨A2,cap2,rfl,-,-⟩:=e2.form;have HAP:=Zh e1;have HN:=Zh (Za e2 (HW.out.2.trans (HW.out.1.keepsB e3 HW.out.2.size)));clear HC HW hdr e1 e2 e3;go_wp2_with (at_builtin;refine ZK rfl (.tmp 44) (.tmp 46) 97 rfl rfl rfl HAP.out ?_)
    go_ret;have hfin:=HN.out.1;rw[show (out++[x::cur]).length=out.length+1 by simp] at hfin;exact ⟨⟨_,rfl,by rw[HF.out];exact hfin⟩,HN.out.2⟩
def ZBE (l:List (List UInt8)):Nat→List UInt8
 | 0=>[]
 | k+1=>(if 0<k then ZBE l k++[32] else ZBE l k)++l.getD k []
theorem ZFp (l:List (List UInt8)) (hb:∀x∈l,x.length≤1000):∀k,(ZBE l k).length≤1001*k
 | 0=>by simp[ZBE]
 | k+1=>by
  have ih:=ZFp l hb k;have h1:(l.getD k []).length≤1000:=by
   rcases Nat.lt_or_ge k l.length with h|h
   ·have e:l.getD k []=l[k]:=by simp[h]
    rw[e];exact hb _ (List.getElem_mem h)
   ·have e:l.getD k []=[]:=by simp[h]
    rw[e];simp
  rw[ZBE]
  split
  ·simp only[List.length_append,List.length_singleton];omega
  ·simp only[List.length_append];omega
theorem ZEN (l:List (List UInt8)) (v:Value) (w:World) (h:Strs w v l) (hl:l.length≤100) (hb:∀x∈l,x.length≤1000) :
  Calls Tryz.prog 113 #[v] w fun e w'=>e=.returned (.string (str (ZBE l l.length)))∧w'=w:=by
 obtain ⟨A,c,rfl,h1,h2⟩:=RowOf.form h;unfold maxLen at h2;have H:=Zh h;have HB:=Zh hb;clear h hb;go_enter Tryz.func113,Tryz.ntmps113
 go_wp2_with fail
 go_loopw [4,3] (fun i s3 wr=>∃(k:Nat) (cur:List UInt8),k≤l.length∧i=.int .i64 k∧s3=.string (str cur)∧Hid (cur=ZBE l k)∧wr=w) (fun i _ _=>l.length-(intOf i).toNat)
 case atStart=>exact ⟨0,[],Nat.zero_le _,rfl,rfl,rfl,rfl⟩
 case round=>
  obtain ⟨k,cur,hk,rfl,rfl,HC,rfl⟩:=hrel;have hcl:cur.length≤1001*k:=by rw[HC.out];exact ZFp l HB.out k
  by_cases hlt:k<l.length
  ·obtain ⟨g,off,cap,ea,h3,h4,hg,hcc⟩:=H.out.open_ (Nat.lt_of_le_of_lt (Nat.zero_le _) hlt)
   cases ea
   have y0:=hcc k hlt;have hxl:=HB.out l[k] (List.getElem_mem hlt);have hgd:l.getD k []=l[k]:=by simp[hlt]
   obtain ⟨x,hx⟩:∃x,l[k]=x:=⟨_,rfl⟩
   rw[hx] at y0 hxl hgd
   by_cases h0:0<k
   ·have hN:ZBE l (k+1)=(cur++[32])++x:=by rw[ZBE,if_pos h0,←HC.out,hgd]
    have HN:=Zh hN.symm;have ad1:∀W,(Op.stringOp .add (str cur) ⟨#[32]⟩).run Tryz.prog W=.ok (.string (str (cur++[32]))) W:=ZAe cur [32] (by simp;omega);have ad2:=ZAe (P:=Tryz.prog) (cur++[32]) x (by simp;omega);rw[List.append_assoc] at ad2;have HN2:=Zh (show cur++([32]++x)=ZBE l (k+1) from by rw[hN,List.append_assoc]);simp only[List.cons_append,List.nil_append] at ad2 HN2;have d0:decide ((0:Int)<(k:Int))=true:=by simp;exact h0
    clear hcc hx hgd hN HN HC;go_wp2_with fail
    go_roundw
    case rel=>exact ⟨k+1,_,by omega,by go_num,rfl,HN2.out,trivial⟩
    case measure=>simp[intOf];omega
   ·have hk0:k=0:=by omega
    have hN:ZBE l (k+1)=cur++x:=by rw[ZBE,if_neg h0,←HC.out,hgd]
    have HN:=Zh hN.symm;have ad2:=ZAe (P:=Tryz.prog) cur x (by omega);have d0:decide ((0:Int)<(k:Int))=false:=by simp;omega
    clear hcc hx hgd hN HC hk0;go_wp2_with fail
    go_roundw
    case rel=>exact ⟨k+1,_,by omega,by go_num,rfl,HN.out,trivial⟩
    case measure=>simp[intOf];omega
  ·have hke:k=l.length:=by omega
   subst hke;have HF:=Zh HC.out;clear HC;go_wp2_with fail
   go_ret;exact ⟨by rw[←HF.out];rfl,rfl⟩
end Go.Proofs.YtggmkofbikafhaaGreatDoor
namespace Go.Proofs.YtggmkofbikafhaaGreatDoor
open Go.RowKit
theorem ZBP {z z':Int} (h:z=z'):Ending.returned (.int .i64 z)=.returned (.int .i64 z'):=by rw[h]
def chars (s:ByteArray):List Int:=s.data.toList.map fun b=>(b.toNat:Int)
theorem ZFW (s:ByteArray):s.data.toList.length=s.size:=Array.length_toList
theorem ZKi (s:ByteArray):(chars s).length=s.size:=by rw[chars,List.length_map,ZFW]
theorem ZKj (s:ByteArray) (k:Nat) (h:k<s.size):(chars s)[k]? = some (s[k].toNat:Int):=by
 unfold chars;rw[List.getElem?_map,List.getElem?_eq_getElem (by rw[ZFW];exact h)]
 rfl
def regOk (h:Bool) (n:Int):Bool:=if h then decide (0≤n)&&decide (n≤15) else decide (n=0)
theorem ZCT {c R:Bool} {n z:Int} (hz:(if c then 0 else 20)=z) (h:c=R) (hn:(if R then 0 else 20)=n):Ending.returned (.int .i64 n)=.returned (.int .i64 z):=by rw[←hz,h,hn]
structure XAt (W:World) (p:Nat) (op d a b i:Int):Prop where
 c0:W.cell? ⟨p,0,none⟩=some (.int .i64 op)
 c1:W.cell? ⟨p,1,none⟩=some (.int .i64 d)
 c2:W.cell? ⟨p,2,none⟩=some (.int .i64 a)
 c3:W.cell? ⟨p,3,none⟩=some (.int .i64 b)
 c4:W.cell? ⟨p,4,none⟩=some (.int .i64 i)
 lt:p<W.heap.size
theorem XAt.below {W W':World} {p:Nat} {op d a b i:Int} (h:XAt W p op d a b i) (hb:Below W.heap.size W W'):XAt W' p op d a b i:=
 ⟨(hb.cell (p:=⟨p,0,none⟩) h.lt).trans h.c0,(hb.cell (p:=⟨p,1,none⟩) h.lt).trans h.c1,(hb.cell (p:=⟨p,2,none⟩) h.lt).trans h.c2,(hb.cell (p:=⟨p,3,none⟩) h.lt).trans h.c3,(hb.cell (p:=⟨p,4,none⟩) h.lt).trans h.c4,Nat.lt_of_lt_of_le h.lt hb.size⟩
theorem XAt.fresh (w:World) (op d a b i:Int) (t:Nat):XAt (w.alloc (.cells #[.int .i64 op,.int .i64 d,.int .i64 a,.int .i64 b,.int .i64 i] t)) w.heap.size op d a b i:=by
 refine ⟨?_,?_,?_,?_,?_,by simp⟩<;>rw[World.cell?_alloc_at _ _ _ _ rfl]<;>rfl
structure IAt (W:World) (p:Nat) (op d a b i:Int):Prop where
 x:XAt W p op d a b i
 fz:∀j,W.frozen? ⟨p,j,none⟩=false
theorem IAt.below {W W':World} {p:Nat} {op d a b i:Int} (h:IAt W p op d a b i) (hb:Below W.heap.size W W'):IAt W' p op d a b i:=
 ⟨h.x.below hb,fun j=>(hb.frozen (p:=⟨p,j,none⟩) h.x.lt).trans (h.fz j)⟩
theorem ZAj {p j k:Nat} (h:j≠k):(⟨p,j,none⟩:Addr)≠⟨p,k,none⟩:=by simp[h]
theorem ZFg {p q j k:Nat} (h:p≠q):(⟨p,j,none⟩:Addr)≠⟨q,k,none⟩:=by simp[h]
theorem IAt.off {W:World} {p q j:Nat} {op d a b i:Int} (h:IAt W p op d a b i) (hq:q≠p) (v:Value):IAt (W.setCell ⟨q,j,none⟩ v) p op d a b i:=
 ⟨⟨by rw[World.cell?_setCell_other (h:=ZFg hq)];exact h.x.c0,by rw[World.cell?_setCell_other (h:=ZFg hq)];exact h.x.c1,by rw[World.cell?_setCell_other (h:=ZFg hq)];exact h.x.c2,by rw[World.cell?_setCell_other (h:=ZFg hq)];exact h.x.c3,by rw[World.cell?_setCell_other (h:=ZFg hq)];exact h.x.c4,by simpa using h.x.lt⟩,fun k=>by rw[World.frozen?_setCell];exact h.fz k⟩
theorem IAt.set1 {W:World} {p:Nat} {op d a b i:Int} (h:IAt W p op d a b i) (y:Int):IAt (W.setCell ⟨p,1,none⟩ (.int .i64 y)) p op y a b i:=
 ⟨⟨by rw[World.cell?_setCell_other (h:=ZAj (by decide))];exact h.x.c0,World.cell?_setCell_same _ _ _ h.x.c1,by rw[World.cell?_setCell_other (h:=ZAj (by decide))];exact h.x.c2,by rw[World.cell?_setCell_other (h:=ZAj (by decide))];exact h.x.c3,by rw[World.cell?_setCell_other (h:=ZAj (by decide))];exact h.x.c4,by simpa using h.x.lt⟩,fun k=>by rw[World.frozen?_setCell];exact h.fz k⟩
theorem IAt.set2 {W:World} {p:Nat} {op d a b i:Int} (h:IAt W p op d a b i) (y:Int):IAt (W.setCell ⟨p,2,none⟩ (.int .i64 y)) p op d y b i:=
 ⟨⟨by rw[World.cell?_setCell_other (h:=ZAj (by decide))];exact h.x.c0,by rw[World.cell?_setCell_other (h:=ZAj (by decide))];exact h.x.c1,World.cell?_setCell_same _ _ _ h.x.c2,by rw[World.cell?_setCell_other (h:=ZAj (by decide))];exact h.x.c3,by rw[World.cell?_setCell_other (h:=ZAj (by decide))];exact h.x.c4,by simpa using h.x.lt⟩,fun k=>by rw[World.frozen?_setCell];exact h.fz k⟩
theorem IAt.set3 {W:World} {p:Nat} {op d a b i:Int} (h:IAt W p op d a b i) (y:Int):IAt (W.setCell ⟨p,3,none⟩ (.int .i64 y)) p op d a y i:=
 ⟨⟨by rw[World.cell?_setCell_other (h:=ZAj (by decide))];exact h.x.c0,by rw[World.cell?_setCell_other (h:=ZAj (by decide))];exact h.x.c1,by rw[World.cell?_setCell_other (h:=ZAj (by decide))];exact h.x.c2,World.cell?_setCell_same _ _ _ h.x.c3,by rw[World.cell?_setCell_other (h:=ZAj (by decide))];exact h.x.c4,by simpa using h.x.lt⟩,fun k=>by rw[World.frozen?_setCell];exact h.fz k⟩
theorem IAt.set4 {W:World} {p:Nat} {op d a b i:Int} (h:IAt W p op d a b i) (y:Int):IAt (W.setCell ⟨p,4,none⟩ (.int .i64 y)) p op d a b y:=
 ⟨⟨by rw[World.cell?_setCell_other (h:=ZAj (by decide))];exact h.x.c0,by rw[World.cell?_setCell_other (h:=ZAj (by decide))];exact h.x.c1,by rw[World.cell?_setCell_other (h:=ZAj (by decide))];exact h.x.c2,by rw[World.cell?_setCell_other (h:=ZAj (by decide))];exact h.x.c3,World.cell?_setCell_same _ _ _ h.x.c4,by simpa using h.x.lt⟩,fun k=>by rw[World.frozen?_setCell];exact h.fz k⟩
theorem IAt.fresh (w:World) (op d a b i:Int) (t:Nat):IAt (w.alloc (.cells #[.int .i64 op,.int .i64 d,.int .i64 a,.int .i64 b,.int .i64 i] t)) w.heap.size op d a b i:=
 ⟨XAt.fresh w op d a b i t,fun j=>by simp⟩
theorem IAt.past {w:World} {p:Nat} {op d a b i:Int} (h:IAt w p op d a b i) (o:Obj):IAt (w.alloc o) p op d a b i:=h.below ((Below.refl _ _).alloc (Nat.le_refl _) o)def sg16 (v:Nat):Int:=if v%65536<32768 then ((v%65536:Nat):Int) else ((v%65536:Nat):Int)-65536
def RF (o:Int):Int:=
 if 1≤o∧o≤17 then 82 else if o=18 then 83 else if 19≤o∧o≤21 then 85 else if 22≤o∧o≤24 then 67 else if o=25 then 76 else if o=26 then 72 else if o=27 then 69
 else if 28≤o∧o≤33 then 83 else if 34≤o∧o≤35 then 66 else if o=36 then 84 else if 37≤o∧o≤38 then 74 else if 39≤o∧o≤40 then 71 else if 41≤o∧o≤42 then 87 else 32
theorem ret_u8 {z z':Int} (h:z=z'):Ending.returned (.int .u8 z)=.returned (.int .u8 z'):=by rw[h]
theorem Zo (o:Int) (w:World):Calls Tryz.prog 79 #[.int .i64 o] w fun e w'=>e=.returned (.int .u8 (RF o))∧w=w':=by
 by_cases h1:o<1
 ·have h:RF o=32:=by unfold RF;repeat rw[if_neg (by omega)]
  have H:=Zh h;clear h;go_enter Tryz.func79,Tryz.ntmps79
  go_wp2;go_ret;exact ⟨ret_u8 H.out.symm,rfl⟩
 by_cases h2:42<o
 ·have h:RF o=32:=by unfold RF;repeat rw[if_neg (by omega)]
  have H:=Zh h;clear h;go_enter Tryz.func79,Tryz.ntmps79
  go_wp2;go_ret;exact ⟨ret_u8 H.out.symm,rfl⟩
 have hc:o=1∨o=2∨o=3∨o=4∨o=5∨o=6∨o=7∨o=8∨o=9∨o=10∨o=11∨o=12∨o=13∨o=14∨o=15∨o=16∨o=17∨o=18∨o=19∨o=20∨o=21∨o=22∨o=23∨o=24∨o=25∨o=26∨o=27∨o=28∨o=29∨o=30∨o=31∨o=32∨o=33∨o=34∨o=35∨o=36∨o=37∨o=38∨o=39∨o=40∨o=41∨o=42:=by omega
 clear h1 h2;rcases hc with rfl|rfl|rfl|rfl|rfl|rfl|rfl|rfl|rfl|rfl|rfl|rfl|rfl|rfl|rfl|rfl|rfl|rfl|rfl|rfl|rfl|rfl|rfl|rfl|rfl|rfl|rfl|rfl|rfl|rfl|rfl|rfl|rfl|rfl|rfl|rfl|rfl|rfl|rfl|rfl|rfl|rfl
 all_goals
  go_enter Tryz.func79,Tryz.ntmps79
  go_wp2;go_ret;exact ⟨rfl,rfl⟩
theorem ZCR (n:Int) (w:World) (h:0≤n) (h2:n≤65535):Calls Tryz.prog 81 #[.int .i64 n,.int .i64 16] w fun e w'=>e=.returned (.int .i64 (if n<32768 then n else n-65536))∧w=w':=by
 by_cases h1:n<32768
 ·go_enter Tryz.func81,Tryz.ntmps81
  go_wp2;go_ret;exact ⟨ZBP (by first|rfl|(rw[if_pos h1])),rfl⟩
 ·go_enter Tryz.func81,Tryz.ntmps81
  go_wp2;go_ret;exact ⟨ZBP (by first|rfl|(rw[if_neg h1])),rfl⟩
theorem ZHz (n:Int) (w:World) (h:0≤n) (h2:n≤16777215):Calls Tryz.prog 81 #[.int .i64 n,.int .i64 24] w fun e w'=>e=.returned (.int .i64 (if n<8388608 then n else n-16777216))∧w=w':=by
 by_cases h1:n<8388608
 ·go_enter Tryz.func81,Tryz.ntmps81
  go_wp2;go_ret;exact ⟨ZBP (by first|rfl|(rw[if_pos h1])),rfl⟩
 ·go_enter Tryz.func81,Tryz.ntmps81
  go_wp2;go_ret;exact ⟨ZBP (by first|rfl|(rw[if_neg h1])),rfl⟩
def IsF (f:Int):Prop:=f=82∨f=83∨f=85∨f=67∨f=69∨f=84∨f=76∨f=72∨f=66∨f=74∨f=87∨f=71∨f=32
def RH (f:Int):ByteArray:=
 if f=82 then ⟨#[100,97,98]⟩ else if f=83∨f=85∨f=67∨f=69∨f=84 then ⟨#[100,97,105]⟩ else if f=76∨f=72 then ⟨#[100,105]⟩ else if f=66 then ⟨#[97,105]⟩
 else if f=74∨f=87 then ⟨#[105]⟩ else if f=71 then ⟨#[97]⟩ else ⟨#[]⟩
theorem ZCr (f:Int) (w:World) (h:IsF f):Calls Tryz.prog 124 #[.int .u8 f] w fun e w'=>e=.returned (.string (RH f))∧w=w':=by
 rcases h with rfl|rfl|rfl|rfl|rfl|rfl|rfl|rfl|rfl|rfl|rfl|rfl|rfl
 all_goals
  go_enter Tryz.func124,Tryz.ntmps124
  go_wp2;go_ret;exact ⟨rfl,rfl⟩
theorem RH_len {f:Int} (h:IsF f):(RH f).size≤3:=by
 rcases h with rfl|rfl|rfl|rfl|rfl|rfl|rfl|rfl|rfl|rfl|rfl|rfl|rfl<;>decide
def inB (f c:Int):Bool:=(chars (RH f)).any fun x=>x==c
theorem any_hit {l:List Int} {c x:Int} {k:Nat} (h:l[k]? = some x) (he:(x==c)=true):(l.any fun x=>x==c)=true:=by
 rw[List.any_eq_true];exact ⟨x,List.mem_of_getElem? h,he⟩
theorem any_miss {l:List Int} {c x:Int} {k:Nat} (hx:l[k]? = some x) (h:((l.take k).any fun x=>x==c)=false) (he:(x==c)=false):((l.take (k+1)).any fun x=>x==c)=false:=by
 obtain ⟨hk,rfl⟩:=List.getElem?_eq_some_iff.1 hx;rw[List.take_succ_eq_append_getElem hk,List.any_append,h];simp only[List.any_cons,List.any_nil,he,Bool.or_false]
theorem ZX (f c:Int) (w:World) (h:IsF f):Calls Tryz.prog 80 #[.int .u8 f,.int .u8 c] w fun e w'=>e=.returned (.bool (inB f c))∧w=w':=by
 obtain ⟨R,hR⟩:∃R,inB f c=R:=⟨_,rfl⟩
 have HR:=Zh hR;rw[hR];clear hR;have HH:=Zh (fun W=>ZCr f W h);have hl:=RH_len h;unfold inB at HR;obtain ⟨s,hs⟩:∃s,RH f=s:=⟨_,rfl⟩
 rw[hs] at HR HH hl;clear hs h;go_enter Tryz.func80,Tryz.ntmps80
 go_wp2_with fail
 refine (HH.out _).mono ?_;rintro e w1 ⟨rfl,rfl⟩;go_wp2_with fail
 go_loop [6] (fun i=>∃k:Nat,k≤s.size∧i=.int .i64 k∧Hid (((chars s).take k).any (fun x=>x==c)=false)) (fun i=>s.size-(intOf i).toNat)
 case atStart=>exact ⟨0,Nat.zero_le _,rfl,rfl⟩
 case round=>
  obtain ⟨k,hk,rfl,HA⟩:=hrel
  by_cases hlt:k<s.size
  ·have hck:=ZKj s k hlt
   obtain ⟨x,hx⟩:∃x:Int,(s[k].toNat:Int)=x:=⟨_,rfl⟩
   rw[hx] at hck;have HCK:=Zh hck;clear hck
   cases he:(x==c) with
   | true=>
    have hfin:R=true:=by rw[←HR.out];exact any_hit HCK.out he
    have HF:=Zh hfin;clear hfin;go_wp2;go_ret;exact ⟨ZF HF.out.symm,rfl⟩
   | false=>
    have HF:=Zh (any_miss HCK.out HA.out he);go_wp2
    go_round
    case rel=>exact ⟨k+1,by omega,by go_num,HF.out⟩
    case measure=>simp[intOf];omega
  ·have hfin:R=false:=by
    rw[←HR.out]
    have:=HA.out;rwa[List.take_of_length_le (by rw[ZKi];omega)] at this
   have HF:=Zh hfin;clear hfin;go_wp2;go_ret;exact ⟨ZF HF.out.symm,rfl⟩
theorem ZEa (f c n:Int) (w:World) (h:IsF f):Calls Tryz.prog 149 #[.int .u8 f,.int .u8 c,.int .i64 n] w fun e w'=>e=.returned (.bool (regOk (inB f c) n))∧w=w':=by
 have HX:=Zh (fun W=>ZX f c W h);obtain ⟨b,hb⟩:∃b,inB f c=b:=⟨_,rfl⟩
 rw[hb] at HX ⊢;clear hb h
 cases b with
 | false=>
  go_enter Tryz.func149,Tryz.ntmps149
  go_wp2_with fail
  refine (HX.out _).mono ?_;rintro e w' ⟨rfl,rfl⟩;go_wp2_with fail
  go_ret;exact ⟨ZF (by simp[regOk];rw[Bool.eq_iff_iff];simp),rfl⟩
 | true=>
  by_cases h0:0≤n
  ·go_enter Tryz.func149,Tryz.ntmps149
   go_wp2_with fail
   refine (HX.out _).mono ?_;rintro e w' ⟨rfl,rfl⟩;go_wp2_with fail
   go_ret;exact ⟨ZF (by simp[regOk,h0]),rfl⟩
  ·go_enter Tryz.func149,Tryz.ntmps149
   go_wp2_with fail
   refine (HX.out _).mono ?_;rintro e w' ⟨rfl,rfl⟩;go_wp2_with fail
   go_ret;exact ⟨ZF (by simp[regOk,h0];try omega),rfl⟩
def rfB (f n:Int):Bool:=
 if f=83∨f=76∨f=66∨f=84 then decide (-32768≤n)&&decide (n≤32767) else if f=85∨f=72∨f=87 then decide (0≤n)&&decide (n≤65535) else if f=67 then decide (0≤n)&&decide (n≤31)
 else if f=69 then decide (n=8) || decide (n=16) else if f=74 then decide (-8388608≤n)&&decide (n≤8388607) else decide (n=0)
theorem ZIq (o:Int):IsF (RF o):=by
 unfold RF IsF
 by_cases h0:1≤o∧o≤17
 ·rw[if_pos h0];decide
 rw[if_neg h0]
 by_cases h1:o=18
 ·rw[if_pos h1];decide
 rw[if_neg h1]
 by_cases h2:19≤o∧o≤21
 ·rw[if_pos h2];decide
 rw[if_neg h2]
 by_cases h3:22≤o∧o≤24
 ·rw[if_pos h3];decide
 rw[if_neg h3]
 by_cases h4:o=25
 ·rw[if_pos h4];decide
 rw[if_neg h4]
 by_cases h5:o=26
 ·rw[if_pos h5];decide
 rw[if_neg h5]
 by_cases h6:o=27
 ·rw[if_pos h6];decide
 rw[if_neg h6]
 by_cases h7:28≤o∧o≤33
 ·rw[if_pos h7];decide
 rw[if_neg h7]
 by_cases h8:34≤o∧o≤35
 ·rw[if_pos h8];decide
 rw[if_neg h8]
 by_cases h9:o=36
 ·rw[if_pos h9];decide
 rw[if_neg h9]
 by_cases h10:37≤o∧o≤38
 ·rw[if_pos h10];decide
 rw[if_neg h10]
 by_cases h11:39≤o∧o≤40
 ·rw[if_pos h11];decide
 rw[if_neg h11]
 by_cases h12:41≤o∧o≤42
 ·rw[if_pos h12];decide
 rw[if_neg h12]
 decide
theorem ZJT (f n:Int) (w:World) (h:IsF f):Calls Tryz.prog 150 #[.int .u8 f,.int .i64 n] w fun e w'=>e=.returned (.bool (rfB f n))∧w=w':=by
 rcases h with rfl|rfl|rfl|rfl|rfl|rfl|rfl|rfl|rfl|rfl|rfl|rfl|rfl
 ·go_enter Tryz.func150,Tryz.ntmps150
  go_wp2;go_ret;exact ⟨ZF (by rw[Bool.eq_iff_iff];simp[rfB];try omega),rfl⟩
 ·by_cases hl : -32768≤n
  ·go_enter Tryz.func150,Tryz.ntmps150
   go_wp2;go_ret;exact ⟨ZF (by rw[Bool.eq_iff_iff];simp[rfB];try omega),rfl⟩
  go_enter Tryz.func150,Tryz.ntmps150
  go_wp2;go_ret;exact ⟨ZF (by rw[Bool.eq_iff_iff];simp[rfB];try omega),rfl⟩
 ·by_cases hl:0≤n
  ·go_enter Tryz.func150,Tryz.ntmps150
   go_wp2;go_ret;exact ⟨ZF (by rw[Bool.eq_iff_iff];simp[rfB];try omega),rfl⟩
  go_enter Tryz.func150,Tryz.ntmps150
  go_wp2;go_ret;exact ⟨ZF (by rw[Bool.eq_iff_iff];simp[rfB];try omega),rfl⟩
 ·by_cases hl:0≤n
  ·go_enter Tryz.func150,Tryz.ntmps150
   go_wp2;go_ret;exact ⟨ZF (by rw[Bool.eq_iff_iff];simp[rfB];try omega),rfl⟩
  go_enter Tryz.func150,Tryz.ntmps150
  go_wp2;go_ret;exact ⟨ZF (by rw[Bool.eq_iff_iff];simp[rfB];try omega),rfl⟩
 ·by_cases hl:n=8
  ·subst hl
   go_enter Tryz.func150,Tryz.ntmps150
   go_wp2;go_ret;exact ⟨ZF (by rw[Bool.eq_iff_iff];simp[rfB];try omega),rfl⟩
  have g8:(n==8)=false:=by simpa using hl
  have HL:=Zh hl;clear hl;go_enter Tryz.func150,Tryz.ntmps150
  go_wp2;go_ret;exact ⟨ZF (by rw[Bool.eq_iff_iff];simp[rfB,HL.out];try omega),rfl⟩
 ·by_cases hl : -32768≤n
  ·go_enter Tryz.func150,Tryz.ntmps150
   go_wp2;go_ret;exact ⟨ZF (by rw[Bool.eq_iff_iff];simp[rfB];try omega),rfl⟩
  go_enter Tryz.func150,Tryz.ntmps150
  go_wp2;go_ret;exact ⟨ZF (by rw[Bool.eq_iff_iff];simp[rfB];try omega),rfl⟩
 ·by_cases hl : -32768≤n
  ·go_enter Tryz.func150,Tryz.ntmps150
   go_wp2;go_ret;exact ⟨ZF (by rw[Bool.eq_iff_iff];simp[rfB];try omega),rfl⟩
  go_enter Tryz.func150,Tryz.ntmps150
  go_wp2;go_ret;exact ⟨ZF (by rw[Bool.eq_iff_iff];simp[rfB];try omega),rfl⟩
 ·by_cases hl:0≤n
  ·go_enter Tryz.func150,Tryz.ntmps150
   go_wp2;go_ret;exact ⟨ZF (by rw[Bool.eq_iff_iff];simp[rfB];try omega),rfl⟩
  go_enter Tryz.func150,Tryz.ntmps150
  go_wp2;go_ret;exact ⟨ZF (by rw[Bool.eq_iff_iff];simp[rfB];try omega),rfl⟩
 ·by_cases hl : -32768≤n
  ·go_enter Tryz.func150,Tryz.ntmps150
   go_wp2;go_ret;exact ⟨ZF (by rw[Bool.eq_iff_iff];simp[rfB];try omega),rfl⟩
  go_enter Tryz.func150,Tryz.ntmps150
  go_wp2;go_ret;exact ⟨ZF (by rw[Bool.eq_iff_iff];simp[rfB];try omega),rfl⟩
 ·by_cases hl : -8388608≤n
  ·go_enter Tryz.func150,Tryz.ntmps150
   go_wp2;go_ret;exact ⟨ZF (by rw[Bool.eq_iff_iff];simp[rfB];try omega),rfl⟩
  go_enter Tryz.func150,Tryz.ntmps150
  go_wp2;go_ret;exact ⟨ZF (by rw[Bool.eq_iff_iff];simp[rfB];try omega),rfl⟩
 ·by_cases hl:0≤n
  ·go_enter Tryz.func150,Tryz.ntmps150
   go_wp2;go_ret;exact ⟨ZF (by rw[Bool.eq_iff_iff];simp[rfB];try omega),rfl⟩
  go_enter Tryz.func150,Tryz.ntmps150
  go_wp2;go_ret;exact ⟨ZF (by rw[Bool.eq_iff_iff];simp[rfB];try omega),rfl⟩
 ·go_enter Tryz.func150,Tryz.ntmps150
  go_wp2;go_ret;exact ⟨ZF (by rw[Bool.eq_iff_iff];simp[rfB];try omega),rfl⟩
 ·go_enter Tryz.func150,Tryz.ntmps150
  go_wp2;go_ret;exact ⟨ZF (by rw[Bool.eq_iff_iff];simp[rfB];try omega),rfl⟩
def ZA9 (op d a b i:Int):Bool:=decide (RF op≠32)&&regOk (inB (RF op) 100) d&&regOk (inB (RF op) 97) a&&regOk (inB (RF op) 98) b&&rfB (RF op) i
theorem ZED (op d a b i:Int) (w:World):Calls Tryz.prog 122 #[.agg #[.int .i64 op,.int .i64 d,.int .i64 a,.int .i64 b,.int .i64 i]] w fun e w'=>e=.returned (.int .i64 (if ZA9 op d a b i then 0 else 20))∧Below w.heap.size w w':=by
 have HF:=Zh (fun W=>Zo op W);have hi:=ZIq op;unfold ZA9;obtain ⟨f,hf⟩:∃f,RF op=f:=⟨_,rfl⟩
 rw[hf] at HF hi ⊢;clear hf;have HD:=Zh (fun W=>ZEa f 100 d W hi);have HA:=Zh (fun W=>ZEa f 97 a W hi);have HB:=Zh (fun W=>ZEa f 98 b W hi);have HI:=Zh (fun W=>ZJT f i W hi);clear hi;generalize regOk (inB f 100) d=rD at HD ⊢;generalize regOk (inB f 97) a=rA at HA ⊢;generalize regOk (inB f 98) b=rB at HB ⊢;generalize rfB f i=rI at HI ⊢;have HW:Hid (Below w.heap.size w (w.alloc (.cells #[.int .i64 op,.int .i64 d,.int .i64 a,.int .i64 b,.int .i64 i] 127))):=(Below.refl _ _).alloc (Nat.le_refl _) _;obtain ⟨z,hz⟩:∃z:Int,(if decide (f≠32)&&rD&&rA&&rB&&rI then 0 else 20)=z:=⟨_,rfl⟩
 rw[hz];have HZ:=Zh hz;clear hz
 by_cases h32:f=32
 ·subst h32
  go_enter Tryz.func122,Tryz.ntmps122
  go_wp2_with fail
  refine (HF.out _).mono ?_;rintro e w' ⟨rfl,rfl⟩;go_wp2_with fail
  go_ret;exact ⟨ZCT (n:=20) HZ.out (R:=false) (by simp) (by decide),HW.out⟩
 have g32:(f==32)=false:=by simpa using h32
 have G32:=Zh h32;clear h32
 cases rD with
 | false=>
  go_enter Tryz.func122,Tryz.ntmps122
  go_wp2_with fail
  refine (HF.out _).mono ?_;rintro e w' ⟨rfl,rfl⟩;go_wp2_with fail
  refine (HD.out _).mono ?_;rintro e w' ⟨rfl,rfl⟩;go_wp2_with fail
  go_ret;exact ⟨ZCT (n:=20) HZ.out (R:=false) (by simp) (by decide),HW.out⟩
 | true=>
  cases rA with
  | false=>
   go_enter Tryz.func122,Tryz.ntmps122
   go_wp2_with fail
   refine (HF.out _).mono ?_;rintro e w' ⟨rfl,rfl⟩;go_wp2_with fail
   refine (HD.out _).mono ?_;rintro e w' ⟨rfl,rfl⟩;go_wp2_with fail
   refine (HA.out _).mono ?_;rintro e w' ⟨rfl,rfl⟩;go_wp2_with fail
   go_ret;exact ⟨ZCT (n:=20) HZ.out (R:=false) (by simp) (by decide),HW.out⟩
  | true=>
   cases rB with
   | false=>
    go_enter Tryz.func122,Tryz.ntmps122
    go_wp2_with fail
    refine (HF.out _).mono ?_;rintro e w' ⟨rfl,rfl⟩;go_wp2_with fail
    refine (HD.out _).mono ?_;rintro e w' ⟨rfl,rfl⟩;go_wp2_with fail
    refine (HA.out _).mono ?_;rintro e w' ⟨rfl,rfl⟩;go_wp2_with fail
    refine (HB.out _).mono ?_;rintro e w' ⟨rfl,rfl⟩;go_wp2_with fail
    go_ret;exact ⟨ZCT (n:=20) HZ.out (R:=false) (by simp) (by decide),HW.out⟩
   | true=>
    cases rI with
    | false=>
     go_enter Tryz.func122,Tryz.ntmps122
     go_wp2_with fail
     refine (HF.out _).mono ?_;rintro e w' ⟨rfl,rfl⟩;go_wp2_with fail
     refine (HD.out _).mono ?_;rintro e w' ⟨rfl,rfl⟩;go_wp2_with fail
     refine (HA.out _).mono ?_;rintro e w' ⟨rfl,rfl⟩;go_wp2_with fail
     refine (HB.out _).mono ?_;rintro e w' ⟨rfl,rfl⟩;go_wp2_with fail
     refine (HI.out _).mono ?_;rintro e w' ⟨rfl,rfl⟩;go_wp2_with fail
     go_ret;exact ⟨ZCT (n:=20) HZ.out (R:=false) (by simp) (by decide),HW.out⟩
    | true=>
     go_enter Tryz.func122,Tryz.ntmps122
     go_wp2_with fail
     refine (HF.out _).mono ?_;rintro e w' ⟨rfl,rfl⟩;go_wp2_with fail
     refine (HD.out _).mono ?_;rintro e w' ⟨rfl,rfl⟩;go_wp2_with fail
     refine (HA.out _).mono ?_;rintro e w' ⟨rfl,rfl⟩;go_wp2_with fail
     refine (HB.out _).mono ?_;rintro e w' ⟨rfl,rfl⟩;go_wp2_with fail
     refine (HI.out _).mono ?_;rintro e w' ⟨rfl,rfl⟩;go_wp2_with fail
     go_ret;exact ⟨ZCT (n:=0) HZ.out (R:=true) (by simp[G32.out]) (by decide),HW.out⟩
def ZGa (f:Int) (o d a b:Nat) (i:Int):Int:=((o:Int)*16777216+(d:Int)*1048576+(a:Int)*65536+(b:Int)*4096+(if i<0 then (if f=74 then i+16777216 else i+65536) else i))%4294967296
theorem ZEc {z z':Int} (h:z=z'):Ending.returned (.tuple #[.int .u32 z,.int .i64 0])=.returned (.tuple #[.int .u32 z',.int .i64 0]):=by rw[h]
theorem ZEA (o d a b:Nat) (i:Int) (w:World) (h:ZA9 o d a b i=true) (ho:o≤42) (hd:d≤15) (ha:a≤15) (hb:b≤15) (h1 : -8388608≤i) (h2:i≤8388607):Calls Tryz.prog 75 #[.agg #[.int .i64 o,.int .i64 d,.int .i64 a,.int .i64 b,.int .i64 i]] w fun e w'=>e=.returned (.tuple #[.int .u32 (ZGa (RF o) o d a b i),.int .i64 0])∧Below w.heap.size w w':=by
 have HC:=Zh (fun W=>ZED o d a b i W);rw[h] at HC;have HF:=Zh (fun W=>Zo o W);clear h;generalize RF o=f at HF ⊢;obtain ⟨z,hz⟩:∃z,ZGa f o d a b i=z:=⟨_,rfl⟩
 rw[hz];have HZ:=Zh hz;clear hz
 by_cases hn:0≤i
 ·have HN:Hid (¬i<0):=by show ¬i<0;omega
  go_enter Tryz.func75,Tryz.ntmps75
  go_wp2_with fail
  refine (HC.out _).mono ?_;rintro e w1 ⟨rfl,hw⟩;have HX1:=Zh ((XAt.fresh w o d a b i 127).below hw);have HB1:=Zh (((Below.refl _ _).alloc (Nat.le_refl _) (.cells #[.int .i64 o,.int .i64 d,.int .i64 a,.int .i64 b,.int .i64 i] 127):Below w.heap.size w _).trans (hw.mono (by simp)));clear hw;obtain ⟨x0,x1,x2,x3,x4,_⟩:=HX1.out;go_wp2_with fail
  go_ret2
  exact ⟨ZEc (by rw[←HZ.out];unfold ZGa;rw[if_neg (Int.not_lt.2 HN.out)];try omega),HB1.out⟩
 have hn2:i<0:=by omega
 have HN:=Zh hn2;clear hn
 by_cases h74:f=74
 ·subst h74
  go_enter Tryz.func75,Tryz.ntmps75
  go_wp2_with fail
  refine (HC.out _).mono ?_;rintro e w1 ⟨rfl,hw⟩;have HX1:=Zh ((XAt.fresh w o d a b i 127).below hw);have HB1:=Zh (((Below.refl _ _).alloc (Nat.le_refl _) (.cells #[.int .i64 o,.int .i64 d,.int .i64 a,.int .i64 b,.int .i64 i] 127):Below w.heap.size w _).trans (hw.mono (by simp)));clear hw;obtain ⟨x0,x1,x2,x3,x4,_⟩:=HX1.out;go_wp2_with fail
  refine (HF.out _).mono ?_;rintro e w' ⟨rfl,rfl⟩;go_wp2_with fail
  go_ret2
  exact ⟨ZEc (by rw[←HZ.out];unfold ZGa;rw[if_pos HN.out,if_pos rfl];try omega),HB1.out⟩
 have g74:(f==74)=false:=by simpa using h74
 have G74:=Zh h74;clear h74;go_enter Tryz.func75,Tryz.ntmps75
 go_wp2_with fail
 refine (HC.out _).mono ?_;rintro e w1 ⟨rfl,hw⟩;have HX1:=Zh ((XAt.fresh w o d a b i 127).below hw);have HB1:=Zh (((Below.refl _ _).alloc (Nat.le_refl _) (.cells #[.int .i64 o,.int .i64 d,.int .i64 a,.int .i64 b,.int .i64 i] 127):Below w.heap.size w _).trans (hw.mono (by simp)));clear hw;obtain ⟨x0,x1,x2,x3,x4,_⟩:=HX1.out;go_wp2_with fail
 refine (HF.out _).mono ?_;rintro e w' ⟨rfl,rfl⟩;go_wp2_with fail
 go_ret2
 exact ⟨ZEc (by rw[←HZ.out];unfold ZGa;rw[if_pos HN.out,if_neg G74.out];try omega),HB1.out⟩
end Go.Proofs.YtggmkofbikafhaaGreatDoor
namespace Go.Proofs.YtggmkofbikafhaaGreatDoor
open Go.RowKit Go.Lib
theorem und_u8s:Tryz.prog.underlying 32=some (.slice 5):=by kernel_rfl
theorem inf_u8:(Tryz.prog.info? 5).map (fun i=>(i.zero,i.size,i.bytes))=some (some (.int .u8 0),1,1):=by kernel_rfl
theorem arowB:ZHl 32 5 1 1:=ZAy und_u8s inf_u8 rfl (by decide)
theorem und_lbs:Tryz.prog.underlying 33=some (.slice 102):=by kernel_rfl
theorem inf_lb:(Tryz.prog.info? 102).map (fun i=>(i.zero,i.size,i.bytes))=some (some (.agg #[.string ⟨#[]⟩,.int .i64 0,.int .i64 0,.bool false]),4,40):=by kernel_rfl
theorem arowL:ZHl 33 102 4 40:=ZAy und_lbs inf_lb rfl (by decide)
def byt (c:UInt8):Value:=.int .u8 (c.toNat:Int)
structure Lb where
 nm:List UInt8
 at_:Nat
def lbc (x:Lb):List Value:=[.string (str x.nm),.int .i64 0,.int .i64 (x.at_:Int),.bool false]
def OwnB (W:World) (B:Nat) (v:Value) (l:List UInt8):Prop:=W.ownsRow B 5 1 v l.length (l.map byt)
def OwnL (W:World) (B:Nat) (v:Value) (l:List Lb):Prop:=W.ownsRow B 102 4 v l.length (l.flatMap lbc)
def stA (tv lv:Value):Array Value:=#[tv,.slice none 0 0,lv,.slice none 0 0,.int .i64 0,.slice none 0 0,.slice none 0 0]
structure StV (W:World) (gs:Nat) (tv lv:Value) (tx:List UInt8) (lb:List Lb):Prop where
 b:Blk W gs 99 (stA tv lv)
 t:OwnB W (gs+1) tv tx
 l:OwnL W (gs+1) lv lb
def stF (gs:Nat) (tv lv:Value) (k:Nat):Prop:=k=gs∨tv.ownBlock=some k∨lv.ownBlock=some k
theorem StV.below {W W':World} {gs:Nat} {tv lv:Value} {tx:List UInt8} {lb:List Lb} (h:StV W gs tv lv tx lb) (hb:Below W.heap.size W W'):StV W' gs tv lv tx lb:=
 ⟨h.b.below hb h.b.lt,ZB h.t (ZC (fun _=>False) hb) (fun _ _=>id),ZB h.l (ZC (fun _=>False) hb) (fun _ _=>id)⟩
theorem StV.tne {W:World} {gs:Nat} {tv lv:Value} {tx:List UInt8} {lb:List Lb} (h:StV W gs tv lv tx lb):∀g,tv.ownBlock=some g→g≠gs∧lv.ownBlock≠some g:=by
 intro g hg;obtain ⟨cu,hcu⟩:=ZI h.t hg;refine ⟨fun e=>absurd (Blk.kind (e▸hcu) h.b) (by decide),fun e=>?_⟩;obtain ⟨cv,hcv⟩:=ZI h.l e;exact absurd (Blk.kind hcu hcv) (by decide)
theorem StV.lne {W:World} {gs:Nat} {tv lv:Value} {tx:List UInt8} {lb:List Lb} (h:StV W gs tv lv tx lb):∀g,lv.ownBlock=some g→g≠gs:=by
 intro g hg e;obtain ⟨cu,hcu⟩:=ZI h.l hg;exact absurd (Blk.kind (e▸hcu) h.b) (by decide)
theorem ZR {W:World} {B:Nat} {v:Value} {l:List UInt8} (h:OwnB W B v l):∃A c,v=.slice A l.length c∧l.length≤c∧c≤maxLen:=slice_form h
theorem ZAn {W:World} {B:Nat} {v:Value} {l:List Lb} (h:OwnL W B v l):∃A c,v=.slice A l.length c∧l.length≤c∧c≤maxLen:=slice_form h
theorem ZHZ (gs:Nat) (tv lv:Value) (tx:List UInt8) (lb:List Lb) (w:World) (h:StV w gs tv lv tx lb) :
  Calls Tryz.prog 106 #[.pointer (some ⟨gs,0,none⟩)] w fun e w'=>e=.returned (.int .i64 (tx.length:Int))∧w'=w:=by
 obtain ⟨A,c,rfl,-,-⟩:=ZR h.t;have c0:w.cell? ⟨gs,0,none⟩=some (.slice A tx.length c):=(h.b.cell 0).trans rfl;have c4:w.cell? ⟨gs,4,none⟩=some (.int .i64 0):=(h.b.cell 4).trans rfl;clear h;go_enter Tryz.func106,Tryz.ntmps106
 go_wp2_with fail
 go_ret;exact ⟨rfl,rfl⟩
structure StP (gs:Nat) (tv lv:Value) (tx:List UInt8) (lb:List Lb) (W W':World):Prop where
 s:∃tv' lv',StV W' gs tv' lv' tx lb∧(∀k,tv'.ownBlock=some k→tv.ownBlock=some k∨W.heap.size≤k)∧(∀k,lv'.ownBlock=some k→lv.ownBlock=some k∨W.heap.size≤k)
 k:ZE (stF gs tv lv) W W'
theorem put5_any (gs:Nat) (tv lv bv:Value) (tx m:List UInt8) (lb:List Lb) (w:World) (h:StV w gs tv lv tx lb) (hm:RowOf w bv m.length (m.map byt)) (hl:tx.length+m.length≤16777216) :
  Calls Tryz.prog 108 #[.pointer (some ⟨gs,0,none⟩),bv] w fun e w'=>e=.returned (.tuple #[])∧StP gs tv lv (tx++m) lb w w':=by
 obtain ⟨v',w1,e1,e2,e3,e4⟩:=app_any arowB 32 h.t hm (by simp) (by
  intro y hy;obtain ⟨i,_,rfl⟩:=List.mem_map.1 hy
  rfl) (by unfold maxLen;omega) (by omega) (by have:=h.b.lt;omega)
 have hk1:ZE (fun k=>tv.ownBlock=some k) w w1:=(ZE.refl _ w).grown e3 (fun g hg=>Or.inr hg);have hb1:Blk w1 gs 99 (stA tv lv):=h.b.keeps hk1 (fun e=>(h.tne gs e).1 rfl);have hl1:OwnL w1 (gs+1) lv lb:=ZB h.l hk1 (fun g hg e=>(h.tne g e).2 hg);have c0:w.cell? ⟨gs,0,none⟩=some tv:=(h.b.cell 0).trans rfl;have c4:w.cell? ⟨gs,4,none⟩=some (.int .i64 0):=(h.b.cell 4).trans rfl;have d0:w1.cell? ⟨gs,0,none⟩=some tv:=(hb1.cell 0).trans rfl;have f0:=hb1.frozen 0;have hk2:ZE (fun k=>k=gs) w1 (w1.setCell ⟨gs,0,none⟩ v'):=(ZE.refl (fun k=>k=gs) w1).setCell (p:=⟨gs,0,none⟩) (Or.inr rfl) v';have e2':OwnB w1 (gs+1) v' (tx++m):=by
  unfold OwnB;rw[List.length_append,List.map_append];exact e2
 have hvne:∀g,v'.ownBlock=some g→¬g=gs:=by
  intro g hg e;obtain ⟨cu,hcu⟩:=ZI e2 hg;exact absurd (Blk.kind (e▸hcu) hb1) (by decide)
 have hlne:=h.lne;have HN:=Zh (show StP gs tv lv (tx++m) lb w (w1.setCell ⟨gs,0,none⟩ v') from
  ⟨⟨v',lv,⟨hb1.set_ 0 v',ZB e2' hk2 hvne,ZB hl1 hk2 (fun g hg e=>h.lne g hg e)⟩,fun k hk=>by
    rcases e4 with e4|e4
    ·rw[e4] at hk;exact Or.inl hk
    ·rw[e4] at hk;injection hk with hk;right;omega,fun k hk=>Or.inl hk⟩,
   (hk1.mono (G:=stF gs tv lv) (fun i _ h=>Or.inr (Or.inl h))).trans hk2 (fun i _ e=>Or.inl e)⟩)
 have HAP:=Zh e1;obtain ⟨A,c,rfl,-,-⟩:=ZR h.t;obtain ⟨A',c',rfl,-,-⟩:=ZR e2';obtain ⟨Ab,cb,rfl,-,-⟩:=RowOf.form hm;clear h hm e1 e2 e3 e4 hk1 hb1 hl1 hk2 e2' hvne hlne;go_enter Tryz.func108,Tryz.ntmps108
 go_wp2_with (at_builtin;refine ZK rfl (.tmp 14) (.tmp 15) 32 rfl rfl rfl HAP.out ?_)
 go_end0
 exact ⟨rfl,by have h9:=HN.out;rw[List.length_append] at h9;exact h9⟩
def wB (v:Nat):List UInt8:=[UInt8.ofNat (v%256),UInt8.ofNat (v / 256%256),UInt8.ofNat (v / 65536%256),UInt8.ofNat (v / 16777216)]
theorem StP.of {gs:Nat} {tv lv:Value} {tx:List UInt8} {lb:List Lb} {W W' W'':World} (h:StP gs tv lv tx lb W' W'') (hb:Below W.heap.size W W') (hb':W.heap.size≤W'.heap.size):StP gs tv lv tx lb W W'':=by
 obtain ⟨⟨tv',lv',h1,h2,h3⟩,hk⟩:=h;refine ⟨⟨tv',lv',h1,fun k hk=>(h2 k hk).imp id (fun q=>Nat.le_trans hb' q),fun k hk=>(h3 k hk).imp id (fun q=>Nat.le_trans hb' q)⟩,?_⟩;exact (ZC (stF gs tv lv) hb).trans hk (fun i _ q=>q)
theorem ZFB {n:Nat} (h:n<256):byt (UInt8.ofNat n)=.int .u8 (n:Int):=by
 unfold byt;rw[UInt8.toNat_ofNat',Nat.mod_eq_of_lt (by simpa using h)]
theorem wB_cells {v:Nat} (h:v<4294967296):(wB v).map byt=[.int .u8 ((v:Int)%256),.int .u8 ((v:Int) / 256%256),.int .u8 ((v:Int) / 65536%256),.int .u8 ((v:Int) / 16777216)]:=by
 unfold wB;simp only[List.map_cons,List.map_nil];rw[ZFB (by omega),ZFB (by omega),ZFB (by omega),ZFB (by omega)]
 rfl
theorem ZFP (gs v:Nat) (tv lv:Value) (tx:List UInt8) (lb:List Lb) (w:World) (h:StV w gs tv lv tx lb) (hv:v<4294967296) (hl:tx.length≤1000000) :
  Calls Tryz.prog 110 #[.pointer (some ⟨gs,0,none⟩),.int .u32 (v:Int)] w fun e w'=>e=.returned (.tuple #[])∧StP gs tv lv (tx++wB v) lb w w':=by
 have hb:=ZV w (.cells #[.int .u8 ((v:Int)%256),.int .u8 ((v:Int) / 256%256),.int .u8 ((v:Int) / 65536%256),.int .u8 ((v:Int) / 16777216)] 5);have HP:=Zh (put5_any gs tv lv (.slice (some ⟨w.heap.size,0,none⟩) 4 4) tx (wB v) lb _ (h.below hb) ⟨some ⟨w.heap.size,0,none⟩,4,rfl,Nat.le_refl _,by decide,fun _=>⟨_,0,rfl,by simp[World.size_alloc],fun j u hj=>by
  rw[wB_cells hv] at hj;rw[Nat.zero_add,(Blk.new w 5 _).cell]
  simpa using hj⟩⟩ (by simp[wB];omega))
 have HB:=Zh hb;clear h hb;go_enter Tryz.func110,Tryz.ntmps110
 go_wp2_with fail
 refine HP.out.mono ?_;rintro e w1 ⟨rfl,h1⟩;have HN:=Zh (h1.of HB.out HB.out.size);clear h1;go_wp2_with fail
 go_end0
 exact ⟨rfl,HN.out⟩
def encN (o d a b i:Nat):Nat:=o*16777216+d*1048576+a*65536+b*4096+i
theorem ZHJ {o d a b i:Nat} (ho:o≤42) (hd:d≤15) (ha:a≤15) (hb:b≤15) (hi:i≤32767):ZGa (RF o) o d a b i=(encN o d a b i:Nat)∧encN o d a b i<4294967296:=by
 unfold ZGa encN;rw[if_neg (by omega)];omega
theorem ZEP (gs o d a b i:Nat) (tv lv:Value) (tx:List UInt8) (lb:List Lb) (w:World) (h:StV w gs tv lv tx lb) (hch:ZA9 o d a b i=true) (ho:o≤42) (hd:d≤15) (ha:a≤15) (hb:b≤15) (hi:i≤32767) (hl:tx.length≤1000000) (h4:tx.length%4=0) (s:ByteArray) :
  Calls Tryz.prog 114 #[.pointer (some ⟨gs,0,none⟩),.agg #[.int .i64 o,.int .i64 d,.int .i64 a,.int .i64 b,.int .i64 i],.int .i64 0,.string s] w fun e w'=>e=.returned (.bool true)∧StP gs tv lv (tx++wB (encN o d a b i)) lb w w':=by
 obtain ⟨he,hlt⟩:=ZHJ ho hd ha hb hi;have HE:=Zh (fun W=>ZEA o d a b i W hch ho hd ha hb (by omega) (by omega));rw[he] at HE;obtain ⟨v,hv⟩:∃v,encN o d a b i=v:=⟨_,rfl⟩
 rw[hv] at HE hlt ⊢;have hb1:=ZV w (.cells #[.int .i64 o,.int .i64 d,.int .i64 a,.int .i64 b,.int .i64 i] 127);have H1:=Zh (Za (h.below hb1) hb1);have hm4:(tx.length:Int).tmod 4=0:=by rw[Int.tmod_eq_emod_of_nonneg (by omega)];omega
 have hm4':(tx.length:Int)%4=0:=by omega
 clear h he hch hv hb1 h4;go_enter Tryz.func114,Tryz.ntmps114
 go_wp2_with fail
 refine (HE.out _).mono ?_;rintro e w1 ⟨rfl,hb1⟩;have H2:=Zh (show StV w1 gs tv lv tx lb∧Below w.heap.size w w1 from ⟨H1.out.1.below hb1,H1.out.2.trans (ZA hb1 H1.out.2.size)⟩);have c4:w1.cell? ⟨gs,4,none⟩=some (.int .i64 0):=(H2.out.1.b.cell 4).trans rfl;have HH:=Zh (ZHZ gs tv lv tx lb w1 H2.out.1);clear hb1 H1 HE;go_wp2_with fail
 refine HH.out.mono ?_;rintro e w2 ⟨rfl,rfl⟩;have HW:=Zh (ZFP gs v tv lv tx lb w2 H2.out.1 hlt hl);clear HH c4;go_wp2_with fail
 refine HW.out.mono ?_;rintro e w3 ⟨rfl,h3⟩;have HN:=Zh (h3.of H2.out.2 H2.out.2.size);clear h3;go_wp2_with fail
 go_ret;exact ⟨rfl,HN.out⟩
end Go.Proofs.YtggmkofbikafhaaGreatDoor
