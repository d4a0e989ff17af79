/- Walks and plain laws on the way to FramePrologue (P4, P5, F1, F2, F3). Conditions: those that each theorem states. -/
import Derived.Laws.BitsAllLaws
import Derived.Deep.WholeRow
import Derived.Test.YtggmkofbikafhaaGreatDoorP3
set_option linter.unusedVariables false
set_option linter.unusedSimpArgs false
set_option maxRecDepth 100000
set_option maxHeartbeats 40000000
namespace Go.Proofs.YtggmkofbikafhaaGreatDoor
structure ZEW (F:Fn):Prop where
 p0:0≤F.ps
 pr:F.ps≤F.rs
 r1:F.rs≤4096
 b1:1≤F.bl.length
 b2:F.bl.length≤4096
 ex:∀b∈F.bl,exB F.rs F.bl.length b.x=true
 op:∀b∈F.bl,∀o∈b.os,opB F.rs F.sl.length 4611686018427387904 o=true
 ol:∀b∈F.bl,b.os.length≤4096
theorem ZKr {regs slots strs blocks:Int}:∀(bs:List Bl) (n:Nat),ZIt regs slots strs blocks n bs=true→(∀b∈bs,exB regs blocks b.x=true)∧(∀b∈bs,∀o∈b.os,opB regs slots strs o=true)∧∀b∈bs,b.os.length≤4096
 | [],_,_=>by simp
 | b::bs,n,h=>by
  rw[ZIt] at h;simp only[Bool.and_eq_true,decide_eq_true_eq,List.all_eq_true] at h;obtain ⟨h1,h2,h3,h4⟩:=h;obtain ⟨i1,i2,i3⟩:=ZKr bs _ h4;refine ⟨fun x hx=>?_,fun x hx=>?_,fun x hx=>?_⟩
  ·rcases List.mem_cons.1 hx with rfl|hx
   ·exact h2
   ·exact i1 x hx
  ·rcases List.mem_cons.1 hx with rfl|hx
   ·exact h3
   ·exact i2 x hx
  ·rcases List.mem_cons.1 hx with rfl|hx
   ·omega
   ·exact i3 x hx
theorem ZEQ {F:Fn} (h:fnB F=true):ZEW F:=by
 unfold fnB headB at h;simp only[Bool.and_eq_true,decide_eq_true_eq] at h;obtain ⟨⟨-,h1,-,h3,h4,-,h6,h7⟩,-,h8,-⟩:=h;obtain ⟨i1,i2,i3⟩:=ZKr _ _ h8;exact ⟨h1,h3,h4,h6,h7,i1,i2,i3⟩
theorem toL_getD (F:Fn) {k:Nat} (hk:k<F.bl.length):(toL F).getD k []=ZAY (exT F.bl[k].x):=by
 simp[toL,hk]
theorem ZEW.to {F:Fn} (h:ZEW F):ToOk (toL F):=by
 intro l hl t ht;obtain ⟨b,hb,rfl⟩:=List.mem_map.1 hl;have:=ZHc (h.ex b hb) t (ZB7.1 ht);rw[ZAD];omega
theorem ZEW.to1 {F:Fn} (h:ZEW F) {k:Nat} (hk:k<F.bl.length):∀t∈ZAY (exT F.bl[k].x),1≤t∧t<(F.bl.length:Int):=fun t ht=>ZHc (h.ex _ (List.getElem_mem hk)) t (ZB7.1 ht)
theorem ZEW.rs0 {F:Fn} (h:ZEW F):0≤F.rs:=by have:=h.p0;have:=h.pr;omega
def ZEg (F:Fn):List Bool:=ZBj (toL F)
theorem ZEW.rch {F:Fn} (h:ZEW F):(ZEg F).length=F.bl.length∧(ZEg F).getD 0 false=true∧∀k:Nat,k<F.bl.length→(ZEg F).getD k false=true→∀t∈exT (F.bl.getD k ⟨[],⟨0,0,0,0,0⟩⟩).x,(ZEg F).getD t.toNat false=true:=by
 have h1:=h.b1;obtain ⟨i1,i2,i3⟩:=ZJY h.to (by rw[ZAD];omega);refine ⟨by rw[ZEg,i1,ZAD],i2,fun k hk hr t ht=>i3 k hr t ?_⟩;rw[toL_getD F hk,ZB7];have e:F.bl.getD k ⟨[],⟨0,0,0,0,0⟩⟩=F.bl[k]:=by simp[hk]
 rw[←e];exact ht
def ZAE (ws os:List Nat):Nat→List Nat
 | 0=>ws
 | k+1=>(ZAE ws os k).set k (ws.getD k 0 ||| os.getD k 0)
def grewN (ws os:List Nat):Nat→Bool
 | 0=>false
 | k+1=>grewN ws os k || (ws.getD k 0 ||| os.getD k 0) != ws.getD k 0
def putW (ws:List Nat) (n:Nat):List Nat:=ws.set (n / 64) (ws.getD (n / 64) 0 ||| 2^(n%64))
def dropN (ws:List Nat) (n:Nat):List Nat:=ws.set (n / 64) (ws.getD (n / 64) 0 &&& (18446744073709551615-2^(n%64)))
def ZAs (ws:List Nat) (n:Int):List Nat:=if 0≤n then dropN ws n.toNat else ws
def Ze:List Nat:=List.replicate 64 0
def nW (F:Fn):Nat:=(F.rs.toNat+63) / 64
def bl0:Bl:=⟨[],⟨0,0,0,0,0⟩⟩
def blk (F:Fn) (b:Nat):Bl:=F.bl.getD b bl0
def ZBm (o:Op):Bool:=o.k==28 || (o.k==29&&(isS o.tx [108,111,110,103,106,109,112] || isS o.tx [99,111,95,114,101,115,117,109,101] || isS o.tx [99,111,95,121,105,101,108,100]))
def ZDq (F:Fn) (ins:List (List Nat)) (s:List Nat) (k:Int):List Nat:=ZAE s (ins.getD k.toNat Ze) (nW F)
def endP (F:Fn) (ins:List (List Nat)) (b:Nat):List Nat:=
 let s:=(ZAY (exT (blk F b).x)).foldl (ZDq F ins) Ze
 if (blk F b).x.k=4 then ZAs s (blk F b).x.d else s
def ZEE (s:List Nat) (r:Int):List Nat:=putW s r.toNat
def backP (F:Fn) (sec:List Nat) (s:List Nat) (o:Op):List Nat:=
 let s:=(reads o).foldl ZEE (ZAs s o.d)
 if ZBm o then ZAE s sec (nW F) else s
def pointP (F:Fn) (ins:List (List Nat)) (sec:List Nat) (b:Nat):List Nat:=(blk F b).os.foldr (fun o s=>backP F sec s o) ((exR (blk F b).x).foldl ZEE (endP F ins b))
def secS (F:Fn) (ins:List (List Nat)) (s:List Nat) (b:Nat):List Nat:=
 if (ZEg F).getD b false&&(blk F b).x.k==4 then ZAE s (ZAs (ins.getD (blk F b).x.e.toNat Ze) (blk F b).x.d) (nW F) else s
def secP (F:Fn) (ins:List (List Nat)):Nat→List Nat
 | 0=>Ze
 | k+1=>secS F ins (secP F ins k) k
def passS (F:Fn) (sec:List Nat) (st:List (List Nat)×Bool) (b:Nat):List (List Nat)×Bool:=
 if (ZEg F).getD b false then
  (st.1.set b (ZAE (st.1.getD b Ze) (pointP F st.1 sec b) (nW F)),st.2 || grewN (st.1.getD b Ze) (pointP F st.1 sec b) (nW F))
 else st
def passP (F:Fn) (sec:List Nat):Nat→List (List Nat)×Bool→List (List Nat)×Bool
 | 0,st=>st
 | k+1,st=>passP F sec k (passS F sec st k)
def round (F:Fn) (ins:List (List Nat)):List (List Nat)×Bool:=passP F (secP F ins F.bl.length) F.bl.length (ins,false)
def ZGp (F:Fn):Nat→List (List Nat)→List (List Nat)
 | 0,ins=>ins
 | f+1,ins=>if (round F ins).2 then ZGp F f (round F ins).1 else (round F ins).1
theorem ZEw (ws os:List Nat):∀k i,k≤i→(ZAE ws os k).getD i 0=ws.getD i 0
 | 0,_,_=>rfl
 | k+1,i,h=>by
  rw[ZAE,←ZEw ws os k i (by omega)];simp only[List.getD_eq_getElem?_getD];rw[List.getElem?_set_ne (by omega)]
theorem ZFr (ws os:List Nat):∀k,(ZAE ws os k).length=ws.length
 | 0=>rfl
 | k+1=>by rw[ZAE,List.length_set,ZFr ws os k]
end Go.Proofs.YtggmkofbikafhaaGreatDoor
namespace Go.Proofs.YtggmkofbikafhaaGreatDoor
open Go.RowKit
structure SetAt (W:World) (g:Nat) (ws:List Nat) (most:Nat):Prop where
 b:∃cs,Blk W g 268 cs∧cs.toList=ws.map (fun x:Nat=>Value.int .u64 (x:Int))++[.int .i64 (most:Int)]
 ln:ws.length=64
 hi:∀x∈ws,x<2^64
theorem SetAt.lt {W:World} {g:Nat} {ws:List Nat} {most:Nat} (h:SetAt W g ws most):g<W.heap.size:=by
 obtain ⟨cs,hb,hc⟩:=h.b;exact hb.lt
theorem SetAt.cell {W:World} {g:Nat} {ws:List Nat} {most:Nat} (h:SetAt W g ws most) (i:Nat) (hi:i<ws.length):W.cell? ⟨g,i,none⟩=some (.int .u64 (ws[i]:Int)):=by
 obtain ⟨cs,hb,hc⟩:=h.b;rw[hb.cell,←Array.getElem?_toList,hc,List.getElem?_append_left (by simpa using hi),List.getElem?_map,List.getElem?_eq_getElem hi];rfl
theorem SetAt.top {W:World} {g:Nat} {ws:List Nat} {most:Nat} (h:SetAt W g ws most):W.cell? ⟨g,64,none⟩=some (.int .i64 (most:Int)):=by
 obtain ⟨cs,hb,hc⟩:=h.b;rw[hb.cell,←Array.getElem?_toList,hc,List.getElem?_append_right (by simp[h.ln])];simp[h.ln]
theorem SetAt.frozen {W:World} {g:Nat} {ws:List Nat} {most:Nat} (h:SetAt W g ws most) (i:Nat):W.frozen? ⟨g,i,none⟩=false:=by
 obtain ⟨cs,hb,hc⟩:=h.b;exact hb.frozen i
theorem SetAt.set_ {W:World} {g:Nat} {ws:List Nat} {most:Nat} (h:SetAt W g ws most) (i:Nat) (hi:i<64) (x:Nat) (hx:x<2^64):SetAt (W.setCell ⟨g,i,none⟩ (.int .u64 (x:Int))) g (ws.set i x) most:=by
 obtain ⟨cs,hb,hc⟩:=h.b;refine ⟨⟨_,hb.set_ i _,?_⟩,by rw[List.length_set];exact h.ln,fun y hy=>?_⟩
 ·rw[Array.toList_setIfInBounds,hc,List.set_append_left _ _ (by simp[h.ln];exact hi),List.map_set]
 ·rcases List.mem_or_eq_of_mem_set hy with h1|h1
  ·exact h.hi y h1
  ·rw[h1];exact hx
theorem SetAt.keeps {W W':World} {F:Nat→Prop} {g:Nat} {ws:List Nat} {most:Nat} (h:SetAt W g ws most) (hk:ZE F W W') (hF:¬F g):SetAt W' g ws most:=by
 obtain ⟨cs,hb,hc⟩:=h.b;exact ⟨⟨cs,hb.keeps hk hF,hc⟩,h.ln,h.hi⟩
theorem SetAt.below {W W':World} {g:Nat} {ws:List Nat} {most:Nat} (h:SetAt W g ws most) (hb:Below W.heap.size W W'):SetAt W' g ws most:=h.keeps (ZC (fun _=>False) hb) id
theorem SetAt.drew {W:World} {g:Nat} {ws:List Nat} {most:Nat} (h:SetAt W g ws most):SetAt W.drew g ws most:=by
 obtain ⟨cs,hb,hc⟩:=h.b;exact ⟨⟨cs,hb.drew,hc⟩,h.ln,h.hi⟩
theorem ZHN (n:Nat):2^(n%64)<18446744073709551616:=by
 have:2^(n%64)<2^64:=Nat.pow_lt_pow_right (by decide) (Nat.mod_lt _ (by decide))
 simpa using this
theorem ZHB (n:Nat):IntKind.u64.wrap (2^(n%64))=((2^(n%64):Nat):Int):=by
 have:=ZHN n;have e:((2:Int)^(n%64))=((2^(n%64):Nat):Int):=by push_cast;rfl
 rw[e,IntKind.wrap_u64];generalize 2^(n%64)=a at this;omega
theorem or_pow (a n:Nat) (ha:a<2^64):bits .or .u64 (a:Int) (IntKind.u64.wrap (2^(n%64)))=((a ||| 2^(n%64):Nat):Int):=by
 rw[ZHB,u64_or_nat a _ (by simpa using ha) (ZHN n)]
theorem ZIk (a n:Nat) (ha:a<2^64):bits .andNot .u64 (a:Int) (IntKind.u64.wrap (2^(n%64)))=((a &&& (18446744073709551615-2^(n%64)):Nat):Int):=by
 rw[ZHB,u64_andNot_nat a _ (by simpa using ha) (ZHN n)]
theorem SetAt.val {W:World} {g:Nat} {ws:List Nat} {most:Nat} (h:SetAt W g ws most) (i:Nat) (hi:i<64):∃q:Nat,ws.getD i 0=q∧q<2^64∧W.cell? ⟨g,i,none⟩=some (.int .u64 (q:Int)):=by
 have hl:i<ws.length:=by rw[h.ln];exact hi
 exact ⟨ws[i],by simp[hl],h.hi _ (List.getElem_mem hl),h.cell i hl⟩
theorem ZHL (g:Nat) (ws:List Nat) (most n:Nat) (w:World) (hs:SetAt w g ws most) (hn:n<4096) :
  Calls Tryz.prog 155 #[.pointer (some ⟨g,0,none⟩),.int .i64 n] w fun e w'=>e=.returned (.tuple #[])∧SetAt w' g (putW ws n) most∧ZE (fun k=>k=g) w w':=by
 have hi:n / 64<64:=by omega
 obtain ⟨q,hq,hq2,c0⟩:=hs.val (n / 64) hi;have f0:=hs.frozen (n / 64);have HQ:=Zh (or_pow q n hq2);have HR:=Zh (show SetAt (w.setCell ⟨g,n / 64,none⟩ (.int .u64 ((q ||| 2^(n%64):Nat):Int))) g (putW ws n) most by
  unfold putW;rw[hq];exact hs.set_ (n / 64) hi _ (Nat.or_lt_two_pow hq2 (by simpa using ZHN n)))
 have HK:=Zh ((ZE.refl (fun k=>k=g) w).setCell (p:=⟨g,n / 64,none⟩) (Or.inr rfl) (.int .u64 ((q ||| 2^(n%64):Nat):Int)));clear hs hq hq2;go_enter Tryz.func155,Tryz.ntmps155
 go_wp2;go_region
 rw[HQ.out];go_wp2
 go_end0
 exact ⟨rfl,HR.out.drew,HK.out.drew⟩
theorem ZE2 (g:Nat) (ws:List Nat) (most:Nat) (n:Int) (w:World) (hs:SetAt w g ws most) (hn:n<4096) :
  Calls Tryz.prog 200 #[.pointer (some ⟨g,0,none⟩),.int .i64 n] w fun e w'=>e=.returned (.tuple #[])∧SetAt w' g (ZAs ws n) most∧ZE (fun k=>k=g) w w':=by
 by_cases h0:0≤n
 ·obtain ⟨m,rfl⟩:∃m:Nat,n=(m:Int):=⟨n.toNat,by omega⟩
  have hi:m / 64<64:=by omega
  obtain ⟨q,hq,hq2,c0⟩:=hs.val (m / 64) hi;have f0:=hs.frozen (m / 64);have HQ:=Zh (ZIk q m hq2);have HR:=Zh (show SetAt (w.setCell ⟨g,m / 64,none⟩ (.int .u64 ((q &&& (18446744073709551615-2^(m%64)):Nat):Int))) g (ZAs ws m) most by
   unfold ZAs;rw[if_pos h0,show ((m:Int)).toNat=m by omega,dropN,hq];exact hs.set_ (m / 64) hi _ (Nat.lt_of_le_of_lt Nat.and_le_left hq2))
  have HK:=Zh ((ZE.refl (fun k=>k=g) w).setCell (p:=⟨g,m / 64,none⟩) (Or.inr rfl) (.int .u64 ((q &&& (18446744073709551615-2^(m%64)):Nat):Int)));clear hs hq hq2;go_enter Tryz.func200,Tryz.ntmps200
  go_wp2;go_region
  rw[HQ.out];go_wp2
  go_end0
  exact ⟨rfl,HR.out.drew,HK.out.drew⟩
 ·have HR:=Zh (show SetAt w g (ZAs ws n) most by rw[ZAs,if_neg h0];exact hs)
  clear hs;go_enter Tryz.func200,Tryz.ntmps200
  go_wp2
  go_end0
  exact ⟨rfl,HR.out,ZE.refl _ _⟩
theorem ZDj {P:Program} {w:World} {ops:Array Oper} {rest:List Oper} {o:Oper} {a:Act} {Q:Exit→Act→World→Prop} (hgd:o.guard=none) (t:TypeId) (x:Operand) (ho:o.op=.load t x) {p v:Value} (hx:a.eval x=p)
  (hr:(Instr.loadAt t p).run P w=.ok v w) (h:wpList P ops Q rest (a.put o.dst v) w):wpList P ops Q (o::rest) a w:=
 wpList_plain hgd fun K hK=>by
  unfold Oper.wp execOp;simp only[ho,hx,Sem.run_bind,Sem.run_pure,Result.andThen_ok,hr];exact hK _ _ h
theorem inf110:(Tryz.prog.info? 268).map (·.size)=some 65:=by kernel_rfl
theorem load_set {W:World} {g:Nat} {cs:Array Value} (h:Blk W g 268 cs) (hs:cs.size=65):(Instr.loadAt 268 (.pointer (some ⟨g,0,none⟩))).run Tryz.prog W=.ok (.agg cs) W:=by
 simp only[Instr.loadAt,Instr.sureAddr,Sem.run_bind,Sem.run_pure,Result.andThen];exact run_loadVar_row W g 268 268 cs (0,0) _ h Tryz.underlying268 rfl (by rw[inf110,hs])
theorem ZGK (g:Nat) (ws:List Nat) (most:Nat) (n:Int) (w:World) (hs:SetAt w g ws most) (hn:n<4096) :
  Calls Tryz.prog 192 #[.pointer (some ⟨g,0,none⟩),.int .i64 n] w fun e w'=>(∃g',e=.returned (.pointer (some ⟨g',0,none⟩))∧w.heap.size≤g'∧SetAt w' g' (ZAs ws n) most)∧Below w.heap.size w w':=by
 obtain ⟨cs,hb,hc⟩:=hs.b;have hsz:cs.size=65:=by
  have:=congrArg List.length hc
  simpa[hs.ln] using this
 have HL:=Zh (load_set hb hsz);have HS:=Zh (show SetAt (w.alloc (.cells cs 268)) w.heap.size ws most from ⟨⟨cs,Blk.new w _ cs,hc⟩,hs.ln,hs.hi⟩);have z65:Tryz.zeroCells268.size=65:=by kernel_rfl
 have hst:=run_storeCells_new (P:=Tryz.prog) w 268 Tryz.zeroCells268 cs (by rw[inf110,hsz]) (by rw[z65,hsz]) (by
  rw[←Array.all_toList,hc]
  simp[Value.oneCell'])
 have HDR:=Zh (ZE2 w.heap.size ws most n _ HS.out hn);clear hs hb hc;go_enter Tryz.func192,Tryz.ntmps192
 go_wp2_with (refine ZDj rfl 268 (.tmp 7) rfl rfl HL.out ?_)
 refine HDR.out.mono ?_;rintro e w1 ⟨rfl,h1,h2⟩;have H1:=Zh h1;have HB:=Zh ((ZN w (.cells cs 268)).trans (h2.toBelow (ZBB _ _) (fun k hk=>by omega)));clear h1 h2;go_wp2_with fail
 go_ret;exact ⟨⟨_,rfl,Nat.le_refl _,H1.out⟩,HB.out⟩
theorem or_nat (a b:Nat) (ha:a<2^64) (hb:b<2^64):bits .or .u64 (a:Int) (b:Int)=((a ||| b:Nat):Int):=u64_or_nat a b (by simpa using ha) (by simpa using hb)
theorem ZCx (g g2:Nat) (ws os:List Nat) (most m2:Nat) (w:World) (hs:SetAt w g ws most) (ho:SetAt w g2 os m2) (hne:g2≠g) (hm:most≤4096) :
  Calls Tryz.prog 164 #[.pointer (some ⟨g,0,none⟩),.pointer (some ⟨g2,0,none⟩)] w fun e w'=>e=.returned (.bool (grewN ws os ((most+63) / 64)))∧SetAt w' g (ZAE ws os ((most+63) / 64)) most∧ZE (fun k=>k=g) w w':=by
 have c64:=hs.top;have HS:=Zh hs;have HO:=Zh ho;clear hs ho;have hq:((most:Int)+63) / 64=((most+63) / 64:Nat):=by omega
 have hN:(most+63) / 64≤64:=by omega
 obtain ⟨N,hNe⟩:∃N,(most+63) / 64=N:=⟨_,rfl⟩
 rw[hNe] at hq hN ⊢;clear hNe;go_enter Tryz.func164,Tryz.ntmps164
 go_wp2
 go_loopw [14,5] (fun i gr wr=>∃k:Nat,k≤N∧i=.int .i64 k∧gr=.bool (grewN ws os k)∧Hid (SetAt wr g (ZAE ws os k) most∧ZE (fun k=>k=g) w wr)) (fun i _ _=>N-(intOf i).toNat)
 case atStart=>exact ⟨0,Nat.zero_le _,rfl,rfl,HS.out,ZE.refl _ _⟩
 case round=>
  obtain ⟨k,hk,rfl,rfl,HW⟩:=hrel
  by_cases hlt:k<N
  ·have hk64:k<64:=by omega
   obtain ⟨a,ha,ha2,c0⟩:=HW.out.1.val k hk64;obtain ⟨b,hb,hb2,d0⟩:=(HO.out.keeps HW.out.2 hne).val k hk64;rw[ZEw ws os k k (Nat.le_refl _)] at ha;have f0:=HW.out.1.frozen k;have HOR:=Zh (or_nat a b ha2 hb2);have c0':=fun m=>(show (wr.drewN m).cell? ⟨g,k,none⟩=_ from c0)
   have d0':=fun m=>(show (wr.drewN m).cell? ⟨g2,k,none⟩=_ from d0)
   have f0':=fun m=>(show (wr.drewN m).frozen? ⟨g,k,none⟩=_ from f0)
   have HG:=Zh (show grewN ws os (k+1)=(grewN ws os k || ((a ||| b:Nat):Int) != (a:Int)) by
    rw[grewN,ha,hb];generalize a ||| b=c;have e:(c != a)=((c:Int) != (a:Int)):=by
     by_cases h:c=a
     ·subst h;rw[bne_self_eq_false,bne_self_eq_false]
     ·have h2:¬(c:Int)=(a:Int):=by omega
      rw[bne_iff_ne.2 h,bne_iff_ne.2 h2]
    rw[e])
   have HN:=Zh (fun m=>show SetAt ((wr.drewN m).setCell ⟨g,k,none⟩ (.int .u64 ((a ||| b:Nat):Int))) g (ZAE ws os (k+1)) most∧ZE (fun k=>k=g) w ((wr.drewN m).setCell ⟨g,k,none⟩ (.int .u64 ((a ||| b:Nat):Int))) by
    refine ⟨?_,(HW.out.2.drewN m).setCell (Or.inr rfl) _⟩;have h2:SetAt (wr.drewN m) g (ZAE ws os k) most:=by
     obtain ⟨cs,h3,h4⟩:=HW.out.1.b;exact ⟨⟨cs,h3,h4⟩,HW.out.1.ln,HW.out.1.hi⟩
    rw[ZAE,ha,hb];exact h2.set_ k hk64 _ (Nat.or_lt_two_pow ha2 hb2))
   obtain ⟨gr,hgr⟩:∃gr,grewN ws os k=gr:=⟨_,rfl⟩
   rw[hgr] at HG ⊢;clear hgr ha hb ha2 hb2 HW
   cases gr with
   | true=>
    go_wp2;go_quiet (fail)
    rw[HOR.out];go_wp2;go_roundw
    case rel=>exact ⟨k+1,by omega,by go_num,by rw[HG.out];rfl,HN.out _⟩
    case measure=>simp[intOf];omega
   | false=>
    go_wp2;go_quiet (fail)
    rw[HOR.out];go_wp2;go_roundw
    case rel=>exact ⟨k+1,by omega,by go_num,by rw[HG.out];rfl,HN.out _⟩
    case measure=>simp[intOf];omega
  ·have hke:k=N:=by omega
   subst hke;go_wp2;go_ret;exact ⟨rfl,HW.out⟩
end Go.Proofs.YtggmkofbikafhaaGreatDoor
