/- Walks and plain laws on the way to FramePrologue (MM, XX0, XV, XW0, XX1). Conditions: those that each theorem states. -/
import Derived.Test.YtggmkofbikafhaaGreatDoorMR18
set_option linter.unusedVariables false
set_option linter.unusedSimpArgs false
set_option maxRecDepth 100000
set_option maxHeartbeats 40000000
namespace Go.Proofs.YtggmkofbikafhaaGreatDoor
open Go.RowKit
structure MSt where
 rg:List Nat
 pc:Nat
 over:Bool
 en:Int
 co:Int
 ns:List Area
def ZD2 (x:Nat):Value:=.int .u32 (x:Int)
def mcsL (gm:Nat) (iv:Value) (k:Int) (s:MSt):List Value:=.pointer (some ⟨gm,0,none⟩)::(s.rg.map ZD2++[.int .i64 (s.pc:Int),.int .i64 k,iv,.slice none 0 0,.int .i64 0,.bool s.over,.int .i64 s.en,.int .i64 s.co])
def mcs (gm:Nat) (iv:Value) (k:Int) (s:MSt):Array Value:=(mcsL gm iv k s).toArray
structure MAt (w:World) (bm gm:Nat) (iv:Value) (k:Int) (s:MSt):Prop where
 b:Blk w bm 59 (mcs gm iv k s)
 m:ZW w gm s.ns
 l:s.rg.length=16
 u:∀x∈s.rg,x<4294967296
 k0:0≤k
 k1:k≤1000000
 pc1:s.pc≤1000000000
theorem mcs_reg {gm:Nat} {iv:Value} {k:Int} {s:MSt} (hl:s.rg.length=16) {i:Nat} (hi:i<16):(mcs gm iv k s)[1+i]? = some (ZD2 (s.rg.getD i 0)):=by
 unfold mcs mcsL;rw[List.getElem?_toArray,Nat.add_comm,List.getElem?_cons_succ,List.getElem?_append_left (by simp;omega)];simp[hl,hi]
theorem ZEI {gm:Nat} {iv:Value} {k:Int} {s:MSt} (hl:s.rg.length=16) (j:Nat):(mcs gm iv k s)[17+j]? = [Value.int .i64 (s.pc:Int),.int .i64 k,iv,.slice none 0 0,.int .i64 0,.bool s.over,.int .i64 s.en,.int .i64 s.co][j]?:=by
 unfold mcs mcsL;rw[List.getElem?_toArray,show 17+j=(16+j)+1 by omega,List.getElem?_cons_succ,List.getElem?_append_right (by simp;omega)]
 congr 1
 simp[hl]
theorem Blk.cellq {w:World} {g:Nat} {t:TypeId} {cs:Array Value} (h:Blk w g t cs) {j:Nat} {v:Value} (hv:cs[j]? = some v):w.cell? ⟨g,j,none⟩=some v:=(h.cell j).trans hv
theorem MAt.mem {w:World} {bm gm:Nat} {iv:Value} {k:Int} {s:MSt} (h:MAt w bm gm iv k s):w.cell? ⟨bm,0,none⟩=some (.pointer (some ⟨gm,0,none⟩)):=h.b.cellq rfl
theorem MAt.reg {w:World} {bm gm:Nat} {iv:Value} {k:Int} {s:MSt} (h:MAt w bm gm iv k s) {i:Nat} (hi:i<16):w.cell? ⟨bm,1+i,none⟩=some (.int .u32 (s.rg.getD i 0:Nat)):=h.b.cellq (mcs_reg h.l hi)
theorem MAt.pc {w:World} {bm gm:Nat} {iv:Value} {k:Int} {s:MSt} (h:MAt w bm gm iv k s):w.cell? ⟨bm,17,none⟩=some (.int .i64 (s.pc:Int)):=h.b.cellq (ZEI h.l 0)
theorem MAt.st {w:World} {bm gm:Nat} {iv:Value} {k:Int} {s:MSt} (h:MAt w bm gm iv k s):w.cell? ⟨bm,18,none⟩=some (.int .i64 k):=h.b.cellq (ZEI h.l 1)
theorem MAt.ov {w:World} {bm gm:Nat} {iv:Value} {k:Int} {s:MSt} (h:MAt w bm gm iv k s):w.cell? ⟨bm,22,none⟩=some (.bool s.over):=h.b.cellq (ZEI h.l 5)
theorem MAt.en {w:World} {bm gm:Nat} {iv:Value} {k:Int} {s:MSt} (h:MAt w bm gm iv k s):w.cell? ⟨bm,23,none⟩=some (.int .i64 s.en):=h.b.cellq (ZEI h.l 6)
theorem MAt.co {w:World} {bm gm:Nat} {iv:Value} {k:Int} {s:MSt} (h:MAt w bm gm iv k s):w.cell? ⟨bm,24,none⟩=some (.int .i64 s.co):=h.b.cellq (ZEI h.l 7)
theorem MAt.told {w:World} {bm gm:Nat} {iv:Value} {k:Int} {s:MSt} (h:MAt w bm gm iv k s):w.cell? ⟨bm,20,none⟩=some (.slice none 0 0):=h.b.cellq (ZEI h.l 3)
theorem MAt.lt {w:World} {bm gm:Nat} {iv:Value} {k:Int} {s:MSt} (h:MAt w bm gm iv k s):bm<w.heap.size:=h.b.lt
theorem MAt.ru {w:World} {bm gm:Nat} {iv:Value} {k:Int} {s:MSt} (h:MAt w bm gm iv k s) (i:Nat):s.rg.getD i 0<4294967296:=by
 rcases Nat.lt_or_ge i s.rg.length with hi|hi
 ·rw[List.getD_eq_getElem?_getD,List.getElem?_eq_getElem hi]
  exact h.u _ (List.getElem_mem hi)
 ·rw[List.getD_eq_getElem?_getD,List.getElem?_eq_none hi];decide
theorem MAt.below {w w':World} {bm gm:Nat} {iv:Value} {k:Int} {s:MSt} (h:MAt w bm gm iv k s) (hb:Below w.heap.size w w'):MAt w' bm gm iv k s:=
 { h with b:=h.b.below hb h.b.lt,m:=h.m.below hb }
theorem MAt.cellSet {w:World} {bm gm:Nat} {iv:Value} {k:Int} {s:MSt} (h:MAt w bm gm iv k s) (j:Nat) (v:Value):ZW (w.setCell ⟨bm,j,none⟩ v) gm s.ns∧ZE (· = bm) w (w.setCell ⟨bm,j,none⟩ v):=by
 have hk:ZE (· = bm) w (w.setCell ⟨bm,j,none⟩ v):=(ZE.refl (· = bm) w).setCell (p:=⟨bm,j,none⟩) (Or.inr rfl) v;refine ⟨h.m.keeps hk (fun g t cs e hb=>?_) (fun g hg e=>?_),hk⟩
 ·subst e
  obtain rfl:=hb.kind h.b
  decide
 ·subst e
  obtain ⟨c,hc⟩:=h.m.row_blk hg;exact absurd (hc.kind h.b) (by decide)
theorem mcs_setR {gm:Nat} {iv:Value} {k:Int} {s:MSt} (hl:s.rg.length=16) {i:Nat} (hi:i<16) (x:Nat):(mcs gm iv k s).setIfInBounds (1+i) (ZD2 x)=mcs gm iv k { s with rg:=s.rg.set i x }:=by
 unfold mcs mcsL;rw[List.setIfInBounds_toArray,Nat.add_comm 1 i,List.set_cons_succ,List.set_append_left _ _ (by simp;omega),List.map_set]
theorem ZB8 {gm:Nat} {iv:Value} {k:Int} {s:MSt} (hl:s.rg.length=16) (j:Nat) (v:Value):(mcs gm iv k s).setIfInBounds (17+j) v=(Value.pointer (some ⟨gm,0,none⟩)::(s.rg.map ZD2++[Value.int .i64 (s.pc:Int),.int .i64 k,iv,.slice none 0 0,.int .i64 0,.bool s.over,.int .i64 s.en,.int .i64 s.co].set j v)).toArray:=by
 unfold mcs mcsL;rw[List.setIfInBounds_toArray,show 17+j=(16+j)+1 by omega,List.set_cons_succ,List.set_append_right _ _ (by simp;omega)];simp[hl]
theorem ZIR {r:List Nat} {i x:Nat} (h:∀y∈r,y<4294967296) (hx:x<4294967296):∀y∈r.set i x,y<4294967296:=by
 intro y hy;rcases List.mem_or_eq_of_mem_set hy with hy|rfl
 ·exact h y hy
 ·exact hx
theorem MAt.setReg {w:World} {bm gm:Nat} {iv:Value} {k:Int} {s:MSt} (h:MAt w bm gm iv k s) {i:Nat} (hi:i<16) {x:Nat} (hx:x<4294967296):MAt (w.setCell ⟨bm,1+i,none⟩ (.int .u32 (x:Int))) bm gm iv k { s with rg:=s.rg.set i x }:=
 { b:=by have:=h.b.set_ (1+i) (ZD2 x);rwa[mcs_setR h.l hi] at this,m:=(h.cellSet _ _).1,l:=by simp[h.l],u:=ZIR h.u hx,k0:=h.k0,k1:=h.k1,pc1:=h.pc1 }
theorem MAt.setPc {w:World} {bm gm:Nat} {iv:Value} {k:Int} {s:MSt} (h:MAt w bm gm iv k s) {x:Nat} (hx:x≤1000000000):MAt (w.setCell ⟨bm,17,none⟩ (.int .i64 (x:Int))) bm gm iv k { s with pc:=x }:=
 { b:=by have:=h.b.set_ (17+0) (.int .i64 (x:Int));rwa[ZB8 h.l] at this,m:=(h.cellSet _ _).1,l:=h.l,u:=h.u,k0:=h.k0,k1:=h.k1,pc1:=hx }
theorem MAt.setSt {w:World} {bm gm:Nat} {iv:Value} {k k':Int} {s:MSt} (h:MAt w bm gm iv k s) (h0:0≤k') (h1:k'≤1000000):MAt (w.setCell ⟨bm,18,none⟩ (.int .i64 k')) bm gm iv k' s:=
 { b:=by have:=h.b.set_ (17+1) (.int .i64 k');rwa[ZB8 h.l] at this,m:=(h.cellSet _ _).1,l:=h.l,u:=h.u,k0:=h0,k1:=h1,pc1:=h.pc1 }
theorem MAt.setEnd {w:World} {bm gm:Nat} {iv:Value} {k:Int} {s:MSt} (h:MAt w bm gm iv k s) (e c:Int):MAt (((w.setCell ⟨bm,22,none⟩ (.bool true)).setCell ⟨bm,23,none⟩ (.int .i64 e)).setCell ⟨bm,24,none⟩ (.int .i64 c)) bm gm iv k { s with over:=true,en:=e,co:=c }:=by
 have h1:MAt (w.setCell ⟨bm,22,none⟩ (.bool true)) bm gm iv k { s with over:=true }:=
  { b:=by have:=h.b.set_ (17+5) (.bool true);rwa[ZB8 h.l] at this,m:=(h.cellSet _ _).1,l:=h.l,u:=h.u,k0:=h.k0,k1:=h.k1,pc1:=h.pc1 }
 have h2:MAt ((w.setCell ⟨bm,22,none⟩ (.bool true)).setCell ⟨bm,23,none⟩ (.int .i64 e)) bm gm iv k { s with over:=true,en:=e }:=
  { b:=by have:=h1.b.set_ (17+6) (.int .i64 e);rwa[ZB8 h1.l] at this,m:=(h1.cellSet _ _).1,l:=h.l,u:=h.u,k0:=h.k0,k1:=h.k1,pc1:=h.pc1 }
 exact { b:=by have:=h2.b.set_ (17+7) (.int .i64 c);rwa[ZB8 h2.l] at this,m:=(h2.cellSet _ _).1,l:=h.l,u:=h.u,k0:=h.k0,k1:=h.k1,pc1:=h.pc1 }
def MF (bm:Nat) (s:MSt) (g:Nat):Prop:=g=bm∨g∈rowsOf s.ns
theorem ZAR (n:Int) (w:World):Calls Tryz.prog 40 #[.int .i64 n] w fun e w'=>e=.returned (.int .u32 (n%4294967296))∧w'=w:=by
 go_enter Tryz.func40,Tryz.ntmps40
 go_wp2_with fail
 go_ret;exact ⟨rfl,rfl⟩
theorem ZFX (o:Int) (w:World) (h:o=28∨o=31):Calls Tryz.prog 45 #[.int .i64 o] w fun e w'=>e=.returned (.int .i64 4)∧w'=w:=by
 rcases h with rfl|rfl
 all_goals
  go_enter Tryz.func45,Tryz.ntmps45
  go_wp2_with fail
  go_ret;exact ⟨rfl,rfl⟩
def plainOf (o:Int):Int:=if o=18 then 1 else 0
theorem ZAN (o:Int) (w:World) (h:o=18∨o=25∨o=28∨o=31∨o=36∨o=37∨o=39∨o=42):Calls Tryz.prog 42 #[.int .i64 o] w fun e w'=>e=.returned (.int .i64 (plainOf o))∧w'=w:=by
 rcases h with rfl|rfl|rfl|rfl|rfl|rfl|rfl|rfl
 all_goals
  go_enter Tryz.func42,Tryz.ntmps42
  go_wp2_with fail
  go_ret;exact ⟨rfl,rfl⟩
theorem ZFS (a b:Int) (w:World):Calls Tryz.prog 41 #[.int .i64 1,.int .u32 a,.int .u32 b] w fun e w'=>e=.returned (.tuple #[.int .u32 ((a+b)%4294967296),.bool true])∧w'=w:=by
 go_enter Tryz.func41,Tryz.ntmps41
 go_wp2_with fail
 go_ret2
 exact ⟨rfl,rfl⟩
theorem ZI4 (a b:Int) (w:World):Calls Tryz.prog 41 #[.int .i64 2,.int .u32 a,.int .u32 b] w fun e w'=>e=.returned (.tuple #[.int .u32 ((a-b)%4294967296),.bool true])∧w'=w:=by
 go_enter Tryz.func41,Tryz.ntmps41
 go_wp2_with fail
 go_ret2
 exact ⟨rfl,rfl⟩
theorem ends_any (bm gm:Nat) (iv:Value) (k:Int) (s:MSt) (e c:Int) (w:World) (h:MAt w bm gm iv k s):Calls Tryz.prog 38 #[.pointer (some ⟨bm,0,none⟩),.int .i64 e,.int .i64 c] w fun r w'=>r=.returned (.tuple #[])∧MAt w' bm gm iv k { s with over:=true,en:=e,co:=c }∧ZE (· = bm) w w':=by
 have HN:=Zh (Za (h.setEnd e c) ((((ZE.refl (· = bm) w).setCell (p:=⟨bm,22,none⟩) (Or.inr rfl) (.bool true)).setCell (p:=⟨bm,23,none⟩) (Or.inr rfl) (.int .i64 e)).setCell (p:=⟨bm,24,none⟩) (Or.inr rfl) (.int .i64 c)));have c1:=h.ov;have c2:=h.en;have c3:=h.co;have f1:=h.b.frozen 22;have f2:=h.b.frozen 23;have f3:=h.b.frozen 24;clear h;go_enter Tryz.func38,Tryz.ntmps38
 go_wp2_with fail
 go_end0
 exact ⟨rfl,HN.out.1,HN.out.2⟩
end Go.Proofs.YtggmkofbikafhaaGreatDoor
namespace Go.Proofs.YtggmkofbikafhaaGreatDoor
open Go.RowKit Go.Lib
def upN (n:Nat):Nat:=(n+15) / 16*16
theorem ZGO (n:Nat) (w:World) (hn:n≤16777216):Calls Tryz.prog 70 #[.int .i64 n] w fun e w'=>e=.returned (.int .i64 (upN n:Nat))∧w'=w:=by
 have e1:IntKind.i64.wrap ((n:Int)+15)=((n+15:Nat):Int):=by rw[IntWalk.i64_in _ (by omega)];omega
 have e2:((n+15:Nat):Int).tdiv 16=(((n+15) / 16:Nat):Int):=by rw[Int.tdiv_eq_ediv_of_nonneg (by omega)];omega
 have e3:IntKind.i64.wrap ((((n+15) / 16:Nat):Int))=(((n+15) / 16:Nat):Int):=by rw[IntWalk.i64_in _ (by omega)]
 have e4:IntKind.i64.wrap ((((n+15) / 16:Nat):Int)*16)=((upN n:Nat):Int):=by unfold upN;rw[IntWalk.i64_in _ (by omega)];omega
 go_enter Tryz.func70,Tryz.ntmps70
 obtain ⟨u,hu⟩:∃u,upN n=u:=⟨_,rfl⟩
 rw[hu] at e4 ⊢;obtain ⟨a,ha⟩:∃a:Nat,n+15=a:=⟨_,rfl⟩
 obtain ⟨d,hd⟩:∃d:Nat,(n+15) / 16=d:=⟨_,rfl⟩
 rw[hd] at e2 e3 e4;rw[ha] at e1 e2;go_wp2_with fail
 go_ret;exact ⟨rfl,rfl⟩
def stackS:ByteArray:={ data:=#[115,116,97,99,107] }
theorem ZGm (w:World):Calls Tryz.prog 71 #[.string stackS] w fun e w'=>e=.returned (.bool true)∧w'=w:=by
 unfold stackS;go_enter Tryz.func71,Tryz.ntmps71
 go_wp2_with fail
 go_loopw [3] (fun v W=>∃k:Nat,k≤5∧v=.int .i64 k∧W=w) (fun v _=>5-(Go.RowKit.intOf v).toNat)
 case atStart=>exact ⟨0,by omega,rfl,rfl⟩
 case round=>
  obtain ⟨k,hk,rfl,rfl⟩:=hrel;rcases (show k=0∨k=1∨k=2∨k=3∨k=4∨k=5 by omega) with rfl|rfl|rfl|rfl|rfl|rfl
  ·go_wp2_with fail
   go_roundw
   case rel=>exact ⟨1,by omega,by go_num,trivial⟩
   case measure=>first|(simp[Go.RowKit.intOf];done)|(simp[Go.RowKit.intOf];omega)
  ·go_wp2_with fail
   go_roundw
   case rel=>exact ⟨2,by omega,by go_num,trivial⟩
   case measure=>first|(simp[Go.RowKit.intOf];done)|(simp[Go.RowKit.intOf];omega)
  ·go_wp2_with fail
   go_roundw
   case rel=>exact ⟨3,by omega,by go_num,trivial⟩
   case measure=>first|(simp[Go.RowKit.intOf];done)|(simp[Go.RowKit.intOf];omega)
  ·go_wp2_with fail
   go_roundw
   case rel=>exact ⟨4,by omega,by go_num,trivial⟩
   case measure=>first|(simp[Go.RowKit.intOf];done)|(simp[Go.RowKit.intOf];omega)
  ·go_wp2_with fail
   go_roundw
   case rel=>exact ⟨5,by omega,by go_num,trivial⟩
   case measure=>first|(simp[Go.RowKit.intOf];done)|(simp[Go.RowKit.intOf];omega)
  ·go_wp2_with fail
   go_ret;exact ⟨rfl,rfl⟩
theorem ZJz (v1 v2 v4:Value) (A3:Option Addr) (k3:Nat) (lb:List Lb) (s:ByteArray) (w:World) (h:RowOf w (.slice A3 lb.length k3) lb.length (lb.flatMap lbc)) (hn:∀x∈lb,str x.nm≠s) (hlb:lb.length≤1000) :
  Calls Tryz.prog 120 #[.agg #[v1,v2,.slice A3 lb.length k3,v4],.string s] w fun e w'=>e=.returned (.bool false)∧Below w.heap.size w w':=by
 have hb:=ZV w (.cells #[v1,v2,.slice A3 lb.length k3,v4] 36);have HR:=Zh (h.below hb);have HB:=Zh hb;have HNE:=Zh hn;have HBL:=Zh (Blk.new w 36 #[v1,v2,.slice A3 lb.length k3,v4]);clear h hn hb;obtain ⟨n3,hn3⟩:∃n3,lb.length=n3:=⟨_,rfl⟩
 rw[hn3] at HR HB HBL hlb ⊢;have HN3:=Zh hn3;clear hn3;go_enter Tryz.func120,Tryz.ntmps120
 go_wp2_with fail
 obtain ⟨w1,hw1⟩:∃w1,w.alloc (.cells #[v1,v2,.slice A3 n3 k3,v4] 36)=w1:=⟨_,rfl⟩
 rw[hw1] at HR HB HBL ⊢;clear hw1
 go_loopw [5] (fun v W=>∃k:Nat,k≤n3∧v=.int .i64 k∧W=w1) (fun v _=>n3-(Go.RowKit.intOf v).toNat)
 case atStart=>exact ⟨0,by omega,rfl,rfl⟩
 case round=>
  obtain ⟨k,hk,rfl,rfl⟩:=hrel;have d2:wr.cell? ⟨w.heap.size,2,none⟩=some (.slice A3 n3 k3):=(HBL.out.cell 2).trans rfl
  by_cases hlt:k<n3
  ·have hkl:k<lb.length:=by rw[HN3.out];exact hlt
   have hrow:RowOf wr (.slice A3 n3 k3) lb.length (lb.flatMap lbc):=by rw[HN3.out];exact HR.out
   obtain ⟨g3,off3,rfl,hg3,hc3⟩:=ZAp hrow hkl;obtain ⟨c0,-,-,-⟩:=hc3 k hkl;have hne:=HNE.out _ (List.getElem_mem hkl);obtain ⟨s1,hs1⟩:∃s,str lb[k].nm=s:=⟨_,rfl⟩
   rw[hs1] at c0 hne;have he:(s1.toList==s.toList)=false:=beq_eq_false_iff_ne.2 (fun e=>hne (eq_of_toList e));clear hs1 hne hc3 hrow hg3;go_wp2_with fail
   go_roundw
   case rel=>exact ⟨k+1,by omega,by go_num,trivial⟩
   case measure=>first|(simp[Go.RowKit.intOf];done)|(simp[Go.RowKit.intOf];omega)
  ·have hke:k=n3:=by omega
   subst hke;go_wp2_with fail
   go_ret;exact ⟨rfl,HB.out⟩
theorem ZFT (v1 v2 v4:Value) (A3:Option Addr) (k3:Nat) (lb:List Lb) (s:ByteArray) (ev:Value) (w:World) (h:RowOf w (.slice A3 lb.length k3) lb.length (lb.flatMap lbc)) (hn:∀x∈lb,str x.nm≠s) (hlb:lb.length≤1000)
  (h1:(s.toList == [116,101,120,116])=false) (h2:(s.toList == [100,97,116,97])=false) :
  Calls Tryz.prog 72 #[.agg #[v1,v2,.slice A3 lb.length k3,v4],ev,.int .i64 0,.string s] w fun e w'=>e=.returned (.bool false)∧Below w.heap.size w w':=by
 have hb:=ZV w (.cells #[v1,v2,.slice A3 lb.length k3,v4] 36);have HL:=Zh (ZJz v1 v2 v4 A3 k3 lb s _ (h.below hb) hn hlb);have h3:¬s.toList=[116,101,120,116]:=beq_eq_false_iff_ne.1 h1;have h4:¬s.toList=[100,97,116,97]:=beq_eq_false_iff_ne.1 h2;have HB:=Zh hb;clear h hn hb;obtain ⟨n3,hn3⟩:∃n3,lb.length=n3:=⟨_,rfl⟩
 rw[hn3] at HL HB hlb ⊢;clear hn3;go_enter Tryz.func72,Tryz.ntmps72
 go_wp2_with fail
 refine HL.out.mono ?_;rintro e w2 ⟨rfl,hb2⟩;have HB2:=Zh (HB.out.trans (ZA hb2 HB.out.size));clear HL HB hb2;go_wp2_with fail
 go_loopw [9] (fun v W=>v=.int .i64 0∧W=w2) (fun _ _=>0)
 case atStart=>exact ⟨rfl,rfl⟩
 case round=>
  obtain ⟨rfl,rfl⟩:=hrel;go_wp2_with fail
  go_ret;exact ⟨rfl,HB2.out⟩
theorem ZCf (A1:Option Addr) (n1 k1:Nat) (v2 v3 v4:Value) (w:World):Calls Tryz.prog 119 #[.agg #[.slice A1 n1 k1,v2,v3,v4],.int .i64 0] w fun e w'=>e=.returned (.slice A1 n1 k1)∧Below w.heap.size w w':=by
 go_enter Tryz.func119,Tryz.ntmps119
 go_wp2_with fail
 go_ret;exact ⟨rfl,ZV _ _⟩
theorem ZAm (w:World):Calls Tryz.prog 118 #[.slice none 0 0] w fun e w'=>e=.returned (.slice none 0 0)∧w'=w:=by
 go_enter Tryz.func118,Tryz.ntmps118
 go_wp2_with fail
 go_loopw [0] (fun v wr=>v=.slice none 0 0∧wr=w) (fun _ _=>0)
 case atStart=>exact ⟨rfl,rfl⟩
 case round=>
  obtain ⟨rfl,rfl⟩:=hrel;go_wp2_with fail
  go_ret;exact ⟨rfl,rfl⟩
def Bx4 (W:World) (p:Nat) (v1 v2 v3 v4:Value):Prop:=W.cell? ⟨p,0,none⟩=some v1∧W.cell? ⟨p,1,none⟩=some v2∧W.cell? ⟨p,2,none⟩=some v3∧W.cell? ⟨p,3,none⟩=some v4
theorem Blk.bx4 {W:World} {p:Nat} {t:TypeId} {v1 v2 v3 v4:Value} (h:Blk W p t #[v1,v2,v3,v4]):Bx4 W p v1 v2 v3 v4:=⟨(h.cell 0).trans rfl,(h.cell 1).trans rfl,(h.cell 2).trans rfl,(h.cell 3).trans rfl⟩
theorem Bx4.below {W W':World} {p:Nat} {v1 v2 v3 v4:Value} (h:Bx4 W p v1 v2 v3 v4) (hb:Below W.heap.size W W'):Bx4 W' p v1 v2 v3 v4:=
 ⟨(hb.cell (cell_lt h.1)).trans h.1,(hb.cell (cell_lt h.2.1)).trans h.2.1,(hb.cell (cell_lt h.2.2.1)).trans h.2.2.1,(hb.cell (cell_lt h.2.2.2)).trans h.2.2.2⟩
structure ZIs (n:Nat) (lb:List Lb):Prop where
 few:n≤1000000
 len:lb.length≤1000
 low:∀x∈lb,Low x.nm
 at_:∀x∈lb,x.at_≤n
 ord:∀i (h:i+1<lb.length),lb[i].at_≤lb[i+1].at_
 new:∀i j (hi:i<lb.length) (hj:j<lb.length),i<j→lb[i].nm≠lb[j].nm
theorem ZCS {w W W':World} {p q n1 k1 n3 k3 k4 g3 off3:Nat} {A1 A4:Option Addr} {at_:Nat} {nm:ByteArray} (h:W.cell? ⟨p,0,none⟩=some (.slice A1 n1 k1)∧W.cell? ⟨p,1,none⟩=some (.slice none 0 0)∧W.cell? ⟨p,2,none⟩=some (.slice (some ⟨g3,off3,none⟩) n3 k3)∧W.cell? ⟨p,3,none⟩=some (.slice A4 0 k4)∧W.cell? ⟨q,0,none⟩=some (.string nm)∧W.cell? ⟨q,1,none⟩=some (.int .i64 0)∧W.cell? ⟨q,2,none⟩=some (.int .i64 (at_:Int))∧Below p w W∧p+1≤W.heap.size) (hb:Below W.heap.size W W'):W'.cell? ⟨p,0,none⟩=some (.slice A1 n1 k1)∧W'.cell? ⟨p,1,none⟩=some (.slice none 0 0)∧W'.cell? ⟨p,2,none⟩=some (.slice (some ⟨g3,off3,none⟩) n3 k3)∧W'.cell? ⟨p,3,none⟩=some (.slice A4 0 k4)∧W'.cell? ⟨q,0,none⟩=some (.string nm)∧W'.cell? ⟨q,1,none⟩=some (.int .i64 0)∧W'.cell? ⟨q,2,none⟩=some (.int .i64 (at_:Int))∧Below p w W'∧p+1≤W'.heap.size:=by
 obtain ⟨c0,c1,c2,c3,c4,c5,c6,h1,h2⟩:=h;have hk:∀ {a:Addr} {v:Value},W.cell? a=some v→W'.cell? a=some v:=fun h=>(hb.cell (cell_lt h)).trans h;exact ⟨hk c0,hk c1,hk c2,hk c3,hk c4,hk c5,hk c6,h1.trans (hb.mono (by omega)),Nat.le_trans h2 hb.size⟩
theorem ZIg (A1 A3 A4:Option Addr) (n1 k1 k3 k4:Nat) (lb:List Lb) (w:World) (h:RowOf w (.slice A3 lb.length k3) lb.length (lb.flatMap lbc)) (hg:ZIs n1 lb) :
  Calls Tryz.prog 117 #[.agg #[.slice A1 n1 k1,.slice none 0 0,.slice A3 lb.length k3,.slice A4 0 k4]] w fun e w'=>e=.returned (.int .i64 0)∧Below w.heap.size w w':=by
 have HL:=Zh h;have HG:=Zh hg;have hm1:=hg.few;have hm3:=hg.len;clear h hg;obtain ⟨p,hp⟩:∃p,w.heap.size=p:=⟨_,rfl⟩
 obtain ⟨n3,hn3⟩:∃n3,lb.length=n3:=⟨_,rfl⟩
 have HN3:=Zh hn3;have HST:Hid (Bx4 (w.alloc (.cells #[.slice A1 n1 k1,.slice none 0 0,.slice A3 n3 k3,.slice A4 0 k4] 36)) p (.slice A1 n1 k1) (.slice none 0 0) (.slice A3 n3 k3) (.slice A4 0 k4)∧Below p w (w.alloc (.cells #[.slice A1 n1 k1,.slice none 0 0,.slice A3 n3 k3,.slice A4 0 k4] 36))∧p+1≤(w.alloc (.cells #[.slice A1 n1 k1,.slice none 0 0,.slice A3 n3 k3,.slice A4 0 k4] 36)).heap.size):=by
  subst hp;exact ⟨(Blk.new w _ _).bx4,ZV _ _,by simp[World.size_alloc]⟩
 have HP:=Zh hp;rw[hp];rw[hn3] at hm3 HL ⊢;clear hn3;go_enter Tryz.func117,Tryz.ntmps117
 go_wp2_with fail
 go_loopw [3] (fun i wr=>∃k:Nat,k≤n3∧i=.int .i64 k∧Hid (Bx4 wr p (.slice A1 n1 k1) (.slice none 0 0) (.slice A3 n3 k3) (.slice A4 0 k4)∧Below p w wr∧p+1≤wr.heap.size)) (fun i _=>n3-(Go.RowKit.intOf i).toNat)
 case atStart=>exact ⟨0,Nat.zero_le _,rfl,HST.out⟩
 case round=>
  clear HST;obtain ⟨k,hk,rfl,HI⟩:=hrel;obtain ⟨⟨a0,a1,a2,a3⟩,-,-⟩:=HI.out
  by_cases hlt:k<n3
  ·have hkl:k<lb.length:=by rw[HN3.out];exact hlt
   have hrow:RowOf w (.slice A3 n3 k3) lb.length (lb.flatMap lbc):=by rw[HN3.out];exact HL.out
   obtain ⟨g3,off3,rfl,hg3,hc3⟩:=ZAp hrow hkl;have HC3:=Zh (Za hg3 hc3);obtain ⟨c0,c1,c2,c3⟩:=hc3 k hkl;have hbw:∀ {a:Addr} {v:Value},w.cell? a=some v→wr.cell? a=some v:=fun h=>(HI.out.2.1.cell (by have:=cell_lt h;rw[HP.out] at this;exact this)).trans h;replace c0:=hbw c0;replace c1:=hbw c1;replace c2:=hbw c2;replace c3:=hbw c3;obtain ⟨at_,hat⟩:∃a,lb[k].at_=a:=⟨_,rfl⟩
   obtain ⟨nm,hnm⟩:∃s,str lb[k].nm=s:=⟨_,rfl⟩
   have hatn:at_≤n1:=by rw[←hat];exact HG.out.at_ _ (List.getElem_mem hkl)
   rw[hat] at c2;rw[hnm] at c0;have HSY:Hid (∀W,Calls Tryz.prog 65 #[.string nm] W fun e w'=>e=.returned (.bool true)∧Below W.heap.size W w'):=fun W=>by
    rw[←hnm]
    exact ZI7 _ W (HG.out.low _ (List.getElem_mem hkl))
   have HNM:=Zh hnm;have HAT:=Zh hat;clear hbw hat hnm hc3 hg3 hrow;go_upto_region 7 with fail
   obtain ⟨q,hq⟩:∃q,wr.heap.size=q:=⟨_,rfl⟩
   rw[hq];obtain ⟨w1,hw1⟩:∃w1,wr.alloc (.cells #[.string nm,.int .i64 0,.int .i64 (at_:Int),.bool false] 102)=w1:=⟨_,rfl⟩
   rw[hw1];have HC:Hid (w1.cell? ⟨p,0,none⟩=some (.slice A1 n1 k1)∧w1.cell? ⟨p,1,none⟩=some (.slice none 0 0)∧w1.cell? ⟨p,2,none⟩=some (.slice (some ⟨g3,off3,none⟩) n3 k3)∧w1.cell? ⟨p,3,none⟩=some (.slice A4 0 k4)∧w1.cell? ⟨q,0,none⟩=some (.string nm)∧w1.cell? ⟨q,1,none⟩=some (.int .i64 0)∧w1.cell? ⟨q,2,none⟩=some (.int .i64 (at_:Int))∧Below p w w1∧p+1≤w1.heap.size):=by
    have hbb:Below wr.heap.size wr w1:=by rw[←hw1];exact ZV _ _
    have hY:=(Blk.new wr 102 #[.string nm,.int .i64 0,.int .i64 (at_:Int),.bool false]).cell;rw[hw1,hq] at hY;obtain ⟨x0,x1,x2,x3⟩:=HI.out.1.below hbb;exact ⟨x0,x1,x2,x3,by rw[hY];rfl,by rw[hY];rfl,by rw[hY];rfl,HI.out.2.1.trans (hbb.mono (by have:=HI.out.2.2;omega)),Nat.le_trans HI.out.2.2 hbb.size⟩
   clear hw1 hq HI c0 c1 c2 c3 a0 a1 a2 a3
   go_cut [70] from 42 to 70 (fun c W=>c=.bool false∧Hid (W.cell? ⟨p,0,none⟩=some (.slice A1 n1 k1)∧W.cell? ⟨p,1,none⟩=some (.slice none 0 0)∧W.cell? ⟨p,2,none⟩=some (.slice (some ⟨g3,off3,none⟩) n3 k3)∧W.cell? ⟨p,3,none⟩=some (.slice A4 0 k4)∧W.cell? ⟨q,0,none⟩=some (.string nm)∧W.cell? ⟨q,1,none⟩=some (.int .i64 0)∧W.cell? ⟨q,2,none⟩=some (.int .i64 (at_:Int))∧Below p w W∧p+1≤W.heap.size))
   case first=>as_aux_lemma=>
    clear HNM HAT HC3 HN3 HG HL;have HPT:Hid (∀W,Calls Tryz.prog 119 #[.agg #[.slice A1 n1 k1,.slice none 0 0,.slice (some ⟨g3,off3,none⟩) n3 k3,.slice A4 0 k4],.int .i64 0] W fun e w'=>e=.returned (.slice A1 n1 k1)∧Below W.heap.size W w'):=fun W=>ZCf _ _ _ _ _ _ W;have d5:decide ((at_:Int)<0)=false:=decide_eq_false (by omega);have d6:decide ((n1:Int)<at_)=false:=decide_eq_false (by omega);refine wp_region_held_drew (S:=(fun W=>W.cell? ⟨p,0,none⟩=some (.slice A1 n1 k1)∧W.cell? ⟨p,1,none⟩=some (.slice none 0 0)∧W.cell? ⟨p,2,none⟩=some (.slice (some ⟨g3,off3,none⟩) n3 k3)∧W.cell? ⟨p,3,none⟩=some (.slice A4 0 k4)∧W.cell? ⟨q,0,none⟩=some (.string nm)∧W.cell? ⟨q,1,none⟩=some (.int .i64 0)∧W.cell? ⟨q,2,none⟩=some (.int .i64 (at_:Int))∧Below p w W∧p+1≤W.heap.size)) (by kernel_rfl) ?_ (fun hHeld=>?_)
    ·exact ZCS HC.out ((Below.refl _ _).drew)
    refine FU 29 rfl ?_;iterate 2 ((first|refine TN 29 rfl ?_|refine TM 29 rfl ?_);(try simp only[AP,Nat.reduceAdd,Nat.reduceSub]))
    refine RW 2 rfl fun K hK=>?_;go_simp
    go_at_call 65;refine (HSY.out _).mono ?_;rintro e w2 ⟨rfl,hb⟩;have t1:=ZCS hHeld hb;clear hb
    try go_wp2_with fail
    refine hK.out _ _ t1 (fun hHeld=>?_);clear hK K;try simp only[AP]
    iterate 22 ((first|refine TN 29 rfl ?_|refine TM 29 rfl ?_);(try simp only[AP,Nat.reduceAdd,Nat.reduceSub]))
    refine RW 25 rfl fun K hK=>?_;go_simp
    go_at_call 119;refine (HPT.out _).mono ?_;rintro e w3 ⟨rfl,hb⟩;have t2:=ZCS hHeld hb;clear hb
    try go_wp2_with fail
    refine hK.out _ _ t2 (fun hHeld=>?_);clear hK K;try simp only[AP]
    iterate 3 ((first|refine TN 29 rfl ?_|refine TM 29 rfl ?_);(try simp only[AP,Nat.reduceAdd,Nat.reduceSub]))
    refine wpAnyH_done (by kernel_rfl) ?_ _;go_wp2_with fail
    go_meet
    case rel=>exact ⟨by rw[decide_eq_false (by omega)],t2⟩
   case rest=>as_aux_lemma=>
    obtain ⟨rfl,HC2⟩:=hcut;clear HC;obtain ⟨a0,a1,a2,a3,b0,b1,b2,_,_⟩:=HC2.out;go_upto_region 9 with fail
    go_cut [108] from 71 to 108 (fun c W=>c=.bool false∧Hid (W.cell? ⟨p,0,none⟩=some (.slice A1 n1 k1)∧W.cell? ⟨p,1,none⟩=some (.slice none 0 0)∧W.cell? ⟨p,2,none⟩=some (.slice (some ⟨g3,off3,none⟩) n3 k3)∧W.cell? ⟨p,3,none⟩=some (.slice A4 0 k4)∧W.cell? ⟨q,0,none⟩=some (.string nm)∧W.cell? ⟨q,1,none⟩=some (.int .i64 0)∧W.cell? ⟨q,2,none⟩=some (.int .i64 (at_:Int))∧Below p w W∧p+1≤W.heap.size))
    case first=>as_aux_lemma=>
     rcases Nat.eq_zero_or_pos k with hk0|hk0
     ·subst hk0
      go_quiet (fail)
      go_wp2_with fail
      go_meet
      case rel=>exact ⟨by first|rfl|rw[decide_eq_false (by omega)],ZCS HC2.out (ZM (Below.refl _ _) _)⟩
     ·obtain ⟨j,rfl⟩:∃j,k=j+1:=⟨k-1,by omega⟩
      obtain ⟨_,c1,c2,_⟩:=HC3.out.2 j (by omega);have hord:lb[j].at_≤at_:=by rw[←HAT.out];exact HG.out.ord j hkl
      obtain ⟨yat,hyat⟩:∃a,lb[j].at_=a:=⟨_,rfl⟩
      rw[hyat] at c2 hord;have hbw:∀ {a:Addr} {v:Value},w.cell? a=some v→wc.cell? a=some v:=fun h=>(HC2.out.2.2.2.2.2.2.2.1.cell (by have:=cell_lt h;rw[HP.out] at this;exact this)).trans h;replace c1:=hbw c1;replace c2:=hbw c2;clear hbw hyat;have e1:IntKind.i64.wrap (((j+1:Nat):Int)-1)=(j:Int):=by rw[IntWalk.i64_in _ (by omega)];omega
      have e2:(0:Int)<((j+1:Nat):Int):=by omega
      have e3:(j:Int)<(n3:Int):=by omega
      have e5:(0:Int)≤(j:Int):=by omega
      have d3':decide ((at_:Int)<yat)=false:=decide_eq_false (by omega);go_quiet (fail)
      go_wp2_with fail
      go_meet
      case rel=>exact ⟨by first|rfl|rw[decide_eq_false (by omega)],ZCS HC2.out (ZM (Below.refl _ _) _)⟩
    case rest=>as_aux_lemma=>
     clear HC2 a0 a1 a2 a3 b0 b1 b2;obtain ⟨rfl,HC2⟩:=hcut;go_wp2_with fail
     go_loopw [5] (fun v W=>∃i:Nat,i≤k∧v=.int .i64 i∧Hid (W.cell? ⟨p,0,none⟩=some (.slice A1 n1 k1)∧W.cell? ⟨p,1,none⟩=some (.slice none 0 0)∧W.cell? ⟨p,2,none⟩=some (.slice (some ⟨g3,off3,none⟩) n3 k3)∧W.cell? ⟨p,3,none⟩=some (.slice A4 0 k4)∧W.cell? ⟨q,0,none⟩=some (.string nm)∧W.cell? ⟨q,1,none⟩=some (.int .i64 0)∧W.cell? ⟨q,2,none⟩=some (.int .i64 (at_:Int))∧Below p w W∧p+1≤W.heap.size)) (fun v _=>k-(Go.RowKit.intOf v).toNat)
     case atStart=>exact ⟨0,Nat.zero_le _,rfl,HC2.out⟩
     case round=>
      clear HC2;obtain ⟨i,hi,rfl,HC2⟩:=hrel
      by_cases hik:i<k
      ·obtain ⟨a0,a1,a2,a3,b0,b1,b2,_,_⟩:=HC2.out
       have hil:i<lb.length:=by omega
       obtain ⟨c0,-,-,-⟩:=HC3.out.2 i hil;obtain ⟨ynm,hynm⟩:∃s,str lb[i].nm=s:=⟨_,rfl⟩
       have hne:ynm≠nm:=by
        rw[←hynm,←HNM.out]
        exact fun e=>HG.out.new i k hil hkl hik (ZBq e)
       rw[hynm] at c0;replace c0:=(HC2.out.2.2.2.2.2.2.2.1.cell (by have:=cell_lt c0;rw[HP.out] at this;exact this)).trans c0;have e3:(i:Int)<(n3:Int):=by omega
       have e5:(0:Int)≤(i:Int):=by omega
       have e6:IntKind.i64.wrap ((i:Int)+1)=((i+1:Nat):Int):=by rw[IntWalk.i64_in _ (by omega)];omega
       have he:(ynm.toList==nm.toList)=false:=beq_eq_false_iff_ne.2 (fun e=>hne (eq_of_toList e));clear hne hynm;go_wp2_with fail
       go_quiet (fail)
       go_wp2_with fail
       go_roundw
       case rel=>exact ⟨i+1,by omega,by go_num,ZCS HC2.out (ZM (Below.refl _ _) _)⟩
       case measure=>simp[Go.RowKit.intOf];omega
      ·have hik2:i=k:=by omega
       subst hik2;go_wp2_with fail
       go_roundw
       case rel=>
        obtain ⟨a0,a1,a2,a3,_,_,_,h1,h2⟩:=HC2.out;exact ⟨i+1,by omega,by go_num,⟨a0,a1,a2,a3⟩,h1,h2⟩
       case measure=>simp[Go.RowKit.intOf];omega
  ·have hkn:k=n3:=by omega
   subst hkn;have HST2:=Zh HI.out;clear HI hlt;go_wp2_with fail
   generalize wr=ws at *
   go_loopw [6] (fun i wr=>i=.int .i64 0∧wr=ws) (fun i _=>0)
   case atStart=>exact ⟨rfl,rfl⟩
   case round=>
    obtain ⟨rfl,rfl⟩:=hrel;go_wp2_with fail
    go_ret;exact ⟨rfl,HST2.out.2.1⟩
theorem Zd {W:World} {g i:Nat} {t:TypeId} {cs:Array Value} {v:Value} (h:Blk W g t cs) (hv:cs[i]? = some v):W.setCell ⟨g,i,none⟩ v=W:=by
 unfold Blk at h;have hs:cs.setIfInBounds i v=cs:=by
  apply Array.ext_getElem?
  intro j;rw[Array.getElem?_setIfInBounds]
  by_cases e:i=j
  ·subst e
   rw[if_pos rfl]
   split
   ·exact hv.symm
   ·rename_i hn
    rw[Array.getElem?_eq_none (by omega)]
  ·rw[if_neg e]
 have hh:(W.setCell ⟨g,i,none⟩ v).heap=W.heap:=by
  apply Array.ext_getElem?
  intro j;unfold World.setCell;rw[Array.getElem?_modify]
  by_cases e:g=j
  ·subst e
   rw[if_pos rfl,h];simp[hs]
  ·rw[if_neg e]
 unfold World.setCell at hh ⊢;obtain ⟨heap,tape,drawn,os,output⟩:=W
 simp only at hh ⊢
 rw[hh]
theorem ZFe {W:World} {B:Nat} {e:TypeId} {size:Nat} {v:Value} {n:Nat} {xs:List Value} (h:W.ownsRow B e size v n xs):∀g,v.ownBlock=some g→g<W.heap.size:=by
 intro g hg;obtain ⟨cu,hcu⟩:=ZI h hg;exact hcu.lt
structure JN (w W:World) (p r:Nat) (tv lv:Value) (tx:List UInt8) (lb:List Lb):Prop where
 below:Below p w W
 pr:p+2≤r
 res:Blk W p 36 ZAk
 flt:Blk W (p+1) 38 #[.int .i64 0,.int .i64 0]
 box:Blk W r 36 #[tv,.slice none 0 0,lv,.slice none 0 0]
 tx:OwnB W (r+1) tv tx
 lb:OwnL W (r+1) lv lb
theorem JN.bel {w W W':World} {p r:Nat} {tv lv:Value} {tx:List UInt8} {lb:List Lb} (h:JN w W p r tv lv tx lb) (hb:Below W.heap.size W W'):JN w W' p r tv lv tx lb:=
 ⟨h.below.trans (ZA hb (by have:=h.flt.lt;omega)),h.pr,h.res.below hb h.res.lt,h.flt.below hb h.flt.lt,h.box.below hb h.box.lt,ZB h.tx (ZC (fun _=>False) hb) (fun _ _=>id),h.lb.below hb⟩
theorem JN.t_ne {w W:World} {p r:Nat} {tv lv:Value} {tx:List UInt8} {lb:List Lb} (h:JN w W p r tv lv tx lb):∀g,tv.ownBlock=some g→lv.ownBlock≠some g:=by
 intro g hg e;obtain ⟨cu,hcu⟩:=ZI h.tx hg;obtain ⟨cv,hcv⟩:=ZI h.lb e;exact absurd (Blk.kind hcu hcv) (by decide)
theorem JN.lab {w W W1:World} {p r:Nat} {tv lv lv':Value} {tx:List UInt8} {lb lb':List Lb} (h:JN w W p r tv lv tx lb) (hk:ZE (fun k=>lv.ownBlock=some k) W W1) (hl:OwnL W1 (r+1) lv' lb'):JN w (W1.setCell ⟨r,2,none⟩ lv') p r tv lv' tx lb':=by
 have hp:∀k,k≤r→¬lv.ownBlock=some k:=fun k hk e=>by have:=h.lb.ge k e;omega
 have hk2:ZE (fun k=>k=r) W1 (W1.setCell ⟨r,2,none⟩ lv'):=(ZE.refl (fun k=>k=r) W1).setCell (p:=⟨r,2,none⟩) (Or.inr rfl) _;have hpr:=h.pr;have hsz:=h.box.lt;refine ⟨?_,hpr,(h.res.keeps hk (hp _ (by omega))).keeps hk2 (by omega),(h.flt.keeps hk (hp _ (by omega))).keeps hk2 (by omega),(h.box.keeps hk (hp _ (by omega))).set_ 2 _,?_,ZB hl hk2 (fun g hg e=>by have:=ZAB hl hg;omega)⟩
 ·exact (h.below.trans (hk.toBelow (by omega) (fun k hlt e=>hp k (by omega) e))).trans (hk2.toBelow (by have:=hk.size;omega) (fun k hlt e=>by omega))
 ·exact ZB (ZB h.tx hk (fun g hg e=>h.t_ne g hg e)) hk2 (fun g hg e=>by have:=ZAB h.tx hg;omega)
theorem JN.text {w W W1:World} {p r:Nat} {tv lv tv':Value} {tx tx':List UInt8} {lb:List Lb} (h:JN w W p r tv lv tx lb) (hk:ZE (fun k=>tv.ownBlock=some k) W W1) (hl:OwnB W1 (r+1) tv' tx'):JN w (W1.setCell ⟨r,0,none⟩ tv') p r tv' lv tx' lb:=by
 have hp:∀k,k≤r→¬tv.ownBlock=some k:=fun k hk e=>by have:=ZAB h.tx e;omega
 have hk2:ZE (fun k=>k=r) W1 (W1.setCell ⟨r,0,none⟩ tv'):=(ZE.refl (fun k=>k=r) W1).setCell (p:=⟨r,0,none⟩) (Or.inr rfl) _;have hpr:=h.pr;have hsz:=h.box.lt;refine ⟨?_,hpr,(h.res.keeps hk (hp _ (by omega))).keeps hk2 (by omega),(h.flt.keeps hk (hp _ (by omega))).keeps hk2 (by omega),(h.box.keeps hk (hp _ (by omega))).set_ 0 _,ZB hl hk2 (fun g hg e=>by have:=ZAB hl hg;omega),?_⟩
 ·exact (h.below.trans (hk.toBelow (by omega) (fun k hlt e=>hp k (by omega) e))).trans (hk2.toBelow (by have:=hk.size;omega) (fun k hlt e=>by omega))
 ·exact ZB (ZB h.lb hk (fun g hg e=>h.t_ne g e hg)) hk2 (fun g hg e=>by have:=h.lb.ge g hg;omega)
def textS:ByteArray:={ data:=#[116,101,120,116] }
def dataS:ByteArray:={ data:=#[100,97,116,97] }
def ZAv (T:Nat):Rng:=⟨textS,4096,T,false,true⟩
def ZEb (T:Nat):Rng:=⟨dataS,4096+(T:Int),0,true,false⟩
def ZDi (T:Nat):Rng:=⟨stackS,4096+(T:Int),16384,true,false⟩
def ZC4 (T:Nat):List Rng:=[ZAv T,ZEb T,ZDi T]
structure PS (w W:World) (p q:Nat) (tv lv rv:Value) (tx:List UInt8) (lb:List Lb):Prop where
 below:Below p w W
 pq:p+2≤q
 res:Blk W p 36 ZAk
 flt:Blk W (p+1) 38 #[.int .i64 0,.int .i64 0]
 box:Blk W q 36 #[tv,.slice none 0 0,lv,rv]
 jf:Blk W (q+1) 38 #[.int .i64 0,.int .i64 0]
 tx:OwnB W (p+2) tv tx
 lb:OwnL W (p+2) lv lb
theorem PS.bel {w W W':World} {p q:Nat} {tv lv rv:Value} {tx:List UInt8} {lb:List Lb} (h:PS w W p q tv lv rv tx lb) (hb:Below W.heap.size W W'):PS w W' p q tv lv rv tx lb:=
 ⟨h.below.trans (ZA hb (by have:=h.flt.lt;omega)),h.pq,h.res.below hb h.res.lt,h.flt.below hb h.flt.lt,h.box.below hb h.box.lt,h.jf.below hb h.jf.lt,ZB h.tx (ZC (fun _=>False) hb) (fun _ _=>id),h.lb.below hb⟩
theorem PS.grow {w W W':World} {p q:Nat} {tv lv rv gv:Value} {tx:List UInt8} {lb:List Lb} {l:List Rng} (h:PS w W p q tv lv rv tx lb) (hr:ZAg W (q+2) gv l) (hk:ZE (fun k=>gv.ownBlock=some k) W W'):PS w W' p q tv lv rv tx lb:=by
 have hge:=hr.ge;have hpq:=h.pq;have hb:Below (q+2) W W':=hk.toBelow (by have:=h.jf.lt;omega) (fun k hk e=>by have:=hge k e;omega);have hkind:∀g t cs,Blk W g t cs→t≠42→¬gv.ownBlock=some g:=by
  intro g t cs hB ht e;obtain ⟨cu,hcu⟩:=ZI hr e;exact ht (Blk.kind hB hcu)
 refine ⟨h.below.trans (ZA hb (by omega)),hpq,h.res.below hb (by omega),h.flt.below hb (by omega),h.box.below hb (by omega),h.jf.below hb (by omega),ZB h.tx hk (fun g hg e=>?_),ZB h.lb hk (fun g hg e=>?_)⟩
 ·obtain ⟨cu,hcu⟩:=ZI h.tx hg
  exact hkind g _ _ hcu (by decide) e
 ·obtain ⟨cu,hcu⟩:=ZI h.lb hg
  exact hkind g _ _ hcu (by decide) e
end Go.Proofs.YtggmkofbikafhaaGreatDoor
