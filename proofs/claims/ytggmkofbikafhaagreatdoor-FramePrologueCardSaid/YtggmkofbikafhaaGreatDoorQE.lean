/- Walks and plain laws on the way to FramePrologue (QE). Conditions: those that each theorem states. -/
import Derived.Test.YtggmkofbikafhaaGreatDoorQD
import Derived.Test.YtggmkofbikafhaaGreatDoorSB
set_option linter.unusedVariables false
set_option linter.unusedSimpArgs false
set_option maxRecDepth 100000
set_option maxHeartbeats 40000000
namespace Go.Proofs.YtggmkofbikafhaaGreatDoor
open Go.RowKit Go.Lib
def nmS:List UInt8:=[115,116,97,114,116]
def nmM:List UInt8:=[109,105,100]
def nmE:List UInt8:=[101,110,100]
def nmB:List UInt8:=[98,97,99,107]
def lit1:List UInt8:=[115,116,97,114,116,58,10]
def lit2:List UInt8:=[10,109,105,100,58,10,46,119,111,114,100,32,48,10,101,110,100,58,10]
def lit3:List UInt8:=[10,98,97,99,107,58,10,46,119,111,114,100,32,48,10]
def textL (Z Lk At:Nat) (l:List Int):List UInt8:=lit1++proL Z Lk At l++lit2++epiL Z Lk At l++lit3
def lnC (Z:Nat):List UInt8:=ZDW++32::114::49::53::32::decDigits Z
def pl1 (Lk:Nat):List In5:=[⟨36,13,15,0,3⟩,⟨2,15,13,15,0⟩,⟨36,15,12,0,1⟩,⟨37,0,0,0,1⟩,⟨42,0,0,0,1⟩,⟨18,13,15,0,0⟩,⟨31,14,13,0,Lk⟩]
def pl2:List In5:=[⟨1,13,13,15,0⟩,⟨39,0,14,0,0⟩]
def ZDL (Z Lk At:Nat) (l:List Int):List (List UInt8):=(nmS++[58])::lnC Z::(pl1 Lk++ZCh 31 At l).map In5.line
def ZFl:List (List UInt8):=[[],nmM++[58],ZGJ,nmE++[58]]
def ZDK (Z Lk At:Nat) (l:List Int):List (List UInt8):=(ZCh 28 At l++([⟨28,14,13,0,Lk⟩]:List In5)).map In5.line++lnC Z::pl2.map In5.line
def ZFm:List (List UInt8):=[[],nmB++[58],ZGJ]
def nlF (m:List UInt8):List UInt8:=m++[10]
theorem dd0:decDigits 0=[48]:=by first|rfl|decide +kernel|simp[decDigits]
theorem dd1:decDigits 1=[49]:=by first|rfl|decide +kernel|simp[decDigits]
theorem dd3:decDigits 3=[51]:=by first|rfl|decide +kernel|simp[decDigits]
theorem dd12:decDigits 12=[49,50]:=by first|rfl|decide +kernel|simp[decDigits]
theorem dd13:decDigits 13=[49,51]:=by first|rfl|decide +kernel|simp[decDigits]
theorem dd14:decDigits 14=[49,52]:=by first|rfl|decide +kernel|simp[decDigits]
theorem dd15:decDigits 15=[49,53]:=by first|rfl|decide +kernel|simp[decDigits]
theorem fl31:ZT 31=[100,97,105]:=by decide
theorem fl28:ZT 28=[100,97,105]:=by decide
theorem fl36:ZT 36=[100,97,105]:=by decide
theorem fl18:ZT 18=[100,97,105]:=by decide
theorem fl1:ZT 1=[100,97,98]:=by decide
theorem fl2:ZT 2=[100,97,98]:=by decide
theorem fl37:ZT 37=[105]:=by decide
theorem fl42:ZT 42=[105]:=by decide
theorem fl39:ZT 39=[97]:=by decide
theorem ZDR (d a b i:Nat):ZCL d a b i 100=32::114::decDigits d:=rfl
theorem ZFw (d a b i:Nat):ZCL d a b i 97=32::114::decDigits a:=rfl
theorem fld98 (d a b i:Nat):ZCL d a b i 98=32::114::decDigits b:=rfl
theorem ZDQ (d a b i:Nat):ZCL d a b i 105=32::decDigits i:=rfl
theorem at_sw (r p:Nat):atL [115,119] r p=nlF (In5.line ⟨31,r,13,0,p⟩):=by
 unfold atL nlF In5.line printL;rw[fl31,show wordsL.getD (31-1) []=[115,119] from rfl];simp only[List.flatMap_cons,List.flatMap_nil,ZDR,ZFw,ZDQ,dd13,List.append_nil,List.append_assoc,List.cons_append,List.nil_append]
theorem at_lw (r p:Nat):atL [108,119] r p=nlF (In5.line ⟨28,r,13,0,p⟩):=by
 unfold atL nlF In5.line printL;rw[fl28,show wordsL.getD (28-1) []=[108,119] from rfl];simp only[List.flatMap_cons,List.flatMap_nil,ZDR,ZFw,ZDQ,dd13,List.append_nil,List.append_assoc,List.cons_append,List.nil_append]
theorem l_blu1:In5.line ⟨36,13,15,0,3⟩=[98,108,117,32,114,49,51,32,114,49,53,32,51]:=by
 unfold In5.line printL;rw[fl36,show wordsL.getD (36-1) []=[98,108,117] from rfl];simp only[List.flatMap_cons,List.flatMap_nil,ZDR,ZFw,ZDQ,dd13,dd15,dd3,List.append_nil,List.cons_append,List.nil_append]
theorem l_sub:In5.line ⟨2,15,13,15,0⟩=[115,117,98,32,114,49,53,32,114,49,51,32,114,49,53]:=by
 unfold In5.line printL;rw[fl2,show wordsL.getD (2-1) []=[115,117,98] from rfl];simp only[List.flatMap_cons,List.flatMap_nil,ZDR,ZFw,fld98,dd13,dd15,List.append_nil,List.cons_append,List.nil_append]
theorem l_blu2:In5.line ⟨36,15,12,0,1⟩=[98,108,117,32,114,49,53,32,114,49,50,32,49]:=by
 unfold In5.line printL;rw[fl36,show wordsL.getD (36-1) []=[98,108,117] from rfl];simp only[List.flatMap_cons,List.flatMap_nil,ZDR,ZFw,ZDQ,dd12,dd15,dd1,List.append_nil,List.cons_append,List.nil_append]
theorem l_jump:In5.line ⟨37,0,0,0,1⟩=[106,117,109,112,32,49]:=by
 unfold In5.line printL;rw[fl37,show wordsL.getD (37-1) []=[106,117,109,112] from rfl];simp only[List.flatMap_cons,List.flatMap_nil,ZDQ,dd1,List.append_nil,List.cons_append,List.nil_append]
theorem l_trap:In5.line ⟨42,0,0,0,1⟩=[116,114,97,112,32,49]:=by
 unfold In5.line printL;rw[fl42,show wordsL.getD (42-1) []=[116,114,97,112] from rfl];simp only[List.flatMap_cons,List.flatMap_nil,ZDQ,dd1,List.append_nil,List.cons_append,List.nil_append]
theorem l_addi:In5.line ⟨18,13,15,0,0⟩=[97,100,100,105,32,114,49,51,32,114,49,53,32,48]:=by
 unfold In5.line printL;rw[fl18,show wordsL.getD (18-1) []=[97,100,100,105] from rfl];simp only[List.flatMap_cons,List.flatMap_nil,ZDR,ZFw,ZDQ,dd13,dd15,dd0,List.append_nil,List.cons_append,List.nil_append]
theorem l_add:In5.line ⟨1,13,13,15,0⟩=[97,100,100,32,114,49,51,32,114,49,51,32,114,49,53]:=by
 unfold In5.line printL;rw[fl1,show wordsL.getD (1-1) []=[97,100,100] from rfl];simp only[List.flatMap_cons,List.flatMap_nil,ZDR,ZFw,fld98,dd13,dd15,List.append_nil,List.cons_append,List.nil_append]
theorem l_reg:In5.line ⟨39,0,14,0,0⟩=[114,101,103,32,114,49,52]:=by
 unfold In5.line printL;rw[fl39,show wordsL.getD (39-1) []=[114,101,103] from rfl];simp only[List.flatMap_cons,List.flatMap_nil,ZFw,dd14,List.append_nil,List.cons_append,List.nil_append]
theorem ZFY (op:List UInt8) (o At:Nat) (l:List Int) (h:∀r p,atL op r p=nlF (In5.line ⟨o,r,13,0,p⟩)):ZJD op At l l.length=((ZCh o At l).map In5.line).flatMap nlF:=by
 unfold ZJD ZCh;rw[List.map_map,List.flatMap_map]
 congr 1
 funext k
 exact h _ _
theorem ZHg (Z:Nat):ZCp Z=nlF (lnC Z):=by
 unfold ZCp nlF lnC ZDW;simp only[List.cons_append,List.nil_append,List.append_assoc]
theorem ZJe (Z Lk At:Nat) (l:List Int):lit1++proL Z Lk At l=(ZDL Z Lk At l).flatMap nlF:=by
 unfold ZDL proL pl1;rw[List.flatMap_cons,List.flatMap_cons,List.map_append,List.flatMap_append,←ZFY [115,119] 31 At l at_sw,←ZHg];simp only[List.map_cons,List.map_nil,List.flatMap_cons,List.flatMap_nil,l_blu1,l_sub,l_blu2,l_jump,l_trap,l_addi,←at_sw];simp only[nlF,lit1,nmS,List.append_assoc,List.cons_append,List.nil_append,List.append_nil]
theorem ZKR (Z Lk At:Nat) (l:List Int):epiL Z Lk At l=(ZDK Z Lk At l).flatMap nlF:=by
 unfold ZDK epiL pl2;rw[List.flatMap_append,List.flatMap_cons,List.map_append,List.flatMap_append,←ZFY [108,119] 28 At l at_lw,←ZHg];simp only[List.map_cons,List.map_nil,List.flatMap_cons,List.flatMap_nil,l_add,l_reg,←at_lw];simp only[nlF,List.append_assoc,List.cons_append,List.nil_append,List.append_nil]
def ZBk (Z Lk At:Nat) (l:List Int):List (List UInt8):=ZDL Z Lk At l++(ZFl++(ZDK Z Lk At l++ZFm))
theorem ZD3 (Z Lk At:Nat) (l:List Int):textL Z Lk At l=(ZBk Z Lk At l).flatMap nlF:=by
 unfold textL ZBk;rw[ZJe,ZKR,List.flatMap_append,List.flatMap_append,List.flatMap_append,show lit2=ZFl.flatMap nlF from rfl,show lit3=ZFm.flatMap nlF from rfl];simp only[List.append_assoc]
theorem ZFk (Z:Nat):partR [] (lnC Z)=[ZDW,114::decDigits 15,decDigits Z]:=by
 have h:=ZBv [114::decDigits 15,decDigits Z] ZDW (fun t ht=>by
  simp only[List.mem_cons,List.not_mem_nil,or_false] at ht;rcases ht with rfl|rfl|rfl
  ·exact ⟨by decide,by decide⟩
  ·refine ⟨by simp,fun c hc=>?_⟩
   rcases List.mem_cons.1 hc with rfl|hc
   ·decide
   ·exact ZBf 15 c hc
  ·refine ⟨fun e=>?_,ZBf Z⟩
   have:=ZAC Z;rw[e] at this
   simp at this)
 rw[←h]
 unfold lnC;simp only[List.flatMap_cons,List.flatMap_nil,dd15,List.append_nil,List.cons_append,List.nil_append]
theorem ZBZ (Z:Nat):∀c∈lnC Z,c.toNat≠59∧c.toNat≠9∧c.toNat≠10:=by
 intro c hc;unfold lnC at hc;rcases List.mem_append.1 hc with hc|hc
 ·have h:∀c∈ZDW,c.toNat≠59∧c.toNat≠9∧c.toNat≠10:=by decide
  exact h c hc
 ·rcases List.mem_cons.1 hc with rfl|hc
  ·decide
  ·rcases List.mem_cons.1 hc with rfl|hc
   ·decide
   ·rcases List.mem_cons.1 hc with rfl|hc
    ·decide
    ·rcases List.mem_cons.1 hc with rfl|hc
     ·decide
     ·rcases List.mem_cons.1 hc with rfl|hc
      ·decide
      ·obtain ⟨h1,h2⟩:=ZAl Z c hc
       omega
theorem ZGo {Z:Nat} (hZ:Z≤4096):(lnC Z).length≤1000:=by
 have:=ZQ (u:=Z) (k:=4) (by omega) (by decide);unfold lnC ZDW;simp;omega
theorem line_nl (Z Lk At:Nat) (l:List Int):∀m∈ZBk Z Lk At l,∀c∈m,c.toNat≠10:=by
 intro m hm;unfold ZBk ZDL ZDK at hm;simp only[List.mem_append,List.mem_cons] at hm;have hM:∀x∈ZFl,∀c∈x,c.toNat≠10:=by decide
 have hB:∀x∈ZFm,∀c∈x,c.toNat≠10:=by decide
 have hI:∀is:List In5,m∈is.map In5.line→∀c∈m,c.toNat≠10:=fun is h c hc=>by
  obtain ⟨x,_,rfl⟩:=List.mem_map.1 h;exact (ZFo x c hc).2.2
 rcases hm with (rfl|rfl|h)|h|(h|rfl|h)|h
 ·decide
 ·exact fun c hc=>(ZBZ Z c hc).2.2
 ·exact hI _ h
 ·exact hM m h
 ·exact hI _ h
 ·exact fun c hc=>(ZBZ Z c hc).2.2
 ·exact hI _ h
 ·exact hB m h
theorem text_cut (Z Lk At:Nat) (l:List Int):ZE3 [] (textL Z Lk At l)=ZBk Z Lk At l++[[]]:=by
 rw[ZD3];exact ZEU _ (line_nl Z Lk At l)
theorem lowS:Low nmS:=⟨by decide,by decide,by decide,by decide,by decide +kernel⟩
theorem lowM:Low nmM:=⟨by decide,by decide,by decide,by decide,by decide +kernel⟩
theorem lowE:Low nmE:=⟨by decide,by decide,by decide,by decide,by decide +kernel⟩
theorem lowB:Low nmB:=⟨by decide,by decide,by decide,by decide,by decide +kernel⟩
theorem In5.ok {o d a b i:Nat} (hd:d≤15) (ha:a≤15) (hb:b≤15) (hi:i≤32767) (hc:ZA9 o d a b i=true) (hf:0<(ZT o).length):In5.OK ⟨o,d,a,b,i⟩:=⟨hd,ha,hb,hi,hc,hf⟩
theorem ok_pl1 {Lk:Nat} (h:Lk≤4096):∀x∈pl1 Lk,x.OK:=by
 intro x hx;unfold pl1 at hx;simp only[List.mem_cons,List.not_mem_nil,or_false] at hx;rcases hx with rfl|rfl|rfl|rfl|rfl|rfl|rfl
 ·exact In5.ok (by decide) (by decide) (by decide) (by decide) (ZKg (by decide) (by decide) (by decide) (by decide)) (by rw[fl36];decide)
 ·exact In5.ok (by decide) (by decide) (by decide) (by decide) (ZHi (by decide) (by decide) (by decide) (by decide)) (by rw[fl2];decide)
 ·exact In5.ok (by decide) (by decide) (by decide) (by decide) (ZKg (by decide) (by decide) (by decide) (by decide)) (by rw[fl36];decide)
 ·exact In5.ok (by decide) (by decide) (by decide) (by decide) (chk_74 (by decide) (by decide)) (by rw[fl37];decide)
 ·exact In5.ok (by decide) (by decide) (by decide) (by decide) (chk_87 (by decide) (by decide)) (by rw[fl42];decide)
 ·exact In5.ok (by decide) (by decide) (by decide) (by decide) (ZDZ (by decide) (by decide) (by decide) (by decide)) (by rw[fl18];decide)
 ·exact In5.ok (by decide) (by decide) (by decide) (by omega) (ZDZ (by decide) (by decide) (by decide) (by omega)) (by rw[fl31];decide)
theorem ok_pl2:∀x∈pl2,x.OK:=by
 intro x hx;unfold pl2 at hx;simp only[List.mem_cons,List.not_mem_nil,or_false] at hx;rcases hx with rfl|rfl
 ·exact In5.ok (by decide) (by decide) (by decide) (by decide) (ZHi (by decide) (by decide) (by decide) (by decide)) (by rw[fl1];decide)
 ·exact In5.ok (by decide) (by decide) (by decide) (by decide) (chk_71 (by decide) (by decide)) (by rw[fl39];decide)
theorem ok_lw {Lk:Nat} (h:Lk≤4096):In5.OK ⟨28,14,13,0,Lk⟩:=
 In5.ok (by decide) (by decide) (by decide) (by omega) (ZDZ (by decide) (by decide) (by decide) (by omega)) (by rw[fl28];decide)
theorem ZHP {o At:Nat} {l:List Int} (ho:RF o=83) (hf:0<(ZT o).length) (hl:∀k,k<l.length→4≤(l.getD k 0).toNat∧(l.getD k 0).toNat≤10) (ha:At+4*l.length≤4096):∀x∈ZCh o At l,x.OK:=by
 intro x hx;unfold ZCh at hx;obtain ⟨k,hk,rfl⟩:=List.mem_map.1 hx;have hk:=List.mem_range.1 hk;have:=hl k hk;exact In5.ok (by omega) (by decide) (by decide) (by omega) (ZDZ ho (by omega) (by decide) (by omega)) hf
def ZBl (n:Nat):List Lb:=[⟨nmS,0⟩,⟨nmM,4*(8+n)⟩,⟨nmE,4*(9+n)⟩,⟨nmB,4*(13+2*n)⟩]
def txL (Z Lk At:Nat) (l:List Int):List UInt8:=bL ((prog Z Lk At l).map In5.w)
theorem txL_len (Z Lk At:Nat) (l:List Int):(txL Z Lk At l).length=4*(14+2*l.length):=by
 unfold txL;rw[ZDd,List.length_map,ZHM]
theorem zero_b:bL (ZIw.map In5.w)=wB 0:=rfl
theorem run_text {Z Lk At:Nat} {l:List Int} (hZ:Z≤4096) (hLk:Lk≤4096) (hl:∀k,k<l.length→4≤(l.getD k 0).toNat∧(l.getD k 0).toNat≤10) (hAt:At+4*l.length≤4096):Run (ZE3 [] (textL Z Lk At l)) [] [] (txL Z Lk At l) (ZBl l.length):=by
 have hn:l.length≤1024:=by omega
 have o31:=ZHP (o:=31) (by decide) (by rw[fl31];decide) hl hAt;have o28:=ZHP (o:=28) (by decide) (by rw[fl28];decide) hl hAt;have hok1:∀x∈pl1 Lk++ZCh 31 At l,x.OK:=fun x hx=>(List.mem_append.1 hx).elim (ok_pl1 hLk x) (o31 x);have hok2:∀x∈ZCh 28 At l++([⟨28,14,13,0,Lk⟩]:List In5),x.OK:=fun x hx=>(List.mem_append.1 hx).elim (o28 x) (fun h=>by
  rw[List.mem_singleton] at h;subst h;exact ok_lw hLk)
 have hl1:(pl1 Lk++ZCh 31 At l).length=7+l.length:=by rw[List.length_append,Zl];rfl
 have hl2:(ZCh 28 At l++([⟨28,14,13,0,Lk⟩]:List In5)).length=l.length+1:=by rw[List.length_append,Zl];rfl
 rw[text_cut]
 -- the prologue
 have R1:Run (ZDL Z Lk At l) [] [] (wB (encN 25 15 0 0 Z)++bL ((pl1 Lk++ZCh 31 At l).map In5.w)) [⟨nmS,0⟩]:=by
  refine ⟨_,_,ZCv [] nmS [] lowS (by simp) (by decide) (by decide) (by simp) (by simp),?_⟩;refine ⟨_,_,ZHW [] (lnC Z) _ 15 Z (by decide) (by omega) (ZGo hZ) (ZFk Z) (fun c hc=>⟨(ZBZ Z c hc).1,(ZBZ Z c hc).2.1⟩) (by simp) (by simp) (by simp),?_⟩;exact ZEZ _ _ _ hok1 (by simp) (by rw[List.nil_append,ZAX,hl1];omega) (by rw[List.nil_append,ZAX])
 obtain ⟨t1,ht1⟩:∃t1,wB (encN 25 15 0 0 Z)++bL ((pl1 Lk++ZCh 31 At l).map In5.w)=t1:=⟨_,rfl⟩
 have hlen1:t1.length=4*(8+l.length):=by
  rw[←ht1,List.length_append,ZAX,ZDd,List.length_map,hl1];omega
 rw[ht1] at R1;have R2:Run ZFl t1 [⟨nmS,0⟩] (t1++wB 0) [⟨nmS,0⟩,⟨nmM,4*(8+l.length)⟩,⟨nmE,4*(9+l.length)⟩]:=by
  refine ⟨_,_,ZEr _ _,?_⟩;refine ⟨_,_,ZCv t1 nmM [⟨nmS,0⟩] lowM (by simp[nmS,nmM]) (by decide) (by decide) (by simp) (by omega),?_⟩;refine ⟨_,_,ZJq t1 _ (by simp) (by omega),?_⟩;refine ⟨_,_,ZCv _ nmE _ lowE (by simp[nmS,nmM,nmE]) (by decide) (by decide) (by simp) (by rw[List.length_append,ZAX];omega),?_⟩;refine ⟨rfl,?_⟩;rw[List.length_append,ZAX,hlen1,show 4*(8+l.length)+4=4*(9+l.length) by omega]
  rfl
 have R3:Run (ZDK Z Lk At l) (t1++wB 0) [⟨nmS,0⟩,⟨nmM,4*(8+l.length)⟩,⟨nmE,4*(9+l.length)⟩] (((t1++wB 0)++bL ((ZCh 28 At l++([⟨28,14,13,0,Lk⟩]:List In5)).map In5.w)++wB (encN 25 15 0 0 Z))++bL (pl2.map In5.w)) [⟨nmS,0⟩,⟨nmM,4*(8+l.length)⟩,⟨nmE,4*(9+l.length)⟩]:=by
  have hb:(bL ((ZCh 28 At l++([⟨28,14,13,0,Lk⟩]:List In5)).map In5.w)).length=4*(l.length+1):=by rw[ZDd,List.length_map,hl2]
  refine Run.app (ZEZ _ _ _ hok2 (by simp) (by rw[List.length_append,ZAX,hl2];omega) (by rw[List.length_append,ZAX];omega)) ?_;refine ⟨_,_,ZHW _ (lnC Z) _ 15 Z (by decide) (by omega) (ZGo hZ) (ZFk Z) (fun c hc=>⟨(ZBZ Z c hc).1,(ZBZ Z c hc).2.1⟩) (by simp) (by rw[List.length_append,List.length_append,ZAX,hb];omega) (by rw[List.length_append,List.length_append,ZAX,hb];omega),?_⟩;exact ZEZ _ _ _ ok_pl2 (by simp) (by rw[List.length_append,List.length_append,List.length_append,ZAX,ZAX,hb];show _+4*2≤_;omega) (by rw[List.length_append,List.length_append,List.length_append,ZAX,ZAX,hb];omega)
 obtain ⟨t3,ht3⟩:∃t3,((t1++wB 0)++bL ((ZCh 28 At l++([⟨28,14,13,0,Lk⟩]:List In5)).map In5.w)++wB (encN 25 15 0 0 Z))++bL (pl2.map In5.w)=t3:=⟨_,rfl⟩
 have hlen3:t3.length=4*(13+2*l.length):=by
  rw[←ht3,List.length_append,List.length_append,List.length_append,List.length_append,ZAX,ZAX,ZDd,ZDd,List.length_map,List.length_map,hl2,hlen1]
  show _+4*2=_;omega
 rw[ht3] at R3;have R4:Run (ZFm++[[]]) t3 [⟨nmS,0⟩,⟨nmM,4*(8+l.length)⟩,⟨nmE,4*(9+l.length)⟩] (t3++wB 0) (ZBl l.length):=by
  refine ⟨_,_,ZEr _ _,?_⟩;refine ⟨_,_,ZCv t3 nmB _ lowB (by simp[nmS,nmM,nmE,nmB]) (by decide) (by decide) (by simp) (by omega),?_⟩;refine ⟨_,_,ZJq t3 _ (by simp) (by omega),?_⟩;refine ⟨_,_,ZEr _ _,?_⟩;refine ⟨rfl,?_⟩;rw[hlen3]
  rfl
 have hE:txL Z Lk At l=t3++wB 0:=by
  rw[←ht3,←ht1]
  unfold txL prog;simp only[List.map_append,bL_app,zero_b];rw[show bL ((pre8 Z Lk).map In5.w)=wB (encN 25 15 0 0 Z)++bL ((pl1 Lk).map In5.w) from rfl,show bL ((post5 Z Lk).map In5.w)=bL (([⟨28,14,13,0,Lk⟩]:List In5).map In5.w)++(wB (encN 25 15 0 0 Z)++(bL (pl2.map In5.w)++wB 0)) from rfl];simp only[List.append_assoc]
 rw[hE];unfold ZBk;rw[List.append_assoc,List.append_assoc,List.append_assoc];exact R1.app (R2.app (R3.app R4))
theorem prog_w {Z Lk At:Nat} {l:List Int} (hZ:Z≤4096) (hLk:Lk≤4096) (hl:∀k,k<l.length→4≤(l.getD k 0).toNat∧(l.getD k 0).toNat≤10) (hAt:At+4*l.length≤4096):∀x∈prog Z Lk At l,x.w<4294967296:=by
 intro x hx;have hs:∀o,o≤42→x∈ZCh o At l→x.w<4294967296:=fun o ho h=>by
  unfold ZCh at h;obtain ⟨k,hk,rfl⟩:=List.mem_map.1 h;have hk:=List.mem_range.1 hk;have:=hl k hk;unfold In5.w encN;dsimp only;omega
 unfold prog pre8 ZIw post5 at hx;simp only[List.mem_append,List.mem_cons,List.not_mem_nil,or_false] at hx;rcases hx with (rfl|rfl|rfl|rfl|rfl|rfl|rfl|rfl)|h|rfl|h|rfl|rfl|rfl|rfl|rfl
 all_goals first|exact hs 31 (by decide) h|exact hs 28 (by decide) h|(unfold In5.w encN;dsimp only;omega)
end Go.Proofs.YtggmkofbikafhaaGreatDoor
