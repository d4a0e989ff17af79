/- Walks and plain laws on the way to FramePrologue (XA, XB, XD, XE). Conditions: those that each theorem states. -/
import Derived.Lib.ItoaNum
import Derived.Test.YtggmkofbikafhaaGreatDoorT0
set_option linter.unusedVariables false
set_option linter.unusedSimpArgs false
set_option maxRecDepth 100000
set_option maxHeartbeats 40000000
namespace Go.Proofs.YtggmkofbikafhaaGreatDoor
open Go.Lib Go.RowKit
theorem ZV (w:World) (o:Obj):Below w.heap.size w (w.alloc o):=(Below.refl _ _).alloc (Nat.le_refl _) o
theorem bel2 (w:World) (o p:Obj):Below w.heap.size w ((w.alloc o).alloc p):=(ZV w o).alloc (by simp[World.size_alloc]) p
theorem ZIu {B g j:Nat} {w W:World} (h:Below B w W) (hg:B≤g) (u:Value):Below B w (W.setCell ⟨g,j,none⟩ u):=h.setCell (p:=⟨g,j,none⟩) hg u
theorem ZAO {B:Nat} {a w:World} (h:Below B a w):Below B a w.drew:=⟨h.os,h.tape,h.output,h.size,h.block⟩
theorem belA {a w:World} (h:Below a.heap.size a w) (o:Obj):Below a.heap.size a (w.alloc o):=h.alloc h.size o
def str (l:List UInt8):ByteArray:=⟨l.toArray⟩
theorem Zb (l:List UInt8):(str l).size=l.length:=by simp[str,ByteArray.size]
theorem ZU (l:List UInt8):(str l).data.toList=l:=by simp[str]
theorem ZAu {l:List UInt8} {k:Nat} (h:k<(str l).size):(str l)[k]'h=l[k]'(by rw[Zb] at h;exact h):=by
 simp[str,ByteArray.getElem_eq_getElem_data]
theorem ZAA (l:List UInt8) (a b:Nat):(str l).extract a b=str ((l.take b).drop a):=by
 apply ByteArray.ext
 rw[ByteArray.data_extract]
 apply Array.toList_inj.1
 simp[str,List.drop_take]
theorem ZCN (l m:List UInt8):str l++str m=str (l++m):=by
 apply ByteArray.ext
 simp[str,ByteArray.data_append]
theorem ZBq {l m:List UInt8} (h:str l=str m):l=m:=by
 have:=congrArg (fun s=>s.data.toList) h
 simpa[ZU] using this
def digV (n:Nat) (c:UInt8):Nat:=10*n+(c.toNat-48)
def ZBp (l:List UInt8):Nat:=l.foldl digV 0
def ZDo (c:UInt8):Prop:=48≤c.toNat∧c.toNat≤57
theorem ZFQ (l:List UInt8) (c:UInt8):ZBp (l++[c])=10*ZBp l+(c.toNat-48):=by
 unfold ZBp;rw[List.foldl_append];rfl
theorem ZDV {d:Nat} (h:d<10):(UInt8.ofNat (48+d)).toNat=48+d:=by
 rw[UInt8.toNat_ofNat'];omega
theorem ZFt {d:Nat} (h:d<10):ZDo (UInt8.ofNat (48+d)):=by
 unfold ZDo;rw[ZDV h];omega
theorem ZAl (u:Nat):∀c∈decDigits u,ZDo c:=by
 induction u using Nat.strongRecOn with
 | _ u ih=>
  rw[decDigits]
  split
  ·intro c hc
   rw[List.mem_singleton] at hc;subst hc;exact ZFt (by omega)
  ·intro c hc
   rcases List.mem_append.1 hc with hc|hc
   ·exact ih (u / 10) (by omega) c hc
   ·rw[List.mem_singleton] at hc
    subst hc;exact ZFt (by omega)
theorem ZAP (u:Nat):ZBp (decDigits u)=u:=by
 induction u using Nat.strongRecOn with
 | _ u ih=>
  rw[decDigits]
  split
  ·show 10*0+((UInt8.ofNat (48+u)).toNat-48)=u
   rw[ZDV (by omega)];omega
  ·rw[ZFQ,ih (u / 10) (by omega),ZDV (by omega)];omega
theorem ZAC (u:Nat):0<(decDigits u).length:=by
 rw[decDigits_length];exact nDigits_pos u
theorem ZDr (u:Nat) (h:1<(decDigits u).length):∀c,(decDigits u)[0]? = some c→c.toNat≠48:=by
 induction u using Nat.strongRecOn with
 | _ u ih=>
  intro c hc;rw[decDigits] at hc h
  split at hc
  ·rename_i h10
   rw[dif_pos h10] at h
   simp at h
  ·rename_i h10
   rw[dif_neg h10] at h;rw[List.getElem?_append_left (ZAC _)] at hc
   by_cases h2:1<(decDigits (u / 10)).length
   ·exact ih (u / 10) (by omega) h2 c hc
   ·have h3:u / 10<10:=by
     rcases Nat.lt_or_ge (u / 10) 10 with h|h
     ·exact h
     ·exfalso
      apply h2
      rw[decDigits,dif_neg (by omega),List.length_append];have:=ZAC (u / 10 / 10)
      simp;omega
    rw[decDigits,dif_pos h3,List.getElem?_cons_zero] at hc;injection hc with hc
    rw[←hc,ZDV h3]
    omega
theorem ZQ {u k:Nat} (h:u<10^k) (hk:0<k):(decDigits u).length≤k:=by
 rw[decDigits_length]
 induction k generalizing u with
 | zero=>omega
 | succ k ih=>
  by_cases h10:u<10
  ·rw[nDigits_small h10];omega
  ·rw[nDigits_big h10]
   rw[Nat.pow_succ] at h;rcases Nat.eq_zero_or_pos k with rfl|hk2
   ·simp at h;omega
   ·have:=ih (u:=u / 10) (by omega) hk2
    omega
theorem ZGN {l:List UInt8} (h:∀c∈l,ZDo c):ZBp l<10^l.length:=by
 suffices H:∀(l:List UInt8) (n:Nat),(∀c∈l,ZDo c)→l.foldl digV n<(n+1)*10^l.length by
  have:=H l 0 h
  simpa[ZBp] using this
 intro l
 induction l with
 | nil=>intro n _;simp
 | cons c l ih=>
  intro n hc;have h1:=ih (digV n c) (fun x hx=>hc x (List.mem_cons_of_mem _ hx));have h2:=hc c (List.mem_cons_self ..);unfold ZDo at h2;rw[List.foldl_cons,List.length_cons,Nat.pow_succ];refine Nat.lt_of_lt_of_le h1 ?_;have h3:digV n c+1≤(n+1)*10:=by unfold digV;omega
  calc (digV n c+1)*10^l.length≤(n+1)*10*10^l.length:=Nat.mul_le_mul_right _ h3
   _=(n+1)*(10^l.length*10):=by rw[Nat.mul_assoc,Nat.mul_comm 10]
theorem ZI0 {l:List UInt8} {k:Nat} (hk:k<l.length):ZBp (l.take (k+1))=10*ZBp (l.take k)+(l[k].toNat-48):=by
 rw[List.take_succ_eq_append_getElem hk,ZFQ]
end Go.Proofs.YtggmkofbikafhaaGreatDoor
namespace Go.Proofs.YtggmkofbikafhaaGreatDoor
open Go.RowKit
theorem ZIy (l:List UInt8) (most:Int) (w:World) (hd:∀c∈l,ZDo c) (h0:0<l.length) (h15:l.length≤15) (hz:1<l.length→∀c,l[0]? = some c→c.toNat≠48) :
  Calls Tryz.prog 143 #[.string (str l),.int .i64 most] w fun e w'=>e=.returned (.tuple #[.int .i64 (ZBp l:Int),.bool (decide ((ZBp l:Int)≤most))])∧w'=w:=by
 have hsz:(str l).size=l.length:=Zb l;have hv:=ZGN hd;have hv15:(10:Nat)^l.length≤1000000000000000:=Nat.le_trans (Nat.pow_le_pow_right (by decide) h15) (by decide);obtain ⟨s,hs⟩:∃s,str l=s:=⟨_,rfl⟩
 have hsl:s.size=l.length:=by rw[←hs];exact hsz
 have hget:∀k (h:k<s.size) (h2:k<l.length),(s[k]'h)=l[k]:=by
  intro k h h2;subst hs;exact ZAu h
 have H:=Zh (Za hd hv);rw[hs];have hpos:0<s.size:=by omega
 have h15':s.size≤15:=by omega
 have HG:=Zh hget;have HSL:=Zh hsl;have HV15:=Zh hv15;obtain ⟨c0,hc0⟩:∃c:Nat,(s[0]'hpos).toNat=c:=⟨_,rfl⟩
 have hz':1<s.size→c0≠48:=by
  intro h;have:=hz (by omega) (s[0]'hpos) (by rw[hget 0 hpos h0];simp[h0])
  rw[←hc0];exact this
 clear hd hv hs hsz hget hz h0 h15 hsl hv15;have e0:((s.size:Int)==0)=false:=by
  have h8:(s.size:Int)≠0:=by omega
  simpa using h8
 have e15:decide ((15:Int)<(s.size:Int))=false:=by simp;omega
 go_enter Tryz.func143,Tryz.ntmps143
 rcases Nat.lt_or_ge 1 s.size with h1|h1
 case' inl=>
  have e1:decide ((1:Int)<(s.size:Int))=true:=by simp;omega
  have ec:((c0:Int)==48)=false:=by
   have h9:c0≠48:=hz' h1;have h8:(c0:Int)≠48:=by omega
   simpa using h8
  clear hz';go_wp2_with fail
  clear e1 ec
 case' inr=>
  have e1:decide ((1:Int)<(s.size:Int))=false:=by simp;omega
  clear hz';go_wp2_with fail
  clear e1
 all_goals
  clear e0 e15 hc0 h1
  go_loopw [7,6] (fun i n wr=>∃k:Nat,k≤s.size∧i=.int .i64 k∧n=.int .i64 (ZBp (l.take k):Nat)∧wr=w) (fun i _ _=>s.size-(intOf i).toNat)
  case atStart=>exact ⟨0,Nat.zero_le _,rfl,rfl,rfl⟩
  case round=>
   obtain ⟨k,hk,rfl,rfl,rfl⟩:=hrel
   by_cases hlt:k<s.size
   ·have hkl:k<l.length:=by rw[←HSL.out];exact hlt
    have hd:=H.out.1 l[k] (List.getElem_mem hkl);have hv1:=ZI0 hkl;have hv2:ZBp (l.take k)<10^l.length:=Nat.lt_of_lt_of_le (ZGN (fun c hc=>H.out.1 c (List.mem_of_mem_take hc))) (Nat.pow_le_pow_right (by decide) (by rw[List.length_take];omega));have hv3:=HV15.out;obtain ⟨c,hc⟩:∃c:Nat,(s[k]'hlt).toNat=c:=⟨_,rfl⟩
    rw[←HG.out k hlt hkl] at hd hv1
    unfold ZDo at hd;rw[hc] at hd hv1;obtain ⟨n0,hn0⟩:∃n,ZBp (l.take k)=n:=⟨_,rfl⟩
    obtain ⟨n1,hn1⟩:∃n,ZBp (l.take (k+1))=n:=⟨_,rfl⟩
    rw[hn0] at hv1 hv2 ⊢;rw[hn1] at hv1;have HN1:=Zh hn1;have d1:decide ((c:Int)<48)=false:=by simp;omega
    have d2:decide ((57:Int)<(c:Int))=false:=by simp;omega
    have hn0':n0<1000000000000000:=by omega
    have HV1:=Zh hv1;clear hn0 hn1 hv1 hv2 hv3;go_wp2_with fail
    go_roundw
    case rel=>exact ⟨k+1,by omega,by go_num,by rw[HN1.out,HV1.out];go_num,trivial⟩
    case measure=>simp[intOf];omega
   ·have hke:k=s.size:=by omega
    subst hke;have ht:l.take s.size=l:=List.take_of_length_le (by rw[HSL.out];exact Nat.le_refl _);rw[ht];clear ht;go_wp2_with fail
    refine bodyPost_ret (v:=.tuple #[.int .i64 (ZBp l:Int),.bool (decide ((ZBp l:Int)≤most))]) (by simp[results,Tryz.results143,go_sem]) rfl ⟨rfl,rfl⟩
structure Dg (l:List UInt8):Prop where
 d:∀c∈l,ZDo c
 p:0<l.length
 f:l.length≤15
 z:1<l.length→∀c,l[0]? = some c→c.toNat≠48
theorem Dg.dec {n:Nat} (h:n<1000000000000000):Dg (Lib.decDigits n):=⟨ZAl n,ZAC n,ZQ (by simpa using h) (by decide),ZDr n⟩
theorem Dg.first {l:List UInt8} (h:Dg l) (hp:0<(str l).size):48≤((str l)[0]'hp).toNat∧((str l)[0]'hp).toNat≤57:=by
 rw[ZAu];exact h.d _ (List.getElem_mem _)
theorem Dg.val {l:List UInt8} (h:Dg l):ZBp l<1000000000000000:=
 Nat.lt_of_lt_of_le (ZGN h.d) (Nat.le_trans (Nat.pow_le_pow_right (by decide) h.f) (by decide))
theorem ZGL (l:List UInt8) (most:Int) (w:World) (h:Dg l) :
  Calls Tryz.prog 143 #[.string (str l),.int .i64 most] w fun e w'=>e=.returned (.tuple #[.int .i64 (ZBp l:Int),.bool (decide ((ZBp l:Int)≤most))])∧w'=w:=ZIy l most w h.d h.p h.f h.z
theorem ZCu (l:List UInt8) (w:World) (h:Dg l) :
  Calls Tryz.prog 146 #[.string (str l)] w fun e w'=>e=.returned (.tuple #[.int .i64 (ZBp l:Int),.bool (decide ((ZBp l:Int)≤16777216))])∧w'=w:=by
 have HW:=Zh (fun w=>ZGL l 16777216 w h);have hp:0<(str l).size:=by rw[Zb];exact h.p
 obtain ⟨h1,h2⟩:=h.first hp;obtain ⟨s,hs⟩:∃s,str l=s:=⟨_,rfl⟩
 rw[hs] at HW;have hc:∃c:Nat,(∃hp:0<s.size,(s[0]'hp).toNat=c)∧c≠45:=by
  subst hs;exact ⟨_,⟨hp,rfl⟩,by omega⟩
 rw[hs];obtain ⟨c,⟨hp,hc⟩,hne⟩:=hc;have ec:((c:Int)==45)=false:=by
  have h8:(c:Int)≠45:=by omega
  simpa using h8
 clear h1 h2 h hs;go_enter Tryz.func146,Tryz.ntmps146
 rcases Nat.lt_or_ge 1 s.size with h1|h1
 case' inl=>
  have e1:decide ((1:Int)<(s.size:Int))=true:=by simp;omega
  go_wp2_with fail
 case' inr=>
  have e1:decide ((1:Int)<(s.size:Int))=false:=by simp;omega
  go_wp2_with fail
 all_goals
  refine (HW.out _).mono ?_;rintro e w' ⟨rfl,rfl⟩;go_wp2_with fail
  refine bodyPost_ret (v:=.tuple #[.int .i64 (ZBp l:Int),.bool (decide ((ZBp l:Int)≤16777216))]) (by simp[results,Tryz.results146,go_sem]) rfl ⟨rfl,rfl⟩
theorem reg5_any (l:List UInt8) (w:World) (h:Dg l) :
  Calls Tryz.prog 115 #[.string (str (114::l))] w fun e w'=>e=.returned (.tuple #[.int .i64 (ZBp l:Int),.bool (decide ((ZBp l:Int)≤15))])∧w'=w:=by
 have HW:=Zh (fun w=>ZGL l 15 w h);have hsz:(str (114::l)).size=l.length+1:=by rw[Zb];rfl
 have hx:(str (114::l)).extract 1 (str (114::l)).size=str l:=by
  rw[ZAA,hsz,List.take_of_length_le (by simp)];rfl
 have hp:0<(str (114::l)).size:=by omega
 have hc:((str (114::l))[0]'hp).toNat=114:=by rw[ZAu];rfl
 have hl:=h.p;obtain ⟨s,hs⟩:∃s,str (114::l)=s:=⟨_,rfl⟩
 have hall:s.size=l.length+1∧s.extract 1 s.size=str l∧∃hp:0<s.size,(s[0]'hp).toNat=114:=by
  subst hs;exact ⟨hsz,hx,hp,hc⟩
 rw[hs];clear hsz hx hp hc hs h;obtain ⟨hsz,hx,hp,hc⟩:=hall;have e2:decide ((s.size:Int)<2)=false:=by simp;omega
 have h1:1≤s.size:=by omega
 clear hsz;go_enter Tryz.func115,Tryz.ntmps115
 go_wp2_with fail
 refine (HW.out _).mono ?_;rintro e w' ⟨rfl,rfl⟩;go_wp2_with fail
 refine bodyPost_ret (v:=.tuple #[.int .i64 (ZBp l:Int),.bool (decide ((ZBp l:Int)≤15))]) (by simp[results,Tryz.results115,go_sem]) rfl ⟨rfl,rfl⟩
theorem ZHT (l:List UInt8) (lo hi:Int) (w:World) (h:Dg l) (h1:lo≤(ZBp l:Int)) (h2:(ZBp l:Int)≤hi) (hh:hi≤1099511627776) :
  Calls Tryz.prog 107 #[.string (str l),.int .i64 lo,.int .i64 hi] w fun e w'=>e=.returned (.tuple #[.int .i64 (ZBp l:Int),.bool true])∧w'=w:=by
 have HW:=Zh (fun w=>ZGL l 1099511627776 w h);have hp:0<(str l).size:=by rw[Zb];exact h.p
 obtain ⟨a1,a2⟩:=h.first hp;obtain ⟨s,hs⟩:∃s,str l=s:=⟨_,rfl⟩
 rw[hs] at HW;have hc:∃c:Nat,(∃hp:0<s.size,(s[0]'hp).toNat=c)∧c≠45:=by
  subst hs;exact ⟨_,⟨hp,rfl⟩,by omega⟩
 rw[hs];obtain ⟨c,⟨hp,hc⟩,hne⟩:=hc;have ec:((c:Int)==45)=false:=by
  have h8:(c:Int)≠45:=by omega
  simpa using h8
 obtain ⟨v,hv⟩:∃v,ZBp l=v:=⟨_,rfl⟩
 rw[hv] at HW h1 h2 ⊢;have ed:decide ((v:Int)≤1099511627776)=true:=by simp;omega
 rw[ed] at HW;have e0:decide ((0:Int)<(s.size:Int))=true:=by simp;omega
 have d1:decide (lo≤(v:Int))=true:=by simpa using h1
 have d2:decide ((v:Int)≤hi)=true:=by simpa using h2
 clear a1 a2 h hs hv ed;go_enter Tryz.func107,Tryz.ntmps107
 go_wp2_with fail
 refine (HW.out _).mono ?_;rintro e w' ⟨rfl,rfl⟩;go_wp2_with fail
 refine bodyPost_ret (v:=.tuple #[.int .i64 (v:Int),.bool true]) (by simp[results,Tryz.results107,go_sem]) rfl ⟨rfl,rfl⟩
theorem ZIe (d n:Nat) (w:World) (hd:d≤15) (hn:n≤32767) :
  Calls Tryz.prog 116 #[.int .i64 (d:Int),.int .i64 (n:Int)] w fun e w'=>e=.returned (.tuple #[.slice (some ⟨w.heap.size,0,none⟩) 1 1,.int .i64 0])∧w'=w.alloc (.cells #[.int .i64 25,.int .i64 (d:Int),.int .i64 0,.int .i64 0,.int .i64 (n:Int)] 127):=by
 have d1:decide ((d:Int)<0)=false:=by simp
 have d2:decide ((15:Int)<(d:Int))=false:=by simp;omega
 have d3:decide ((n:Int) < -2147483648)=false:=by simp<;>omega
 have d4:decide ((4294967295:Int)<(n:Int))=false:=by simp;omega
 have d5:decide ((-32768:Int)≤(n:Int))=true:=by simp<;>omega
 have d6:decide ((n:Int)≤32767)=true:=by simp;omega
 go_enter Tryz.func116,Tryz.ntmps116
 go_wp2_with fail
 refine bodyPost_ret (v:=.tuple #[.slice (some ⟨w.heap.size,0,none⟩) 1 1,.int .i64 0]) (by simp[results,Tryz.results116,go_sem]) rfl ⟨rfl,rfl⟩
theorem und_strs:Tryz.prog.underlying 97=some (.slice 9):=by kernel_rfl
theorem inf_str:(Tryz.prog.info? 9).map (fun i=>(i.zero,i.size,i.bytes))=some (some (.string ⟨#[]⟩),1,16):=by kernel_rfl
theorem arowS:ZHl 97 9 1 16:=ZAy und_strs inf_str rfl (by decide)
def sv (l:List UInt8):Value:=.string (str l)
def OwnX (W:World) (B:Nat) (v:Value) (l:List (List UInt8)):Prop:=W.ownsRow B 9 1 v l.length (l.map sv)
def Strs (W:World) (v:Value) (l:List (List UInt8)):Prop:=RowOf W v l.length (l.map sv)
theorem OwnX.strs {W:World} {B:Nat} {v:Value} {l:List (List UInt8)} (h:OwnX W B v l):Strs W v l:=RowOf.own h
theorem OwnX.form {W:World} {B:Nat} {v:Value} {l:List (List UInt8)} (h:OwnX W B v l):∃A c,v=.slice A l.length c∧l.length≤c∧c≤maxLen:=slice_form h
theorem OwnX.below {W W':World} {B:Nat} {v:Value} {l:List (List UInt8)} (h:OwnX W B v l) (hb:Below W.heap.size W W'):OwnX W' B v l:=ZB h (ZC (fun _=>False) hb) (fun _ _=>id)
theorem OwnX.ge {W:World} {B:Nat} {v:Value} {l:List (List UInt8)} (h:OwnX W B v l):∀g,v.ownBlock=some g→B≤g:=by
 intro g hg;rcases h.2 with ⟨rfl,_⟩|⟨g',cap,cur,rfl,hb,_,_⟩
 ·cases hg
 ·cases hg;exact hb
theorem Strs.below {W W':World} {v:Value} {l:List (List UInt8)} (h:Strs W v l) (hb:Below W.heap.size W W'):Strs W' v l:=RowOf.below h hb
theorem Strs.open_ {W:World} {v:Value} {l:List (List UInt8)} (h:Strs W v l) (hn:0<l.length):∃g off cap,v=.slice (some ⟨g,off,none⟩) l.length cap∧l.length≤cap∧cap≤maxLen∧g<W.heap.size∧∀i (h:i<l.length),W.cell? ⟨g,off+i,none⟩=some (.string (str l[i])):=by
 obtain ⟨g,off,cap,e,h2,h3,h4,h5⟩:=RowOf.open_ h hn;exact ⟨g,off,cap,e,h2,h3,h4,fun i hi=>h5 i _ (by rw[List.getElem?_map,List.getElem?_eq_getElem hi];rfl)⟩
theorem OwnX.push {W:World} {B:Nat} {v:Value} {l:List (List UInt8)} (h:OwnX W B v l) (hB:B≤W.heap.size) (hs:l.length<1073741824) (x:List UInt8) (ty:TypeId) :
  ∃v' W',(Builtin.append_ #[97,97] ty #[v,.slice (some ⟨W.heap.size,0,none⟩) 1 1]).run Tryz.prog (W.alloc (.cells #[.string (str x)] 9))=.ok v' W'∧OwnX W' B v' (l++[x])∧ZE (fun k=>v.ownBlock=some k) W W':=by
 have ha:Below W.heap.size W (W.alloc (.cells #[.string (str x)] 9)):=ZV _ _;have k1:=h.below ha;have hu:RowOf (W.alloc (.cells #[.string (str x)] 9)) (.slice (some ⟨W.heap.size,0,none⟩) 1 1) 1 [.string (str x)]:=by
  refine ⟨_,_,rfl,Nat.le_refl _,by decide,fun _=>⟨_,0,rfl,by simp[World.size_alloc],fun j u hj=>?_⟩⟩;rw[Nat.zero_add,(Blk.new W _ #[.string (str x)]).cell]
  simpa using hj
 obtain ⟨v',W',e1,e2,e3,e4⟩:=app_any arowS ty k1 hu rfl (by intro y hy;simp at hy;subst hy;rfl) (by unfold maxLen;omega) (by omega) (by simp[World.size_alloc];omega);refine ⟨v',W',e1,?_,((ZE.refl (fun k=>v.ownBlock=some k) W).alloc _).trans ((ZE.refl _ _).grown e3 (fun g hg=>Or.inr hg)) (fun _ _ h=>h)⟩;unfold OwnX;rw[List.length_append,List.map_append];exact e2
theorem OwnX.keepsB {W W':World} {B:Nat} {v:Value} {l:List (List UInt8)} (h:OwnX W B v l) (hk:ZE (fun k=>v.ownBlock=some k) W W') (hB:B≤W.heap.size):Below B W W':=
 hk.toBelow hB (fun k hk' hv=>by have:=h.ge k hv;omega)
theorem OwnX.lower {W:World} {B B':Nat} {v:Value} {l:List (List UInt8)} (h:OwnX W B v l) (hb:B'≤B):OwnX W B' v l:=ZO h hb
def cutR:List UInt8→List UInt8→List (List UInt8)
 | cur,[]=>[cur]
 | cur,c::r=>if c.toNat=32 then cur::cutR [] r else cutR (cur++[c]) r
theorem ZIa {l:List UInt8} {a k:Nat} (hk:k<l.length) (h:l[k].toNat=32):cutR ((l.take k).drop a) (l.drop k)=(l.take k).drop a::cutR ((l.take (k+1)).drop (k+1)) (l.drop (k+1)):=by
 rw[List.drop_eq_getElem_cons hk,cutR,if_pos h]
 congr 2
 rw[List.drop_eq_nil_of_le (by rw[List.length_take];omega)]
theorem ZKb {l:List UInt8} {a k:Nat} (ha:a≤k) (hk:k<l.length) (h:l[k].toNat≠32):cutR ((l.take k).drop a) (l.drop k)=cutR ((l.take (k+1)).drop a) (l.drop (k+1)):=by
 rw[List.drop_eq_getElem_cons hk,cutR,if_neg h]
 congr 1
 rw[List.take_succ_eq_append_getElem hk,List.drop_append_of_le_length (by rw[List.length_take];omega)]
theorem cutR_end {l:List UInt8} {a k:Nat} (hk:l.length≤k):cutR ((l.take k).drop a) (l.drop k)=[(l.take k).drop a]:=by
 rw[List.drop_eq_nil_of_le hk,cutR]
theorem cut2_any (l:List UInt8) (w:World) (hl:l.length≤65536) :
  Calls Tryz.prog 144 #[.string (str l)] w fun e w'=>(∃v,e=.returned v∧OwnX w' w.heap.size v (cutR [] l))∧Below w.heap.size w w':=by
 have hsz:(str l).size=l.length:=Zb l;have hx:∀a b,(str l).extract a b=str ((l.take b).drop a):=ZAA l;have hg:∀k (h:k<(str l).size) (h2:k<l.length),((str l)[k]'h)=l[k]:=fun k h h2=>ZAu h;obtain ⟨s,hs⟩:∃s,str l=s:=⟨_,rfl⟩
 rw[hs] at hsz hx;have HG:Hid (∀k (h:k<s.size) (h2:k<l.length),(s[k]'h)=l[k]):=by subst hs;exact hg
 have HX:=Zh hx;have HSZ:=Zh hsz;rw[hs];have hl2:s.size≤65536:=by omega
 clear hs hg hx hsz hl;have hE:=ZV w (.cells #[] 9);have H0:=Zh (show OwnX (w.alloc (.cells #[] 9)) w.heap.size (.slice (some ⟨w.heap.size,0,none⟩) 0 0) []∧Below w.heap.size w (w.alloc (.cells #[] 9)) from ⟨ZAT _ _,hE⟩);clear hE;go_enter Tryz.func144,Tryz.ntmps144
 go_wp2_with fail
 go_loopw [5,4,3] (fun i f ov wr=>∃(k a:Nat) (out:List (List UInt8)),k≤s.size+1∧a≤k∧a≤s.size+1∧out.length≤k∧i=.int .i64 k∧f=.int .i64 a∧Hid (cutR [] l=out++(if k≤s.size then cutR ((l.take k).drop a) (l.drop k) else []))∧Hid (OwnX wr w.heap.size ov out∧Below w.heap.size w wr)) (fun i _ _ _=>s.size+1-(intOf i).toNat)
 case atStart=>exact ⟨0,0,[],by omega,by omega,by omega,by simp,rfl,rfl,by show _=_;simp,H0.out⟩
 case round=>
  clear H0;obtain ⟨k,a,out,hk,hak,has,hol,rfl,rfl,HC,HW⟩:=hrel
  by_cases hle:k≤s.size
  ·have hpush:=fun x=>HW.out.1.push HW.out.2.size (by omega) x 97
   have hext:=HX.out a k;obtain ⟨v',W',e1,e2,e3⟩:=hpush ((l.take k).drop a);have HAP:=Zh e1;have HN:=Zh (show OwnX W' w.heap.size v' (out++[(l.take k).drop a])∧Below w.heap.size w W' from ⟨e2,HW.out.2.trans (HW.out.1.keepsB e3 HW.out.2.size)⟩);clear e1 e2 e3 hpush
   by_cases hlt:k<s.size
   ·have hkl:k<l.length:=by rw[←HSZ.out];exact hlt
    obtain ⟨c,hc⟩:∃c:Nat,(s[k]'hlt).toNat=c:=⟨_,rfl⟩
    have hcl:l[k].toNat=c:=by rw[←HG.out k hlt hkl];exact hc
    have e0:((k:Int)==(s.size:Int))=false:=by
     have:(k:Int)≠(s.size:Int):=by omega
     simpa using this
    cases h32:((c:Int)==32) with
    | true=>
     have h32':c=32:=by
      have:(c:Int)=32:=by simpa using h32
      omega
     have hcc:=ZIa (a:=a) hkl (by rw[hcl];exact h32');have HC2:=Zh (show cutR [] l=(out++[(l.take k).drop a])++(if k+1≤s.size then cutR ((l.take (k+1)).drop (k+1)) (l.drop (k+1)) else []) from by
      rw[HC.out,if_pos hle,if_pos (by omega),hcc,List.append_assoc];rfl)
     clear hcc HC HW hcl h32';go_wp2_with (at_builtin;refine ZK rfl (.tmp 23) (.tmp 28) 97 rfl rfl rfl HAP.out ?_)
     go_roundw
     case rel=>exact ⟨k+1,k+1,_,by omega,by omega,by omega,by simp;omega,by go_num,by go_num,HC2.out,HN.out⟩
     case measure=>simp[intOf];omega
    | false=>
     have h32':c≠32:=by
      have:(c:Int)≠32:=by simpa using h32
      omega
     have hcc:=ZKb (a:=a) hak hkl (by rw[hcl];exact h32');have HC2:=Zh (show cutR [] l=out++(if k+1≤s.size then cutR ((l.take (k+1)).drop a) (l.drop (k+1)) else []) from by
      rw[HC.out,if_pos hle,if_pos (by omega),hcc])
     have HW2:=Zh HW.out;clear hcc HC HW hcl h32' HAP HN;go_wp2_with fail
     go_roundw
     case rel=>exact ⟨k+1,a,out,by omega,by omega,by omega,by omega,by go_num,rfl,HC2.out,HW2.out⟩
     case measure=>simp[intOf];omega
   ·have hke:k=s.size:=by omega
    subst hke;have hcc:=cutR_end (l:=l) (a:=a) (k:=s.size) (by rw[HSZ.out];exact Nat.le_refl _);have HC2:=Zh (show cutR [] l=(out++[(l.take s.size).drop a])++(if s.size+1≤s.size then cutR ((l.take (s.size+1)).drop (s.size+1)) (l.drop (s.size+1)) else []) from by
     rw[HC.out,if_pos hle,if_neg (by omega),hcc,List.append_nil])
    clear hcc HC HW;go_wp2_with (at_builtin;refine ZK rfl (.tmp 23) (.tmp 28) 97 rfl rfl rfl HAP.out ?_)
    go_roundw
    case rel=>exact ⟨s.size+1,s.size+1,_,by omega,by omega,by omega,by simp;omega,by go_num,by go_num,HC2.out,HN.out⟩
    case measure=>simp[intOf]<;>omega
  ·have hfin:cutR [] l=out:=by rw[HC.out,if_neg hle,List.append_nil]
   have HF:=Zh hfin;have HW2:=Zh HW.out;obtain ⟨A,cap,rfl,-,-⟩:=HW.out.1.form;clear HC HW hfin;go_wp2_with fail
   go_ret;exact ⟨⟨_,rfl,by rw[HF.out];exact HW2.out.1⟩,HW2.out.2⟩
def wordsL:List (List UInt8):=[[97,100,100],[115,117,98],[109,117,108],[100,105,118],[100,105,118,117],[114,101,109],[114,101,109,117],[97,110,100],[111,114],[120,111,114],[115,104,108],[115,104,114],[115,104,114,117],[108,116],[108,116,117],[101,113],[110,101],[97,100,100,105],[97,110,100,105],[111,114,105],[120,111,114,105],[115,104,108,105],[115,104,114,105],[115,104,114,117,105],[108,105],[108,117,105],[101,120,116],[108,119],[108,104],[108,98],[115,119],[115,104],[115,98],[98,122],[98,110,122],[98,108,117],[106,117,109,112],[99,97,108,108],[114,101,103],[99,97,108,108,114],[115,121,115],[116,114,97,112]]
def ZP:Array Value:=(wordsL.map sv).toArray
theorem ZDw (w:World):Calls Tryz.prog 145 #[] w fun e w'=>e=.returned (.slice (some ⟨w.heap.size,0,none⟩) 42 42)∧w'=w.alloc (.cells ZP 9):=by
 go_enter Tryz.func145,Tryz.ntmps145
 go_wp2_with fail
 go_ret;exact ⟨rfl,rfl⟩
end Go.Proofs.YtggmkofbikafhaaGreatDoor
