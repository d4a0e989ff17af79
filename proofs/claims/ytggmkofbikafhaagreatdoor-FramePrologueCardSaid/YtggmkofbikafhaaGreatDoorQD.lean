/- Walks and plain laws on the way to FramePrologue (QC, QD). Conditions: those that each theorem states. -/
import Derived.Test.YtggmkofbikafhaaGreatDoorMSB
import Derived.Test.YtggmkofbikafhaaGreatDoorMSI
import Derived.Test.YtggmkofbikafhaaGreatDoorMSS
import Derived.Test.YtggmkofbikafhaaGreatDoorMST
set_option linter.unusedVariables false
set_option linter.unusedSimpArgs false
set_option maxRecDepth 100000
set_option maxHeartbeats 40000000
namespace Go.Proofs.YtggmkofbikafhaaGreatDoor
open Go.RowKit Go.Lib
def ZCh (o At:Nat) (l:List Int):List In5:=(List.range l.length).map fun k=>⟨o,(l.getD k 0).toNat,13,0,At+4*k⟩
def pre8 (Z Lk:Nat):List In5:=[⟨25,15,0,0,Z⟩,⟨36,13,15,0,3⟩,⟨2,15,13,15,0⟩,⟨36,15,12,0,1⟩,⟨37,0,0,0,1⟩,⟨42,0,0,0,1⟩,⟨18,13,15,0,0⟩,⟨31,14,13,0,Lk⟩]
def ZIw:List In5:=[⟨0,0,0,0,0⟩]
def post5 (Z Lk:Nat):List In5:=[⟨28,14,13,0,Lk⟩,⟨25,15,0,0,Z⟩,⟨1,13,13,15,0⟩,⟨39,0,14,0,0⟩,⟨0,0,0,0,0⟩]
def prog (Z Lk At:Nat) (l:List Int):List In5:=pre8 Z Lk++(ZCh 31 At l++(ZIw++(ZCh 28 At l++post5 Z Lk)))
theorem Zl (o At:Nat) (l:List Int):(ZCh o At l).length=l.length:=by simp[ZCh]
theorem ZJE (o At:Nat) (l:List Int) {k:Nat} (hk:k<l.length):(ZCh o At l)[k]? = some ⟨o,(l.getD k 0).toNat,13,0,At+4*k⟩:=by
 simp[ZCh,hk]
theorem ZHM (Z Lk At:Nat) (l:List Int):(prog Z Lk At l).length=14+2*l.length:=by
 unfold prog;simp only[List.length_append,Zl];show 8+(l.length+(1+(l.length+5)))=_;omega
theorem ZAI (Z Lk At:Nat) (l:List Int) {j:Nat} (hj:j<8):(prog Z Lk At l)[j]? = (pre8 Z Lk)[j]?:=by
 unfold prog;rw[List.getElem?_append_left (by show j<8;exact hj)]
theorem prog_sav (Z Lk At:Nat) (l:List Int) {k:Nat} (hk:k<l.length):(prog Z Lk At l)[8+k]? = some ⟨31,(l.getD k 0).toNat,13,0,At+4*k⟩:=by
 unfold prog;rw[List.getElem?_append_right (by show 8≤8+k;omega),show 8+k-(pre8 Z Lk).length=k by show 8+k-8=k;omega,List.getElem?_append_left (by rw[Zl];exact hk),ZJE _ _ _ hk]
theorem prog_lod (Z Lk At:Nat) (l:List Int) {k:Nat} (hk:k<l.length):(prog Z Lk At l)[9+l.length+k]? = some ⟨28,(l.getD k 0).toNat,13,0,At+4*k⟩:=by
 unfold prog;rw[List.getElem?_append_right (by show 8≤_;omega),List.getElem?_append_right (by rw[Zl];show l.length≤9+l.length+k-8;omega),List.getElem?_append_right (by rw[Zl];show 1≤9+l.length+k-8-l.length;omega),List.getElem?_append_left (by rw[Zl,Zl];show 9+l.length+k-8-l.length-1<l.length;omega),
  show 9+l.length+k-(pre8 Z Lk).length-(ZCh 31 At l).length-ZIw.length=k by rw[Zl];show 9+l.length+k-8-l.length-1=k;omega,ZJE _ _ _ hk]
theorem ZB4 (Z Lk At:Nat) (l:List Int) {j:Nat} (hj:j<5):(prog Z Lk At l)[9+2*l.length+j]? = (post5 Z Lk)[j]?:=by
 unfold prog;rw[List.getElem?_append_right (by show 8≤_;omega),List.getElem?_append_right (by rw[Zl];show l.length≤9+2*l.length+j-8;omega),List.getElem?_append_right (by rw[Zl];show 1≤9+2*l.length+j-8-l.length;omega),List.getElem?_append_right (by rw[Zl,Zl];show l.length≤9+2*l.length+j-8-l.length-1;omega),
  show 9+2*l.length+j-(pre8 Z Lk).length-(ZCh 31 At l).length-ZIw.length-(ZCh 28 At l).length=j by rw[Zl,Zl];show 9+2*l.length+j-8-l.length-1-l.length=j;omega]
structure Txt (T:Nat) (X:List Int) (pr:List In5):Prop where
 xl:X.length=T
 tl:T≤90000
 fit:4*pr.length≤T
 wd:∀j x,pr[j]? = some x→wd X (4*j)=(x.w:Int)
theorem Txt.of {T:Nat} {pr:List In5} (h1:T≤90000) (h2:4*pr.length≤T) (hw:∀x∈pr,x.w<4294967296):Txt T (splice (List.replicate T 0) 0 (nums (bL (pr.map In5.w)))) pr:=by
 have hl:(nums (bL (pr.map In5.w))).length=4*pr.length:=by rw[ZBC,ZDd,List.length_map]
 have hf:0+(nums (bL (pr.map In5.w))).length≤(List.replicate T (0:Int)).length:=by rw[hl,List.length_replicate];omega
 refine ⟨by rw[ZBV hf,List.length_replicate],h1,h2,fun j x hx=>?_⟩;have hj:j<pr.length:=(List.getElem?_eq_some_iff.1 hx).1;have hg:∀i,i<4*pr.length→(splice (List.replicate T 0) 0 (nums (bL (pr.map In5.w)))).getD i 0=(nums (bL (pr.map In5.w))).getD i 0:=fun i hi=>by
  rw[ZBA hf,if_neg (by omega),if_pos (by rw[hl];omega),Nat.sub_zero]
 have hn:=ZJl (pr.map In5.w) j x.w (fun v hv=>by
  obtain ⟨y,hy,rfl⟩:=List.mem_map.1 hv;exact hw y hy) (by rw[List.getElem?_map,hx];rfl)
 rw[←hn]
 unfold Go.Proofs.YtggmkofbikafhaaGreatDoor.wd;rw[hg _ (by omega),hg _ (by omega),hg _ (by omega),hg _ (by omega)]
theorem Txt.fetch {T:Nat} {X Y:List Int} {pr:List In5} {ns:List Area} (h:Txt T X pr) (hk:KM ns T X Y) {j:Nat} {x:In5} (hx:pr[j]? = some x):fetchR ns ((4096+4*j:Nat):Int)=((x.w:Int),0):=by
 have hj:j<pr.length:=(List.getElem?_eq_some_iff.1 hx).1;have hf:=h.fit;rw[hk.fetch rfl (by omega) (by rw[h.xl];omega),h.wd j x hx]
def ZAi (s s':MSt):Prop:=∀(B bm gm:Nat) (iv:Value) (k:Int) (w:World),MAt w bm gm iv k s→k≤1000→B≤bm→(∀g∈rowsOf s.ns,B≤g)→B≤w.heap.size→Calls Tryz.prog 14 #[.pointer (some ⟨bm,0,none⟩)] w (ZAK B bm gm iv k s s' w)
def Path (stop:Nat):Nat→MSt→MSt→Prop
 | 0,s,e=>s=e∧(s.over=true∨s.pc=stop)
 | n+1,s,e=>(s.over=false∧s.pc≠stop)∧∃s',ZAi s s'∧Path stop n s' e
structure PM (T:Nat) (X:List Int) (s:MSt) (rg:List Nat) (pc:Nat) (Y:List Int):Prop where
 e:s=⟨rg,pc,false,0,0,s.ns⟩
 k:KM s.ns T X Y
 y:Y.length=16384
 r:rg.length=16
def Fin (stop T:Nat) (X:List Int) (N:Nat) (rg:List Nat) (pc:Nat) (Y:List Int) (P:MSt→Prop):Prop:=∀s,PM T X s rg pc Y→∃n e,n≤N∧Path stop n s e∧P e
theorem Fin.step {stop T N:Nat} {X:List Int} {rg rg':List Nat} {pc pc':Nat} {Y Y':List Int} {P:MSt→Prop} (hne:pc≠stop) (hs:∀s,PM T X s rg pc Y→∃s',ZAi s s'∧PM T X s' rg' pc' Y') (hf:Fin stop T X N rg' pc' Y' P):Fin stop T X (N+1) rg pc Y P:=by
 intro s h;obtain ⟨s',h1,h2⟩:=hs s h;obtain ⟨n,e,h3,h4,h5⟩:=hf s' h2;refine ⟨n+1,e,by omega,⟨⟨?_,?_⟩,s',h1,h4⟩,h5⟩
 ·rw[h.e]
 ·rw[h.e];exact hne
theorem Fin.done {stop T N:Nat} {X:List Int} {rg:List Nat} {pc:Nat} {Y:List Int} {P:MSt→Prop} (hpc:pc=stop) (h:∀s,PM T X s rg pc Y→P s):Fin stop T X N rg pc Y P:=by
 intro s hs;refine ⟨0,s,by omega,⟨rfl,Or.inr ?_⟩,h s hs⟩;rw[hs.e];exact hpc
section
variable {T:Nat} {X Y:List Int} {pr:List In5} {s:MSt} {rg:List Nat} {j:Nat}
theorem st_R (ht:Txt T X pr) {d a b:Nat} (hx:pr[j]? = some ⟨1,d,a,b,0⟩) (hd:d≤15) (ha:a≤15) (hb:b≤15) (s:MSt) (h:PM T X s rg (4096+4*j) Y):∃s',ZAi s s'∧PM T X s' (rg.set d ((rg.getD a 0+rg.getD b 0)%4294967296)) (4096+4*(j+1)) Y:=by
 have hj:j<pr.length:=(List.getElem?_eq_some_iff.1 hx).1;have hf:=ht.fit;have hl:=ht.tl;refine ⟨⟨rg.set d ((rg.getD a 0+rg.getD b 0)%4294967296),4096+4*j+4,false,0,0,s.ns⟩,?_,⟨?_,h.k,h.y,by rw[List.length_set];exact h.r⟩⟩
 ·intro B bm gm iv k w hm hk hB hR hBw
  have hfe:=ht.fetch h.k hx;rw[h.e] at hm hR ⊢;exact step_R B bm gm iv k rg (4096+4*j) 0 0 s.ns d a b 0 _ w hm hk (by omega) hB hR hBw hfe (dec_R (o:=1) (by decide) (ZHi (o:=1) (by decide) hd ha hb) (by decide) hd ha hb) hd ha hb (by omega)
 ·simp only[MSt.mk.injEq,true_and,and_true];omega
theorem st_U (ht:Txt T X pr) {d a b:Nat} (hx:pr[j]? = some ⟨2,d,a,b,0⟩) (hd:d≤15) (ha:a≤15) (hb:b≤15) (s:MSt) (h:PM T X s rg (4096+4*j) Y):∃s',ZAi s s'∧PM T X s' (rg.set d ((rg.getD a 0+4294967296-rg.getD b 0)%4294967296)) (4096+4*(j+1)) Y:=by
 have hj:j<pr.length:=(List.getElem?_eq_some_iff.1 hx).1;have hf:=ht.fit;have hl:=ht.tl;refine ⟨⟨rg.set d ((rg.getD a 0+4294967296-rg.getD b 0)%4294967296),4096+4*j+4,false,0,0,s.ns⟩,?_,⟨?_,h.k,h.y,by rw[List.length_set];exact h.r⟩⟩
 ·intro B bm gm iv k w hm hk hB hR hBw
  have hfe:=ht.fetch h.k hx;rw[h.e] at hm hR ⊢;exact step_U B bm gm iv k rg (4096+4*j) 0 0 s.ns d a b 0 _ w hm hk (by omega) hB hR hBw hfe (dec_R (o:=2) (by decide) (ZHi (o:=2) (by decide) hd ha hb) (by decide) hd ha hb) hd ha hb (by omega)
 ·simp only[MSt.mk.injEq,true_and,and_true];omega
theorem st_I (ht:Txt T X pr) {d a i:Nat} (hx:pr[j]? = some ⟨18,d,a,0,i⟩) (hd:d≤15) (ha:a≤15) (hi:i≤32767) (s:MSt) (h:PM T X s rg (4096+4*j) Y):∃s',ZAi s s'∧PM T X s' (rg.set d ((rg.getD a 0+i)%4294967296)) (4096+4*(j+1)) Y:=by
 have hj:j<pr.length:=(List.getElem?_eq_some_iff.1 hx).1;have hf:=ht.fit;have hl:=ht.tl;refine ⟨⟨rg.set d ((rg.getD a 0+i)%4294967296),4096+4*j+4,false,0,0,s.ns⟩,?_,⟨?_,h.k,h.y,by rw[List.length_set];exact h.r⟩⟩
 ·intro B bm gm iv k w hm hk hB hR hBw
  have hfe:=ht.fetch h.k hx;rw[h.e] at hm hR ⊢;exact step_I B bm gm iv k rg (4096+4*j) 0 0 s.ns d a 0 i _ w hm hk (by omega) hB hR hBw hfe (dec_S (o:=18) (by decide) (ZDZ (o:=18) (by decide) hd ha hi) (by decide) hd ha hi) hd ha (by omega) hi
 ·simp only[MSt.mk.injEq,true_and,and_true];omega
theorem st_L (ht:Txt T X pr) {d i:Nat} (hx:pr[j]? = some ⟨25,d,0,0,i⟩) (hd:d≤15) (hi:i≤32767) (s:MSt) (h:PM T X s rg (4096+4*j) Y):∃s',ZAi s s'∧PM T X s' (rg.set d i) (4096+4*(j+1)) Y:=by
 have hj:j<pr.length:=(List.getElem?_eq_some_iff.1 hx).1;have hf:=ht.fit;have hl:=ht.tl;refine ⟨⟨rg.set d i,4096+4*j+4,false,0,0,s.ns⟩,?_,⟨?_,h.k,h.y,by rw[List.length_set];exact h.r⟩⟩
 ·intro B bm gm iv k w hm hk hB hR hBw
  have hfe:=ht.fetch h.k hx;rw[h.e] at hm hR ⊢;exact step_L B bm gm iv k rg (4096+4*j) 0 0 s.ns d 0 0 i _ w hm hk (by omega) hB hR hBw hfe (dec_L (o:=25) (by decide) (chk_76 (o:=25) (by decide) hd hi) (by decide) hd hi) hd (by omega) (by omega) hi
 ·simp only[MSt.mk.injEq,true_and,and_true];omega
theorem st_B (ht:Txt T X pr) {d a i:Nat} (hx:pr[j]? = some ⟨36,d,a,0,i⟩) (hd:d≤15) (ha:a≤15) (hi:i≤32767) (j':Nat) (hj':j'=if rg.getD d 0<rg.getD a 0 then j+1+i else j+1) (s:MSt) (h:PM T X s rg (4096+4*j) Y):∃s',ZAi s s'∧PM T X s' rg (4096+4*j') Y:=by
 have hj:j<pr.length:=(List.getElem?_eq_some_iff.1 hx).1;have hf:=ht.fit;have hl:=ht.tl;refine ⟨⟨rg,if rg.getD d 0<rg.getD a 0 then (4096+4*j+4)+4*i else 4096+4*j+4,false,0,0,s.ns⟩,?_,⟨?_,h.k,h.y,h.r⟩⟩
 ·intro B bm gm iv k w hm hk hB hR hBw
  have hfe:=ht.fetch h.k hx;rw[h.e] at hm hR ⊢;exact step_B B bm gm iv k rg (4096+4*j) 0 0 s.ns d a 0 i _ w hm hk (by omega) hB hR hBw hfe (dec_T (o:=36) (by decide) (ZKg (o:=36) (by decide) hd ha hi) (by decide) hd ha hi) hd ha (by omega) hi rfl
 ·simp only[MSt.mk.injEq,true_and,and_true]
  rw[hj']
  split<;>omega
theorem st_J (ht:Txt T X pr) {i:Nat} (hx:pr[j]? = some ⟨37,0,0,0,i⟩) (hi:i≤32767) (s:MSt) (h:PM T X s rg (4096+4*j) Y):∃s',ZAi s s'∧PM T X s' rg (4096+4*(j+1+i)) Y:=by
 have hj:j<pr.length:=(List.getElem?_eq_some_iff.1 hx).1;have hf:=ht.fit;have hl:=ht.tl;refine ⟨⟨rg,(4096+4*j+4)+4*i,false,0,0,s.ns⟩,?_,⟨?_,h.k,h.y,h.r⟩⟩
 ·intro B bm gm iv k w hm hk hB hR hBw
  have hfe:=ht.fetch h.k hx;rw[h.e] at hm hR ⊢;exact step_J B bm gm iv k rg (4096+4*j) 0 0 s.ns 0 0 0 i _ w hm hk (by omega) hB hR hBw hfe (dec_J (o:=37) (by decide) (chk_74 (o:=37) (by decide) hi) (by decide) hi) (by omega) (by omega) (by omega) hi rfl rfl rfl
 ·simp only[MSt.mk.injEq,true_and,and_true];omega
theorem st_G (ht:Txt T X pr) {a:Nat} (hx:pr[j]? = some ⟨39,0,a,0,0⟩) (ha:a≤15) (hg:rg.getD a 0≤1000000000) (s:MSt) (h:PM T X s rg (4096+4*j) Y):∃s',ZAi s s'∧PM T X s' rg (rg.getD a 0) Y:=by
 have hj:j<pr.length:=(List.getElem?_eq_some_iff.1 hx).1;have hf:=ht.fit;have hl:=ht.tl;refine ⟨⟨rg,rg.getD a 0,false,0,0,s.ns⟩,?_,⟨rfl,h.k,h.y,h.r⟩⟩;intro B bm gm iv k w hm hk hB hR hBw;have hfe:=ht.fetch h.k hx;rw[h.e] at hm hR ⊢;exact step_G B bm gm iv k rg (4096+4*j) 0 0 s.ns 0 a 0 0 _ w hm hk (by omega) hB hR hBw hfe (dec_G (o:=39) (by decide) (chk_71 (o:=39) (by decide) ha) (by decide) ha) (by omega) ha (by omega) (by omega) rfl rfl rfl hg
theorem st_T (ht:Txt T X pr) (hx:pr[j]? = some ⟨42,0,0,0,1⟩) (s:MSt) (h:PM T X s rg (4096+4*j) Y):ZAi s ⟨rg,4096+4*j,true,3,0,s.ns⟩:=by
 have hj:j<pr.length:=(List.getElem?_eq_some_iff.1 hx).1;have hf:=ht.fit;have hl:=ht.tl;intro B bm gm iv k w hm hk hB hR hBw;have hfe:=ht.fetch h.k hx;rw[h.e] at hm hR ⊢;exact step_T B bm gm iv k rg (4096+4*j) 0 0 s.ns 0 0 0 1 _ w hm hk (by omega) hB hR hBw hfe (dec_W (o:=42) (by decide) (chk_87 (o:=42) (by decide) (by decide)) (by decide) (by decide)) (by omega) (by omega) (by omega) (by omega) rfl rfl rfl rfl
theorem st_W (ht:Txt T X pr) {d a i x o:Nat} (hx:pr[j]? = some ⟨28,d,a,0,i⟩) (hd:d≤15) (ha:a≤15) (hi:i≤32767) (hxl:x<4294967296) (ho:(rg.getD a 0+i)%4294967296=4096+T+o) (ho4:(4096+T+o)%4=0) (hol:o+4≤16384) (hw:wd Y o=(x:Int)) (s:MSt) (h:PM T X s rg (4096+4*j) Y):∃s',ZAi s s'∧PM T X s' (rg.set d x) (4096+4*(j+1)) Y:=by
 have hj:j<pr.length:=(List.getElem?_eq_some_iff.1 hx).1;have hf:=ht.fit;have hl:=ht.tl;refine ⟨⟨rg.set d x,4096+4*j+4,false,0,0,s.ns⟩,?_,⟨?_,h.k,h.y,by rw[List.length_set];exact h.r⟩⟩
 ·intro B bm gm iv k w hm hk hB hR hBw
  have hfe:=ht.fetch h.k hx;have hlo:=h.k.load ho (by rw[ho];exact ho4) hol h.y;rw[hw] at hlo;rw[h.e] at hm hR ⊢;exact step_W B bm gm iv k rg (4096+4*j) 0 0 s.ns d a 0 i _ w hm hk (by omega) hB hR hBw hfe (dec_S (o:=28) (by decide) (ZDZ (o:=28) (by decide) hd ha hi) (by decide) hd ha hi) hd ha (by omega) hi x hxl hlo
 ·simp only[MSt.mk.injEq,true_and,and_true];omega
theorem st_S (ht:Txt T X pr) {d a i o:Nat} (hx:pr[j]? = some ⟨31,d,a,0,i⟩) (hd:d≤15) (ha:a≤15) (hi:i≤32767) (ho:(rg.getD a 0+i)%4294967296=4096+T+o) (ho4:(4096+T+o)%4=0) (hol:o+4≤16384) (s:MSt) (h:PM T X s rg (4096+4*j) Y):∃s',ZAi s s'∧PM T X s' rg (4096+4*(j+1)) (splice Y o (bytesOf (rg.getD d 0:Nat) 4)):=by
 have hj:j<pr.length:=(List.getElem?_eq_some_iff.1 hx).1;have hf:=ht.fit;have hl:=ht.tl;obtain ⟨ns',h1,h2⟩:=h.k.store ho (by rw[ho];exact ho4) hol ((rg.getD d 0:Nat):Int);refine ⟨⟨rg,4096+4*j+4,false,0,0,ns'⟩,?_,⟨?_,h2,?_,h.r⟩⟩
 ·intro B bm gm iv k w hm hk hB hR hBw
  have hfe:=ht.fetch h.k hx;rw[h.e] at hm hR ⊢;exact step_S B bm gm iv k rg (4096+4*j) 0 0 s.ns d a 0 i _ w hm hk (by omega) hB hR hBw hfe (dec_S (o:=31) (by decide) (ZDZ (o:=31) (by decide) hd ha hi) (by decide) hd ha hi) hd ha (by omega) hi ns' h1
 ·simp only[MSt.mk.injEq,true_and,and_true];omega
 ·have hy:=h.y
  rw[ZBV (by rw[ZAb];omega)];exact hy
end
theorem ZFL {r:List Nat} {i j x:Nat} (hi:i<r.length):(r.set i x).getD j 0=if i=j then x else r.getD j 0:=by
 rw[List.getD_eq_getElem?_getD,List.getElem?_set,List.getD_eq_getElem?_getD]
 by_cases h:i=j
 ·subst h;simp[hi]
 ·simp[h]
theorem Fin.more {stop T N M:Nat} {X:List Int} {rg:List Nat} {pc:Nat} {Y:List Int} {P:MSt→Prop} (h:Fin stop T X N rg pc Y P) (hm:N≤M):Fin stop T X M rg pc Y P:=fun s hs=>by
 obtain ⟨n,e,h1,h2,h3⟩:=h s hs;exact ⟨n,e,by omega,h2,h3⟩
theorem Fin.post {stop T N:Nat} {X:List Int} {rg:List Nat} {pc:Nat} {Y:List Int} {P Q:MSt→Prop} (h:Fin stop T X N rg pc Y P) (hm:∀e,P e→Q e):Fin stop T X N rg pc Y Q:=fun s hs=>by
 obtain ⟨n,e,h1,h2,h3⟩:=h s hs;exact ⟨n,e,h1,h2,hm e h3⟩
structure Fr (Z Lk At:Nat) (l:List Int) (T room:Nat):Prop where
 z16:Z%16=0
 z1:16≤Z
 z2:Z≤4096
 k4:Lk%4=0
 kz:Lk+4≤Z
 a4:At%4=0
 az:At+4*l.length≤Z
 ap:l.length=0∨Lk+4≤At∨At+4*l.length≤Lk
 n:l.length≤7
 l1:∀k,k<l.length→4≤(l.getD k 0).toNat∧(l.getD k 0).toNat≤10
 t16:T%16=0
 tl:T≤90000
 r16:room%16=0
 rl:room≤8176
structure Kept (rg0:List Nat) (lnk Lk At:Nat) (l:List Int) (b lo hi k:Nat) (Y:List Int):Prop where
 i0:In0 Y lo hi
 lk:wd Y (b+Lk)=(lnk:Int)
 sv:∀i,i<k→wd Y (b+At+4*i)=((rg0.getD (l.getD i 0).toNat 0:Nat):Int)
def r3 (rg0:List Nat) (Z sb:Nat):List Nat:=((rg0.set 15 Z).set 15 sb).set 13 sb
theorem ZDl {rg0:List Nat} {Z sb q:Nat} (hl:rg0.length=16):(r3 rg0 Z sb).getD q 0=if q=13 then sb else if q=15 then sb else rg0.getD q 0:=by
 unfold r3;rw[ZFL (by simp[hl]),ZFL (by simp[hl]),ZFL (by simp[hl])]
 by_cases h1:q=13
 ·subst h1;simp
 ·rw[if_neg (by omega),if_neg h1]
  by_cases h2:q=15
  ·subst h2;simp
  ·rw[if_neg (by omega),if_neg (by omega),if_neg h2]
def ProP (rg0:List Nat) (Z Lk At:Nat) (l:List Int) (T:Nat) (X:List Int) (room lnk:Nat) (e:MSt):Prop:=∃Y1,PM T X e (r3 rg0 Z (4096+T+(64+room-Z))) (4096+4*(8+l.length)) Y1∧Kept rg0 lnk Lk At l (64+room-Z) (64+room-Z) (64+room) l.length Y1
section
variable {Z Lk At T room lnk:Nat} {l:List Int} {X:List Int} {rg0:List Nat}
theorem ZHE (hF:Fr Z Lk At l T room) (ht:Txt T X (prog Z Lk At l)) (hr:rg0.length=16) (hu:∀i,rg0.getD i 0<4294967296) (hroom:Z≤room):∀(m k:Nat) (Y:List Int),k+m=l.length→Y.length=16384→Kept rg0 lnk Lk At l (64+room-Z) (64+room-Z) (64+room) k Y→
  Fin (4096+4*(8+l.length)) T X m (r3 rg0 Z (4096+T+(64+room-Z))) (4096+4*(8+k)) Y (ProP rg0 Z Lk At l T X room lnk)
 | 0,k,Y,hk,hY,hK=>by
  have:k=l.length:=by omega
  subst this;exact Fin.done rfl (fun s hs=>⟨Y,hs,hK⟩)
 | m+1,k,Y,hk,hY,hK=>by
  obtain ⟨z16,z1,z2,k4,kz,a4,az,ap,n7,l1,t16,tl,r16,rl⟩:=hF;have hkl:k<l.length:=by omega
  have hl1:=l1 k hkl;have ho:((r3 rg0 Z (4096+T+(64+room-Z))).getD 13 0+(At+4*k))%4294967296=4096+T+(64+room-Z+At+4*k):=by
   rw[ZDl hr,if_pos rfl];omega
  have hv:(r3 rg0 Z (4096+T+(64+room-Z))).getD (l.getD k 0).toNat 0=rg0.getD (l.getD k 0).toNat 0:=by
   rw[ZDl hr,if_neg (by omega),if_neg (by omega)]
  have hin:64+room-Z+At+4*k+4≤Y.length:=by omega
  refine Fin.step (by omega) (st_S ht (prog_sav Z Lk At l hkl) (by omega) (by omega) (by omega) ho (by omega) (by omega)) ?_;rw[hv];refine ZHE ⟨z16,z1,z2,k4,kz,a4,az,ap,n7,l1,t16,tl,r16,rl⟩ ht hr hu hroom m (k+1) _ (by omega) (by rw[ZBV (by rw[ZAb];omega)];exact hY) ⟨hK.i0.put _ hin (by omega) (by omega),?_,fun i hi=>?_⟩
  ·rw[ZHC hin (by omega)];exact hK.lk
  ·by_cases c:i=k
   ·subst c
    exact ZIz hin (hu _)
   ·rw[ZHC hin (by omega)]
    exact hK.sv i (by omega)
theorem pro_path (hF:Fr Z Lk At l T room) (ht:Txt T X (prog Z Lk At l)) (hr:rg0.length=16) (hu:∀i,rg0.getD i 0<4294967296) (hsp:rg0.getD 13 0=4096+T+64+room) (hbot:rg0.getD 12 0=4096+T+64) (hlk:rg0.getD 14 0=lnk) (hroom:Z≤room) :
  Fin (4096+4*(8+l.length)) T X 60 rg0 (4096+4*0) (List.replicate 16384 0) (ProP rg0 Z Lk At l T X room lnk):=by
 have hF':=hF;obtain ⟨z16,z1,z2,k4,kz,a4,az,ap,n7,l1,t16,tl,r16,rl⟩:=hF;have hY0:(List.replicate 16384 (0:Int)).length=16384:=List.length_replicate;refine Fin.step (N:=59) (by omega) (st_L ht (ZAI Z Lk At l (by decide:0<8)) (by decide) (by omega)) ?_;have g1:∀q,(rg0.set 15 Z).getD q 0=if q=15 then Z else rg0.getD q 0:=fun q=>by
  rw[ZFL (by omega)]
  by_cases h:q=15
  ·subst h;simp
  ·rw[if_neg (by omega),if_neg h]
 refine Fin.step (N:=58) (by omega) (st_B ht (ZAI Z Lk At l (by decide:0+1<8)) (by decide) (by decide) (by decide) 2 (by
  have a1:=g1 13;have a2:=g1 15;rw[if_neg (by decide),hsp] at a1;rw[if_pos rfl] at a2;rw[a1,a2,if_neg (by omega)])) ?_
 refine Fin.step (N:=57) (by omega) (st_U ht (ZAI Z Lk At l (by decide:2<8)) (by decide) (by decide) (by decide)) ?_;rw[show ((rg0.set 15 Z).getD 13 0+4294967296-(rg0.set 15 Z).getD 15 0)%4294967296=4096+T+(64+room-Z) by rw[g1,g1,if_neg (by decide),if_pos rfl,hsp];omega];have g2:∀q,((rg0.set 15 Z).set 15 (4096+T+(64+room-Z))).getD q 0=if q=15 then 4096+T+(64+room-Z) else rg0.getD q 0:=fun q=>by
  rw[ZFL (by simp;omega),g1]
  by_cases h:q=15
  ·subst h;simp
  ·rw[if_neg (by omega),if_neg h,if_neg h]
 refine Fin.step (N:=56) (by omega) (st_B ht (ZAI Z Lk At l (by decide:2+1<8)) (by decide) (by decide) (by decide) 4 (by
  have a1:=g2 12;have a2:=g2 15;rw[if_neg (by decide),hbot] at a1;rw[if_pos rfl] at a2;rw[a1,a2,if_neg (by omega)])) ?_
 refine Fin.step (N:=55) (by omega) (st_J ht (ZAI Z Lk At l (by decide:4<8)) (by decide)) ?_;refine Fin.step (N:=54) (by omega) (st_I ht (ZAI Z Lk At l (by decide:4+1+1<8)) (by decide) (by decide) (by decide)) ?_;rw[g2,if_pos rfl,show (4096+T+(64+room-Z)+0)%4294967296=4096+T+(64+room-Z) by omega];have ho:((r3 rg0 Z (4096+T+(64+room-Z))).getD 13 0+Lk)%4294967296=4096+T+(64+room-Z+Lk):=by
  rw[ZDl hr,if_pos rfl];omega
 have hv:(r3 rg0 Z (4096+T+(64+room-Z))).getD 14 0=lnk:=by
  rw[ZDl hr,if_neg (by omega),if_neg (by omega),hlk]
 have hlu:lnk<4294967296:=by rw[←hlk];exact hu 14
 have hin:64+room-Z+Lk+4≤(List.replicate 16384 (0:Int)).length:=by omega
 refine Fin.step (N:=53) (by omega) (st_S (rg:=r3 rg0 Z (4096+T+(64+room-Z))) ht (ZAI Z Lk At l (by decide:4+1+1+1<8)) (by decide) (by decide) (by omega) ho (by omega) (by omega)) ?_;rw[hv];refine (ZHE hF' ht hr hu hroom l.length 0 _ (by omega) (by rw[ZBV (by rw[ZAb];omega)];exact hY0) ⟨(in0_zero _ _).put _ hin (by omega) (by omega),ZIz hin hlu,fun i hi=>absurd hi (by omega)⟩).more (by omega)
def TrapP (T:Nat) (X:List Int) (e:MSt):Prop:=∃r pc ns,e=⟨r,pc,true,3,0,ns⟩∧KM ns T X (List.replicate 16384 0)
theorem ZI3 (hF:Fr Z Lk At l T room) (ht:Txt T X (prog Z Lk At l)) (hr:rg0.length=16) (hsp:rg0.getD 13 0=4096+T+64+room) (hbot:rg0.getD 12 0=4096+T+64) (hroom:room<Z) :
  Fin (4096+4*(8+l.length)) T X 60 rg0 (4096+4*0) (List.replicate 16384 0) (TrapP T X):=by
 obtain ⟨z16,z1,z2,k4,kz,a4,az,ap,n7,l1,t16,tl,r16,rl⟩:=hF;refine Fin.step (N:=59) (by omega) (st_L ht (ZAI Z Lk At l (by decide:0<8)) (by decide) (by omega)) ?_;have g1:∀q,(rg0.set 15 Z).getD q 0=if q=15 then Z else rg0.getD q 0:=fun q=>by
  rw[ZFL (by omega)]
  by_cases h:q=15
  ·subst h;simp
  ·rw[if_neg (by omega),if_neg h]
 refine Fin.step (N:=58) (by omega) (st_B ht (ZAI Z Lk At l (by decide:0+1<8)) (by decide) (by decide) (by decide) 2 (by
  have a1:=g1 13;have a2:=g1 15;rw[if_neg (by decide),hsp] at a1;rw[if_pos rfl] at a2;rw[a1,a2,if_neg (by omega)])) ?_
 refine Fin.step (N:=57) (by omega) (st_U ht (ZAI Z Lk At l (by decide:2<8)) (by decide) (by decide) (by decide)) ?_;rw[show ((rg0.set 15 Z).getD 13 0+4294967296-(rg0.set 15 Z).getD 15 0)%4294967296=4096+T+64+room-Z by rw[g1,g1,if_neg (by decide),if_pos rfl,hsp];omega];have g2:∀q,((rg0.set 15 Z).set 15 (4096+T+64+room-Z)).getD q 0=if q=15 then 4096+T+64+room-Z else rg0.getD q 0:=fun q=>by
  rw[ZFL (by simp;omega),g1]
  by_cases h:q=15
  ·subst h;simp
  ·rw[if_neg (by omega),if_neg h,if_neg h]
 refine Fin.step (N:=56) (by omega) (st_B ht (ZAI Z Lk At l (by decide:2+1<8)) (by decide) (by decide) (by decide) 5 (by
  have a1:=g2 12;have a2:=g2 15;rw[if_neg (by decide),hbot] at a1;rw[if_pos rfl] at a2;rw[a1,a2,if_pos (by omega)])) ?_
 intro s hs;refine ⟨1,_,by omega,⟨⟨by rw[hs.e],by rw[hs.e];show 4096+4*5≠_;omega⟩,_,st_T ht (ZAI Z Lk At l (by decide:5<8)) s hs,rfl,Or.inl rfl⟩,_,_,s.ns,rfl,hs.k⟩
def EpiP (rg0 rg1:List Nat) (T:Nat) (X Y:List Int) (n room:Nat) (e:MSt):Prop:=∃r,PM T X e r (4096+4*(13+2*n)) Y∧r.getD 13 0=4096+T+64+room∧r.getD 0 0=rg1.getD 0 0∧r.getD 12 0=rg1.getD 12 0∧∀q,4≤q→q≤10→r.getD q 0=rg0.getD q 0
theorem ZHV (hF:Fr Z Lk At l T room) (ht:Txt T X (prog Z Lk At l)) (hu:∀i,rg0.getD i 0<4294967296) (hroom:Z≤room) (hlk:lnk=4096+4*(13+2*l.length)) (rg1 Y) (hY:Y.length=16384) (hK:Kept rg0 lnk Lk At l (64+room-Z) (64+room-Z) (64+room) l.length Y):∀(m k:Nat) (r:List Nat),k+m=l.length→r.length=16→r.getD 13 0=4096+T+(64+room-Z)→r.getD 0 0=rg1.getD 0 0→r.getD 12 0=rg1.getD 12 0→
  (∀q,4≤q→q≤10→(∀i,k≤i→i<l.length→(l.getD i 0).toNat≠q)→r.getD q 0=rg0.getD q 0)→
  Fin (4096+4*(13+2*l.length)) T X (m+4) r (4096+4*(9+l.length+k)) Y (EpiP rg0 rg1 T X Y l.length room)
 | 0,k,r,hk,hr,h13,h0,h12,hq=>by
  obtain ⟨z16,z1,z2,k4,kz,a4,az,ap,n7,l1,t16,tl,r16,rl⟩:=hF;have hkk:k=l.length:=by omega
  subst hkk;rw[show 9+l.length+l.length=9+2*l.length+0 by omega];have hlu:lnk<4294967296:=by omega
  refine Fin.step (N:=3) (by omega) (st_W (x:=lnk) (o:=64+room-Z+Lk) ht (ZB4 Z Lk At l (by decide:0<5)) (by decide) (by decide) (by omega) hlu (by rw[h13];omega) (by omega) (by omega) hK.lk) ?_;refine Fin.step (N:=2) (by omega) (st_L ht (ZB4 Z Lk At l (by decide:0+1<5)) (by decide) (by omega)) ?_;refine Fin.step (N:=1) (by omega) (st_R ht (ZB4 Z Lk At l (by decide:0+1+1<5)) (by decide) (by decide) (by decide)) ?_;have g2:∀q,((r.set 14 lnk).set 15 Z).getD q 0=if q=15 then Z else if q=14 then lnk else r.getD q 0:=fun q=>by
   rw[ZFL (by simp;omega),ZFL (by omega)]
   by_cases c:q=15
   ·subst c;simp
   ·rw[if_neg (by omega),if_neg c]
    by_cases c2:q=14
    ·subst c2;simp
    ·rw[if_neg (by omega),if_neg c2]
  rw[show (((r.set 14 lnk).set 15 Z).getD 13 0+((r.set 14 lnk).set 15 Z).getD 15 0)%4294967296=4096+T+64+room by rw[g2,g2,if_neg (by decide),if_neg (by decide),if_pos rfl,h13];omega];have g3:∀q,(((r.set 14 lnk).set 15 Z).set 13 (4096+T+64+room)).getD q 0=if q=13 then 4096+T+64+room else if q=15 then Z else if q=14 then lnk else r.getD q 0:=fun q=>by
   rw[ZFL (by simp;omega),g2]
   by_cases c:q=13
   ·subst c;simp
   ·rw[if_neg (by omega),if_neg c]
  have h14:(((r.set 14 lnk).set 15 Z).set 13 (4096+T+64+room)).getD 14 0=lnk:=by
   rw[g3,if_neg (by decide),if_neg (by decide),if_pos rfl]
  refine Fin.step (N:=0) (by omega) (st_G (a:=14) ht (ZB4 Z Lk At l (by decide:0+1+1+1<5)) (by decide) (by rw[h14];omega)) ?_;rw[h14,hlk];rw[hlk] at g3;refine Fin.done rfl (fun s hs=>⟨_,hs,?_,?_,?_,fun q q1 q2=>?_⟩)
  ·rw[g3,if_pos rfl]
  ·rw[g3,if_neg (by decide),if_neg (by decide),if_neg (by decide)];exact h0
  ·rw[g3,if_neg (by decide),if_neg (by decide),if_neg (by decide)];exact h12
  ·rw[g3,if_neg (by omega),if_neg (by omega),if_neg (by omega)];exact hq q q1 q2 (fun i h1 h2=>absurd h1 (by omega))
 | m+1,k,r,hk,hr,h13,h0,h12,hq=>by
  have hF':=hF;obtain ⟨z16,z1,z2,k4,kz,a4,az,ap,n7,l1,t16,tl,r16,rl⟩:=hF;have hkl:k<l.length:=by omega
  have hl1:=l1 k hkl;refine Fin.step (N:=m+4) (by omega) (st_W (x:=rg0.getD (l.getD k 0).toNat 0) (o:=64+room-Z+At+4*k) ht (prog_lod Z Lk At l hkl) (by omega) (by omega) (by omega) (hu _) (by rw[h13];omega) (by omega) (by omega) (hK.sv k hkl)) ?_;have g:∀q,(r.set (l.getD k 0).toNat (rg0.getD (l.getD k 0).toNat 0)).getD q 0=if (l.getD k 0).toNat=q then rg0.getD (l.getD k 0).toNat 0 else r.getD q 0:=fun q=>ZFL (by omega)
  refine ZHV hF' ht hu hroom hlk rg1 Y hY hK m (k+1) _ (by omega) (by rw[List.length_set];exact hr) (by rw[g,if_neg (by omega)];exact h13) (by rw[g,if_neg (by omega)];exact h0) (by rw[g,if_neg (by omega)];exact h12) (fun q q1 q2 hn=>?_);rw[g]
  by_cases c:(l.getD k 0).toNat=q
  ·rw[if_pos c,c]
  ·rw[if_neg c]
   exact hq q q1 q2 (fun i h1 h2=>by
    by_cases ci:i=k
    ·subst ci;exact c
    ·exact hn i (by omega) h2)
end
end Go.Proofs.YtggmkofbikafhaaGreatDoor
