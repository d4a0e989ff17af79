/- Walks and plain laws on the way to FramePrologue (Z0, Heap, Own, T0). Conditions: those that each theorem states. -/
import Derived.Deep.RegionHeld3
import Derived.KernelRfl
import Derived.Tactics
import Derived.Test.YtggmkofbikafhaaGreatDoorRows
import Derived.WalkKit
import Derived.WalkSpells
import Derived.WalkLawsBesides
import Derived.Lib.Hide
import Derived.Deep.Draws
import Derived.Laws.OwnMore
import Derived.Laws.Rows
import Derived.Deep.RegionLaw
import Derived.Maps.AppendAt
import Derived.Deep.QuietTactic
import Derived.BigQuiet
import Derived.Laws.BytesArg
import Derived.Lib.Bytes
set_option linter.unusedVariables false
set_option linter.unusedSimpArgs false
set_option maxRecDepth 100000
set_option maxHeartbeats 40000000
namespace Go.Proofs.YtggmkofbikafhaaGreatDoor
theorem Zh {p:Prop} (h:p):RowKit.Hid p:=Lib.hid h
theorem Za {p q:Prop} (h:p) (g:q):p∧q:=⟨h,g⟩
section
variable {P:Program} {ops:Array Oper} {Q:Exit→Act→World→Prop} {md:Region.Mode} {S:World→Prop} {oi:Oper} {fuel:Nat} {listed:Array Bool} {a:Act} {w:World}
theorem TW (i:Nat) {v:Value} (hi:ops[i]? = some oi) (h:wpAnyH P md ops Q S fuel (listed.setIfInBounds i true) (a.put oi.dst v) w)
  (hv:∀w,S w→(execOp a.eval oi).run P w=.ok (.value v) w:=by intro w h;(try dsimp only at h);first|(go_simp;done)|(go_simp;with_reducible rfl))
  (hw:Region.wanted oi (yielded ops a.tmps)=true:=by rfl) (hs:Region.noSelect ops=true:=by kernel_rfl) (hf:Region.free md ops listed i=true:=by kernel_rfl) (hr:(Region.ready md ops listed).contains i=true:=by kernel_rfl)
  (hQ:∀c a w,Q (.panic c) (a.put oi.dst v) w→Q (.panic c) a w:=by exact fun _ _ _ h=>h) (hS:S w:=by assumption):wpAnyH P md ops Q S (fuel+1) listed a w:=
 wpAnyH_take hi hs hf hr hQ (Or.inl ⟨hw,hv⟩) hS h
theorem TU (i:Nat) (hi:ops[i]? = some oi) (h:wpAnyH P md ops Q S fuel (listed.setIfInBounds i true) (a.put oi.dst undef) w)
  (hw:Region.wanted oi (yielded ops a.tmps)=false:=by rfl) (hs:Region.noSelect ops=true:=by kernel_rfl) (hf:Region.free md ops listed i=true:=by kernel_rfl) (hr:(Region.ready md ops listed).contains i=true:=by kernel_rfl)
  (hQ:∀c a w,Q (.panic c) (a.put oi.dst undef) w→Q (.panic c) a w:=by exact fun _ _ _ h=>h) (hS:S w:=by assumption):wpAnyH P md ops Q S (fuel+1) listed a w:=
 wpAnyH_take hi hs hf hr hQ (Or.inr ⟨hw,rfl⟩) hS h
theorem TN (n:Nat) {v:Value} (hi:ops[n-(fuel+1)]? = some oi) (h:wpAnyH P md ops Q S fuel (listed.setIfInBounds (n-(fuel+1)) true) (a.put oi.dst v) w)
  (hv:∀w,S w→(execOp a.eval oi).run P w=.ok (.value v) w:=by intro w h;(try dsimp only at h);first|(go_simp;done)|(go_simp;with_reducible rfl))
  (hw:Region.wanted oi (yielded ops a.tmps)=true:=by rfl) (hs:Region.noSelect ops=true:=by kernel_rfl) (hf:Region.free md ops listed (n-(fuel+1))=true:=by kernel_rfl) (hr:(Region.ready md ops listed).contains (n-(fuel+1))=true:=by kernel_rfl)
  (hQ:∀c a w,Q (.panic c) (a.put oi.dst v) w→Q (.panic c) a w:=by exact fun _ _ _ h=>h) (hS:S w:=by assumption):wpAnyH P md ops Q S (fuel+1) listed a w:=
 wpAnyH_take hi hs hf hr hQ (Or.inl ⟨hw,hv⟩) hS h
theorem TM (n:Nat) (hi:ops[n-(fuel+1)]? = some oi) (h:wpAnyH P md ops Q S fuel (listed.setIfInBounds (n-(fuel+1)) true) (a.put oi.dst undef) w)
  (hw:Region.wanted oi (yielded ops a.tmps)=false:=by rfl) (hs:Region.noSelect ops=true:=by kernel_rfl) (hf:Region.free md ops listed (n-(fuel+1))=true:=by kernel_rfl) (hr:(Region.ready md ops listed).contains (n-(fuel+1))=true:=by kernel_rfl)
  (hQ:∀c a w,Q (.panic c) (a.put oi.dst undef) w→Q (.panic c) a w:=by exact fun _ _ _ h=>h) (hS:S w:=by assumption):wpAnyH P md ops Q S (fuel+1) listed a w:=
 wpAnyH_take hi hs hf hr hQ (Or.inr ⟨hw,rfl⟩) hS h
theorem R1 (i:Nat) (ho:ops[i]? = some oi)
  (h:∀K':Act→World→Prop,Shut (∀a w,S w→(S w→wpAnyH P md ops Q S fuel (listed.setIfInBounds i true) a w)→K' a w)→if Region.wanted oi (yielded ops a.tmps)=true then Oper.wp P oi a w K' Q else K' (a.put oi.dst undef) w)
  (hr:Region.ready md ops listed=[i]:=by kernel_rfl):wpAnyH P md ops Q S (fuel+1) listed a w:=
 wpAnyH_ready hr (by simp) (AllReadyH.cons ho h AllReadyH.nil)
theorem RW (i:Nat) (ho:ops[i]? = some oi)
  (h:∀K':Act→World→Prop,Shut (∀a w,S w→(S w→wpAnyH P md ops Q S fuel (listed.setIfInBounds i true) a w)→K' a w)→Oper.wp P oi a w K' Q)
  (hw:Region.wanted oi (yielded ops a.tmps)=true:=by rfl) (hr:Region.ready md ops listed=[i]:=by kernel_rfl):wpAnyH P md ops Q S (fuel+1) listed a w:=
 R1 i ho (fun K hK=>by rw[if_pos hw];exact h K hK) hr
theorem FU (n:Nat) (hn:ops.size=n) (h:wpAnyH P md ops Q S n listed a w):wpAnyH P md ops Q S ops.size listed a w:=by rw[hn];exact h
end
theorem AP:(∀(a:Act) (d:Tmp) (v:Value),a.put (some d) v = { a with tmps:=a.tmps.setIfInBounds d v })∧(∀(a:Act) (v:Value),a.put none v=a)∧(∀ {α:Type} (l:List α) (i:Nat) (x:α),l.toArray.setIfInBounds i x=(l.set i x).toArray)∧(∀ {α:Type} {x:α} {xs:List α} {a:α},(x::xs).set 0 a=a::xs)∧(∀ {α:Type} {x:α} {xs:List α} {i:Nat} {a:α},(x::xs).set (i+1) a=x::xs.set i a)∧(∀ {α:Type} {xs:List α} {i:Nat} (h:i<xs.toArray.size),xs.toArray[i]=xs[i]'(by simpa using h))∧(∀ {α:Type} (a:α) (l:List α) (i:Nat) (h:i+1<(a::l).length),(a::l)[i+1]=l[i]'(by simpa using h))∧(∀ {α:Type} (a:α) (l:List α) (h:0<(a::l).length),(a::l)[0]=a):=
 ⟨fun _ _ _=>rfl,fun _ _=>rfl,fun l i x=>List.setIfInBounds_toArray l i x,rfl,rfl,fun _=>rfl,fun _ _ _ _=>rfl,fun _ _ _=>rfl⟩
end Go.Proofs.YtggmkofbikafhaaGreatDoor
namespace Go.Proofs.YtggmkofbikafhaaGreatDoor
open Go.RowKit
structure ZE (F:Nat→Prop) (w w':World):Prop where
 os:w'.os=w.os
 tape:w'.tape=w.tape
 output:w'.output=w.output
 size:w.heap.size≤w'.heap.size
 block:∀k,k<w.heap.size→¬F k→w'.heap[k]? = w.heap[k]?
section
variable {F G:Nat→Prop} {a w w1 w2 w':World}
theorem ZE.refl (F:Nat→Prop) (w:World):ZE F w w:=⟨rfl,rfl,rfl,Nat.le_refl _,fun _ _ _=>rfl⟩
theorem ZE.trans (h:ZE F w w1) (k:ZE G w1 w2) (hs:∀i,i<w.heap.size→G i→F i):ZE F w w2:=
 ⟨k.os.trans h.os,k.tape.trans h.tape,k.output.trans h.output,Nat.le_trans h.size k.size,
  fun i hi hF=>(k.block i (Nat.lt_of_lt_of_le hi h.size) (fun hG=>hF (hs i hi hG))).trans (h.block i hi hF)⟩
theorem ZE.mono (h:ZE F w w') (hs:∀i,i<w.heap.size→F i→G i):ZE G w w':=
 ⟨h.os,h.tape,h.output,h.size,fun i hi hG=>h.block i hi (fun hF=>hG (hs i hi hF))⟩
theorem ZE.drew (h:ZE F a w):ZE F a w.drew:=⟨h.os,h.tape,h.output,h.size,h.block⟩
theorem ZE.drewN (h:ZE F a w) (n:Nat):ZE F a (w.drewN n):=⟨h.os,h.tape,h.output,h.size,h.block⟩
theorem ZE.alloc (h:ZE F a w) (o:Obj):ZE F a (w.alloc o):=
 h.trans (G:=fun _=>False) ⟨rfl,rfl,rfl,by simp,fun k hk _=>Below.heap_alloc _ _ _ hk⟩ (fun _ _ h=>h.elim)
theorem ZE.setCell (h:ZE F a w) {p:Addr} (hp:a.heap.size≤p.block∨F p.block) (u:Value):ZE F a (w.setCell p u):=
 h.trans (G:=fun k=>k=p.block) ⟨rfl,rfl,rfl,by simp[World.setCell],fun k _ hne=>Below.heap_setCell _ _ _ _ hne⟩
  (fun i hi e=>by subst e;exact hp.elim (fun h=>absurd hi (by omega)) id)
theorem ZE.grown {row:Option Nat} (h:ZE F a w) (hg:w.grownBy w' row) (hr:∀g,row=some g→a.heap.size≤g∨F g):ZE F a w':=
 h.trans (G:=fun k=>some k=row) ⟨hg.os,hg.tape,hg.output,hg.size,hg.block⟩
  (fun i hi e=>(hr i e.symm).elim (fun h=>absurd hi (by omega)) id)
theorem ZE.below (h:ZE (fun _=>False) w w'):Below w.heap.size w w':=⟨h.os,h.tape,h.output,h.size,fun k hk=>h.block k hk id⟩
theorem ZC (F:Nat→Prop) (h:Below w.heap.size w w'):ZE F w w':=⟨h.os,h.tape,h.output,h.size,fun k hk _=>h.block k hk⟩
theorem ZE.cell (h:ZE F w w') {p:Addr} (hp:p.block<w.heap.size) (hF:¬F p.block):w'.cell? p=w.cell? p:=World.cell?_of_block (h.block _ hp hF)
theorem ZE.frozen (h:ZE F w w') {p:Addr} (hp:p.block<w.heap.size) (hF:¬F p.block):w'.frozen? p=w.frozen? p:=World.frozen?_of_block (h.block _ hp hF)
end
def Blk (w:World) (g:Nat) (t:TypeId) (cs:Array Value):Prop:=w.heap[g]? = some (.cells cs t (0,0))
section
variable {w w':World} {g:Nat} {t:TypeId} {cs:Array Value} {F:Nat→Prop}
theorem Blk.lt (h:Blk w g t cs):g<w.heap.size:=by
 rcases Nat.lt_or_ge g w.heap.size with hlt|hge
 ·exact hlt
 ·unfold Blk at h;rw[Array.getElem?_eq_none hge] at h;cases h
theorem Blk.cell (h:Blk w g t cs) (i:Nat):w.cell? ⟨g,i,none⟩=cs[i]?:=cell_of_row w g i cs t (0,0) h
theorem Blk.frozen (h:Blk w g t cs) (i:Nat):w.frozen? ⟨g,i,none⟩=false:=by
 unfold Blk at h;simp[World.frozen?,h]
theorem Blk.new (w:World) (t:TypeId) (cs:Array Value):Blk (w.alloc (.cells cs t)) w.heap.size t cs:=heap_alloc_new w _
theorem Blk.drew (h:Blk w g t cs):Blk w.drew g t cs:=h
theorem Blk.drewN (h:Blk w g t cs) (n:Nat):Blk (w.drewN n) g t cs:=h
theorem Blk.alloc (h:Blk w g t cs) (o:Obj):Blk (w.alloc o) g t cs:=(Below.heap_alloc w o g h.lt).trans h
theorem Blk.set_ (h:Blk w g t cs) (i:Nat) (u:Value):Blk (w.setCell ⟨g,i,none⟩ u) g t (cs.setIfInBounds i u):=by
 unfold Blk at h ⊢;simp[World.setCell,Array.getElem?_modify,h]
theorem Blk.far (h:Blk w g t cs) {p:Addr} (hp:g≠p.block) (u:Value):Blk (w.setCell p u) g t cs:=(Below.heap_setCell w p u g hp).trans h
theorem Blk.keeps (h:Blk w g t cs) (k:ZE F w w') (hg:¬F g):Blk w' g t cs:=(k.block g h.lt hg).trans h
theorem Blk.below {B:Nat} (h:Blk w g t cs) (hb:Below B w w') (hg:g<B):Blk w' g t cs:=(hb.block g hg).trans h
theorem Blk.grown {row:Option Nat} (h:Blk w g t cs) (hb:w.grownBy w' row) (hg:some g≠row):Blk w' g t cs:=(hb.block g h.lt hg).trans h
theorem Blk.ne_ {g':Nat} {t':TypeId} {cs':Array Value} (h:Blk w g t cs) (h':Blk w g' t' cs') (hne:t≠t'):g≠g':=by
 rintro rfl;unfold Blk at h h';rw[h] at h';injection h' with h'
 injection h' with _ ht
 exact hne ht
theorem Blk.inj {cs':Array Value} {t':TypeId} (h:Blk w g t cs) (h':Blk w g t' cs'):cs=cs':=by
 unfold Blk at h h';rw[h] at h';injection h' with h'
 injection h'
end
theorem ZB {w w':World} {F:Nat→Prop} {base:Nat} {e:TypeId} {size:Nat} {v:Value} {n:Nat} {xs:List Value}
  (h:w.ownsRow base e size v n xs) (k:ZE F w w') (hg:∀g,v.ownBlock=some g→¬F g):w'.ownsRow base e size v n xs:=by
 obtain ⟨h1,h2⟩:=h;refine ⟨h1,?_⟩;rcases h2 with h2|⟨g,cap,cur,hv,hb,hh,r⟩
 ·exact Or.inl h2
 ·exact Or.inr ⟨g,cap,cur,hv,hb,(Blk.keeps (w:=w) (t:=e) hh k (hg g (by rw[hv];rfl))),r⟩
theorem cell_lt {w:World} {a:Addr} {v:Value} (h:w.cell? a=some v):a.block<w.heap.size:=by
 rcases Nat.lt_or_ge a.block w.heap.size with hlt|hge
 ·exact hlt
 ·simp[World.cell?,Array.getElem?_eq_none hge] at h
theorem addr_add (g k j:Nat):(⟨g,k,none⟩:Addr).add j=⟨g,k+j,none⟩:=by unfold Addr.add;split<;>simp_all
theorem ZM {B:Nat} {a w:World} (h:Below B a w) (n:Nat):Below B a (w.drewN n):=⟨h.os,h.tape,h.output,h.size,h.block⟩
theorem ZJ {w:World} {a:Addr} {v:Value} (h:w.cell? a=some v) (o:Obj):(w.alloc o).cell? a=some v:=(World.cell?_alloc_some w a o (by rw[h];rfl)).trans h
theorem ZF {a b:Bool} (h:a=b):Ending.returned (.bool a)=.returned (.bool b):=by rw[h]
theorem ZI {w:World} {B size:Nat} {e:TypeId} {v:Value} {n g:Nat} {xs:List Value} (h:w.ownsRow B e size v n xs) (hg:v.ownBlock=some g):∃cur,Blk w g e cur:=by
 rcases h.2 with ⟨rfl,_⟩|⟨g',cap,cur,rfl,_,hh,_⟩
 ·simp[Value.ownBlock] at hg
 ·have:g'=g:=by simpa[Value.ownBlock] using hg
  subst this;exact ⟨cur,hh⟩
theorem Blk.kind {w:World} {g:Nat} {t t':TypeId} {cs cs':Array Value} (h:Blk w g t cs) (h':Blk w g t' cs'):t=t':=by
 unfold Blk at h h';rw[h] at h';injection h' with h'
 injection h'
theorem ZY {w:World} {n:Nat} (hn:n=w.heap.size) (t:TypeId) (cs:Array Value):Blk (w.alloc (.cells cs t)) n t cs:=by subst hn;exact Blk.new w t cs
theorem ZO {w:World} {B B':Nat} {e:TypeId} {size:Nat} {v:Value} {n:Nat} {xs:List Value} (h:w.ownsRow B e size v n xs) (hb:B'≤B):w.ownsRow B' e size v n xs:=by
 refine ⟨h.1,h.2.imp id ?_⟩;rintro ⟨g,cap,cur,h1,h2,h3⟩;exact ⟨g,cap,cur,h1,Nat.le_trans hb h2,h3⟩
theorem slice_form {w:World} {B:Nat} {e:TypeId} {size:Nat} {v:Value} {n:Nat} {xs:List Value} (h:w.ownsRow B e size v n xs):∃A cap,v=.slice A n cap∧n≤cap∧cap≤maxLen:=by
 rcases h.2 with ⟨rfl,rfl⟩|⟨g,cap,cur,rfl,_,_,h1,h2,_⟩
 ·exact ⟨none,0,rfl,by omega,by decide⟩
 ·exact ⟨_,cap,rfl,h1,h2⟩
theorem ZIA {w:World} {B:Nat} {e:TypeId} {size:Nat} {v:Value} {n:Nat} {xs:List Value} (h:w.ownsRow B e size v n xs) (q:Nat):(w.drewN q).ownsRow B e size v n xs:=h
theorem ZDC {w:World} {B g n cap size:Nat} {e:TypeId} {xs:List Value} (h:w.ownsRow B e size (.slice (some ⟨g,0,none⟩) n cap) n xs) {j:Nat} (hj:j<xs.length) (u:Value) :
  (w.setCell ⟨g,j,none⟩ u).ownsRow B e size (.slice (some ⟨g,0,none⟩) n cap) n (xs.set j u):=by
 rcases h.2 with ⟨h0,_⟩|⟨g',cap',cur,hv,hbs,hh,h1,h2,h3,h4⟩
 ·cases h0
 ·simp only[Value.slice.injEq,Option.some.injEq,Addr.mk.injEq,and_true,true_and] at hv
  obtain ⟨rfl,rfl⟩:=hv;refine ⟨by rw[List.length_set];exact h.1,Or.inr ⟨g,cap,_,rfl,hbs,Blk.set_ (t:=e) hh j u,h1,h2,by simpa using h3,?_⟩⟩;rw[Array.toList_setIfInBounds,List.take_set,h4]
theorem ZEi {w:World} {B g n cap size:Nat} {e:TypeId} {xs:List Value} (h:w.ownsRow B e size (.slice (some ⟨g,0,none⟩) n cap) n xs) {k:Nat} (hk:k≤n) :
  w.ownsRow B e size (.slice (some ⟨g,0,none⟩) k cap) k (xs.take (k*size)):=by
 have hlen:=h.1;rcases h.2 with ⟨h0,_⟩|⟨g',cap',cur,hv,hbs,hh,h1,h2,h3,h4⟩
 ·cases h0
 ·simp only[Value.slice.injEq,Option.some.injEq,Addr.mk.injEq,and_true,true_and] at hv
  obtain ⟨rfl,rfl⟩:=hv;have hle:k*size≤n*size:=Nat.mul_le_mul_right _ hk;refine ⟨by rw[List.length_take];omega,Or.inr ⟨g,cap,cur,rfl,hbs,hh,by omega,h2,h3,?_⟩⟩
  rw[←h4,List.take_take,Nat.min_eq_left hle]
theorem Zc {w:World} {B g n cap size:Nat} {e:TypeId} {xs:List Value} (h:w.ownsRow B e size (.slice (some ⟨g,0,none⟩) n cap) n xs):B≤g∧g<w.heap.size∧n≤cap∧cap≤maxLen∧(∀j u,xs[j]? = some u→w.cell? ⟨g,j,none⟩=some u)∧∀j,w.frozen? ⟨g,j,none⟩=false:=by
 have hh:=h;rcases h.2 with ⟨h0,_⟩|⟨g',cap',cur,hv,hbs,hb,h1,h2,h3,h4⟩
 ·cases h0
 ·simp only[Value.slice.injEq,Option.some.injEq,Addr.mk.injEq,and_true,true_and] at hv
  obtain ⟨rfl,rfl⟩:=hv;refine ⟨hbs,Blk.lt (t:=e) hb,h1,h2,fun j u hj=>?_,fun j=>Blk.frozen (t:=e) hb j⟩;have:=hh.cells (g:=g) rfl j u hj;rwa[addr_add,Nat.zero_add] at this
theorem ZAJ {w:World} {B:Nat} {e:TypeId} {size:Nat} {v:Value} {n:Nat} {xs:List Value} (h:w.ownsRow B e size v n xs) (hn:0<n):∃g cap,v=.slice (some ⟨g,0,none⟩) n cap:=by
 rcases h.2 with ⟨_,h0⟩|⟨g,cap,cur,hv,_⟩
 ·omega
 ·exact ⟨g,cap,hv⟩
theorem ZAZ {α β:Type} (f:α→List β) (c:Nat) (hc:∀x,(f x).length=c):∀l:List α,(l.flatMap f).length=l.length*c
 | []=>by simp
 | x::l=>by rw[List.flatMap_cons,List.length_append,hc,ZAZ f c hc l,List.length_cons,Nat.succ_mul];omega
theorem Zg {α β:Type} (f:α→List β) (c:Nat) (hc:∀x,(f x).length=c):∀(l:List α) (k:Nat) (hk:k<l.length) (j:Nat),j<c→(l.flatMap f)[k*c+j]? = (f l[k])[j]?
 | x::l,0,_,j,hj=>by
  rw[List.flatMap_cons,Nat.zero_mul,Nat.zero_add,List.getElem?_append_left (by rw[hc];exact hj)]
  rfl
 | x::l,k+1,hk,j,hj=>by
  rw[List.flatMap_cons,List.getElem?_append_right (by rw[hc,Nat.succ_mul];omega),hc,show (k+1)*c+j-c=k*c+j by rw[Nat.succ_mul];omega,
   Zg f c hc l k (by simpa using hk) j hj]
  rfl
theorem ZGy {α β:Type} (f:α→List β) (c:Nat) (h0:0<c) (hc:∀x,(f x).length=c) {l:List α} {j:Nat} {u:β} (h:(l.flatMap f)[j]? = some u):∃(i:Nat) (hi:i<l.length) (q:Nat),q<c∧j=i*c+q∧(f l[i])[q]? = some u:=by
 have hl:j<l.length*c:=by
  rcases Nat.lt_or_ge j (l.length*c) with h' | h'
  ·exact h'
  ·rw[List.getElem?_eq_none (by rw[ZAZ f c hc];exact h')] at h;cases h
 have hi:j / c<l.length:=Nat.div_lt_of_lt_mul (by rwa[Nat.mul_comm] at hl);have e:j=j / c*c+j%c:=(Nat.div_add_mod' j c).symm;refine ⟨j / c,hi,j%c,Nat.mod_lt _ h0,e,?_⟩;rw[e,Zg f c hc l (j / c) hi (j%c) (Nat.mod_lt _ h0)] at h;exact h
theorem ZL {P:Program} {w w':World} {ops:Array Oper} {o:Oper} {a:Act} {K:Act→World→Prop} {Q:Exit→Act→World→Prop} {E:Prop} (hgd:o.guard=none) (s x:Operand) (t:TypeId)
  (ho:o.op=.call { callee:=.builtin .append,args:=#[s,x],argTypes:=#[t,t] }) {v u v':Value} (hs:a.eval s=v) (hx:a.eval x=u)
  (hr:(Builtin.append_ #[t,t] o.type #[v,u]).run P w=.ok v' w') (h:K (a.put o.dst v') w'):if Region.wanted o (yielded ops a.tmps)=true then Oper.wp P o a w K Q else E:=by
 have hw:Region.wanted o (yielded ops a.tmps)=true:=by simp[Region.wanted,hgd]
 rw[if_pos hw];unfold Oper.wp execOp;simp only[ho,resolve,invoke,builtin,Sem.run_bind,Sem.run_pure,Result.andThen_ok,List.map_toArray,List.map_cons,List.map_nil,hs,hx,hr];exact h
def RowOf (W:World) (v:Value) (n:Nat) (xs:List Value):Prop:=∃A cap,v=.slice A n cap∧n≤cap∧cap≤maxLen∧(0<n→∃g off,A=some ⟨g,off,none⟩∧g<W.heap.size∧∀j u,xs[j]? = some u→W.cell? ⟨g,off+j,none⟩=some u)
theorem RowOf.below {W W':World} {v:Value} {n:Nat} {xs:List Value} (h:RowOf W v n xs) (hb:Below W.heap.size W W'):RowOf W' v n xs:=by
 obtain ⟨A,cap,h1,h2,h3,h4⟩:=h;refine ⟨A,cap,h1,h2,h3,fun hn=>?_⟩;obtain ⟨g,off,e,hg,hc⟩:=h4 hn;exact ⟨g,off,e,Nat.lt_of_lt_of_le hg hb.size,fun j u hj=>(hb.cell (p:=⟨g,off+j,none⟩) hg).trans (hc j u hj)⟩
theorem RowOf.lo {W W':World} {B:Nat} {v:Value} {n:Nat} {xs:List Value} (h:RowOf W v n xs) (hB:W.heap.size≤B) (hb:Below B W W') (hs:W.heap.size≤W'.heap.size):RowOf W' v n xs:=by
 obtain ⟨A,cap,h1,h2,h3,h4⟩:=h;refine ⟨A,cap,h1,h2,h3,fun hn=>?_⟩;obtain ⟨g,off,e,hg,hc⟩:=h4 hn;exact ⟨g,off,e,Nat.lt_of_lt_of_le hg hs,fun j u hj=>(World.cell?_of_block (a:=⟨g,off+j,none⟩) (hb.block g (Nat.lt_of_lt_of_le hg hB))).trans (hc j u hj)⟩
theorem RowOf.keeps {W W':World} {F:Nat→Prop} {v:Value} {n:Nat} {xs:List Value} (h:RowOf W v n xs) (hk:ZE F W W') (hF:∀g,v.ownBlock=some g→¬F g):RowOf W' v n xs:=by
 obtain ⟨A,cap,h1,h2,h3,h4⟩:=h;refine ⟨A,cap,h1,h2,h3,fun hn=>?_⟩;obtain ⟨g,off,e,hg,hc⟩:=h4 hn;refine ⟨g,off,e,Nat.lt_of_lt_of_le hg hk.size,fun j u hj=>(hk.cell (p:=⟨g,off+j,none⟩) hg (hF g ?_)).trans (hc j u hj)⟩;rw[h1,e];rfl
theorem RowOf.own {W:World} {B size:Nat} {e:TypeId} {v:Value} {n:Nat} {xs:List Value} (h:W.ownsRow B e size v n xs):RowOf W v n xs:=by
 rcases h.2 with ⟨rfl,rfl⟩|⟨g,cap,cur,hv,_⟩
 ·exact ⟨none,0,rfl,by omega,by decide,fun h=>by omega⟩
 ·subst hv
  obtain ⟨_,h2,h3,h4,h5,_⟩:=Zc h;exact ⟨_,cap,rfl,h3,h4,fun _=>⟨g,0,rfl,h2,fun j u hj=>by rw[Nat.zero_add];exact h5 j u hj⟩⟩
structure ZHl (t e:TypeId) (size bytes:Nat):Prop where
 u:Tryz.prog.underlying t=some (.slice e)
 i:∃(i:TypeInfo) (z:Value),Tryz.prog.info? e=some i∧i.zero=some z∧i.size=size∧i.bytes=bytes∧z.cells.size=size
 p:0<size
theorem ZAy {t e:TypeId} {size bytes:Nat} {z:Value} (u:Tryz.prog.underlying t=some (.slice e)) (h:(Tryz.prog.info? e).map (fun i=>(i.zero,i.size,i.bytes))=some (some z,size,bytes)) (hz:z.cells.size=size) (p:0<size):ZHl t e size bytes:=by
 obtain ⟨i,hi,hz0,hz1,hz2⟩:=info_parts h;exact ⟨u,⟨i,z,hi,hz0,hz1,hz2,hz⟩,p⟩
theorem append_nil {t e:TypeId} {size bytes:Nat} (F:ZHl t e size bytes) (ty:TypeId) (w:World) (A:Option Addr) (n cap c:Nat) (hn:n≤cap) (hm:cap≤maxLen):(Builtin.append_ #[t,t] ty #[.slice A n cap,.slice none 0 c]).run Tryz.prog w=.ok (.slice A n cap) w:=by
 obtain ⟨i,z,hi,hz,hs,hb,_⟩:=F.i;unfold maxLen at hm
 cases A with
 | none=>
  simp[Builtin.append_,run_underlying F.u,sizeOf,typeInfo,hi,Builtin.lenOf,Builtin.firstCells,storeCells];intro h;omega
 | some a=>simp[Builtin.append_,run_underlying F.u,sizeOf,typeInfo,hi,Builtin.lenOf,Builtin.firstCells,storeCells,hn]
theorem app_any {t e:TypeId} {size bytes:Nat} (F:ZHl t e size bytes) (ty:TypeId) {w:World} {B n m:Nat} {v u:Value} {xs ys:List Value} (hown:w.ownsRow B e size v n xs) (hu:RowOf w u m ys) (hl:ys.length=m*size) (h1:∀y∈ys,y.oneCell'=true) (h63:n+m≤maxLen) (hbytes:(n+m)*bytes≤140737488355328) (hB:B≤w.heap.size) :
  ∃v' w',(Builtin.append_ #[t,t] ty #[v,u]).run Tryz.prog w=.ok v' w'∧w'.ownsRow B e size v' (n+m) (xs++ys)∧w.grownBy w' v.ownBlock∧(v'.ownBlock=v.ownBlock∨v'.ownBlock=some w.heap.size):=by
 obtain ⟨A,cap,rfl,k1,k2,k3⟩:=hu;obtain ⟨i,z,hi,hz,hs,hb,hc⟩:=F.i
 cases A with
 | none=>
  have hm:m=0:=by
   rcases Nat.eq_zero_or_pos m with h|h
   ·exact h
   ·obtain ⟨g,off,e,_⟩:=k3 h
    cases e
  subst hm;obtain rfl:ys=[]:=List.eq_nil_of_length_eq_zero (by omega);obtain ⟨Av,cv,rfl,c1,c2⟩:=slice_form hown;refine ⟨_,w,append_nil F ty w Av n cv cap c1 c2,by simpa using hown,⟨rfl,rfl,rfl,Nat.le_refl _,fun _ _ _=>rfl⟩,Or.inl rfl⟩
 | some a=>
  have hcell:∀j u,ys[j]? = some u→w.cell? (a.add j)=some u:=fun j u hj=>by
   have hm:0<m:=by
    rcases Nat.eq_zero_or_pos m with h|h
    ·subst h
     rw[List.getElem?_eq_none (by omega)] at hj
     cases hj
    ·exact h
   obtain ⟨g,off,e,_,hcc⟩:=k3 hm
   cases e
   rw[addr_add];exact hcc j u hj
  obtain ⟨v',w',r1,r2,r3,_,r5⟩:=run_append_own_at (P:=Tryz.prog) (w:=w) B t ty e i z size bytes F.u hi hz hs hb hc F.p v n xs hown a m cap ys hl hcell h1 h63 hbytes hB;exact ⟨v',w',r1,r2,r3,r5⟩
theorem ZK {P:Program} {w w':World} {ops:Array Oper} {rest:List Oper} {o:Oper} {a:Act} {Q:Exit→Act→World→Prop} (hgd:o.guard=none) (s x:Operand) (t:TypeId)
  (ho:o.op=.call { callee:=.builtin .append,args:=#[s,x],argTypes:=#[t,t] }) {v u v':Value} (hs:a.eval s=v) (hx:a.eval x=u)
  (hr:(Builtin.append_ #[t,t] o.type #[v,u]).run P w=.ok v' w') (h:wpList P ops Q rest (a.put o.dst v') w'):wpList P ops Q (o::rest) a w:=
 wpList_plain hgd fun K hK=>by
  unfold Oper.wp execOp;simp only[ho,resolve,invoke,builtin,Sem.run_bind,Sem.run_pure,Result.andThen_ok,List.map_toArray,List.map_cons,List.map_nil,hs,hx,hr];exact hK _ _ h
theorem ZAT {w:World} (t:TypeId) (size:Nat):(w.alloc (.cells #[] t)).ownsRow w.heap.size t size (.slice (some ⟨w.heap.size,0,none⟩) 0 0) 0 []:=
 ⟨by simp,Or.inr ⟨w.heap.size,0,#[],rfl,Nat.le_refl _,heap_alloc_new w _,Nat.le_refl _,Nat.zero_le _,by simp,by simp⟩⟩
theorem RowOf.alloc {W:World} {v:Value} {n:Nat} {xs:List Value} (h:RowOf W v n xs) (o:Obj):RowOf (W.alloc o) v n xs:=h.below ((Below.refl _ _).alloc (Nat.le_refl _) o)
theorem ZE.toBelow {F:Nat→Prop} {w w':World} {B:Nat} (h:ZE F w w') (hB:B≤w.heap.size) (hF:∀k,k<B→¬F k):Below B w w':=
 ⟨h.os,h.tape,h.output,h.size,fun k hk=>h.block k (by omega) (hF k hk)⟩
theorem ZA {B B':Nat} {w w':World} (h:Below B w w') (hB:B'≤B):Below B' w w':=⟨h.os,h.tape,h.output,h.size,fun k hk=>h.block k (by omega)⟩
theorem eq_of_toList {a b:ByteArray} (h:a.toList=b.toList):a=b:=by
 rw[Lib.toList_data,Lib.toList_data] at h
 apply ByteArray.ext
 exact Array.toList_inj.1 h
def iv (n:Int):Value:=.int .i64 n
def Ints (W:World) (v:Value) (l:List Int):Prop:=RowOf W v l.length (l.map iv)
structure Op where
 k:Int
 d:Int
 a:Int
 b:Int
 im:Int
 tx:ByteArray
 ar:List Int
structure Ex where
 k:Int
 a:Int
 d:Int
 t:Int
 e:Int
structure Bl where
 os:List Op
 x:Ex
structure Sl where
 sz:Int
 al:Int
 vo:Bool
structure Fn where
 nm:ByteArray
 ps:Int
 rs:Int
 sl:List Sl
 bl:List Bl
def opc (p:Op×Value):List Value:=[.int .i64 p.1.k,.int .i64 p.1.d,.int .i64 p.1.a,.int .i64 p.1.b,.int .i64 p.1.im,.string p.1.tx,p.2]
def blc (p:Bl×Value):List Value:=[p.2,.int .i64 p.1.x.k,.int .i64 p.1.x.a,.int .i64 p.1.x.d,.int .i64 p.1.x.t,.int .i64 p.1.x.e]
def slc (s:Sl):List Value:=[.int .i64 s.sz,.int .i64 s.al,.bool s.vo]
def ZCJ (W:World) (v:Value) (os:List Op):Prop:=
 ∃vs:List Value,vs.length=os.length∧RowOf W v os.length ((os.zip vs).flatMap opc)∧∀i (h:i<os.length) (h2:i<vs.length),Ints W vs[i] os[i].ar
def ZAV (W:World) (v:Value) (bs:List Bl):Prop:=
 ∃vs:List Value,vs.length=bs.length∧RowOf W v bs.length ((bs.zip vs).flatMap blc)∧∀i (h:i<bs.length) (h2:i<vs.length),ZCJ W vs[i] bs[i].os
def ZGA (W:World) (v:Value) (ss:List Sl):Prop:=RowOf W v ss.length (ss.flatMap slc)
theorem Ints.below {W W':World} {v:Value} {l:List Int} (h:Ints W v l) (hb:Below W.heap.size W W'):Ints W' v l:=RowOf.below h hb
theorem ZCJ.below {W W':World} {v:Value} {os:List Op} (h:ZCJ W v os) (hb:Below W.heap.size W W'):ZCJ W' v os:=by
 obtain ⟨vs,h1,h2,h3⟩:=h;exact ⟨vs,h1,h2.below hb,fun i a b=>(h3 i a b).below hb⟩
theorem ZAV.below {W W':World} {v:Value} {bs:List Bl} (h:ZAV W v bs) (hb:Below W.heap.size W W'):ZAV W' v bs:=by
 obtain ⟨vs,h1,h2,h3⟩:=h;exact ⟨vs,h1,h2.below hb,fun i a b=>(h3 i a b).below hb⟩
theorem ZGA.below {W W':World} {v:Value} {ss:List Sl} (h:ZGA W v ss) (hb:Below W.heap.size W W'):ZGA W' v ss:=RowOf.below h hb
theorem Ints.keeps {W W':World} {F:Nat→Prop} {v:Value} {l:List Int} (h:Ints W v l) (hk:ZE F W W') (hF:∀g,v.ownBlock=some g→¬F g):Ints W' v l:=RowOf.keeps h hk hF
theorem RowOf.open_ {W:World} {v:Value} {n:Nat} {xs:List Value} (h:RowOf W v n xs) (hn:0<n):∃g off cap,v=.slice (some ⟨g,off,none⟩) n cap∧n≤cap∧cap≤maxLen∧g<W.heap.size∧∀j u,xs[j]? = some u→W.cell? ⟨g,off+j,none⟩=some u:=by
 obtain ⟨A,cap,h1,h2,h3,h4⟩:=h;obtain ⟨g,off,e,hg,hc⟩:=h4 hn;exact ⟨g,off,cap,by rw[h1,e],h2,h3,hg,hc⟩
theorem RowOf.form {W:World} {v:Value} {n:Nat} {xs:List Value} (h:RowOf W v n xs):∃A cap,v=.slice A n cap∧n≤cap∧cap≤maxLen:=by
 obtain ⟨A,cap,h1,h2,h3,_⟩:=h;exact ⟨A,cap,h1,h2,h3⟩
theorem Ints.open_ {W:World} {v:Value} {l:List Int} (h:Ints W v l) (hn:0<l.length):∃g off cap,v=.slice (some ⟨g,off,none⟩) l.length cap∧l.length≤cap∧cap≤maxLen∧g<W.heap.size∧∀i (h:i<l.length),W.cell? ⟨g,off+i,none⟩=some (.int .i64 l[i]):=by
 obtain ⟨g,off,cap,e,h2,h3,h4,h5⟩:=RowOf.open_ h hn;exact ⟨g,off,cap,e,h2,h3,h4,fun i hi=>h5 i _ (by rw[List.getElem?_map,List.getElem?_eq_getElem hi];rfl)⟩
theorem ZHA {α:Type} (f:α×Value→List Value) (c:Nat) (hf:∀x,(f x).length=c) (l:List α) (vs:List Value) (hl:vs.length=l.length) (i:Nat) (hi:i<l.length) (j:Nat) (hj:j<c) :
  ((l.zip vs).flatMap f)[i*c+j]? = (f (l[i],vs[i]'(by omega)))[j]?:=by
 rw[Zg f c hf (l.zip vs) i (by rw[List.length_zip];omega) j hj,List.getElem_zip]
structure ZFJ (W:World) (g o:Nat) (x:Op) (av:Value):Prop where
 c0:W.cell? ⟨g,o,none⟩=some (.int .i64 x.k)
 c1:W.cell? ⟨g,o+1,none⟩=some (.int .i64 x.d)
 c2:W.cell? ⟨g,o+2,none⟩=some (.int .i64 x.a)
 c3:W.cell? ⟨g,o+3,none⟩=some (.int .i64 x.b)
 c4:W.cell? ⟨g,o+4,none⟩=some (.int .i64 x.im)
 c5:W.cell? ⟨g,o+5,none⟩=some (.string x.tx)
 c6:W.cell? ⟨g,o+6,none⟩=some av
 ar:Ints W av x.ar
structure ZCc (W:World) (g o:Nat) (x:Bl) (ov:Value):Prop where
 c0:W.cell? ⟨g,o,none⟩=some ov
 c1:W.cell? ⟨g,o+1,none⟩=some (.int .i64 x.x.k)
 c2:W.cell? ⟨g,o+2,none⟩=some (.int .i64 x.x.a)
 c3:W.cell? ⟨g,o+3,none⟩=some (.int .i64 x.x.d)
 c4:W.cell? ⟨g,o+4,none⟩=some (.int .i64 x.x.t)
 c5:W.cell? ⟨g,o+5,none⟩=some (.int .i64 x.x.e)
 os:ZCJ W ov x.os
structure ZFF (W:World) (g o:Nat) (x:Sl):Prop where
 c0:W.cell? ⟨g,o,none⟩=some (.int .i64 x.sz)
 c1:W.cell? ⟨g,o+1,none⟩=some (.int .i64 x.al)
 c2:W.cell? ⟨g,o+2,none⟩=some (.bool x.vo)
theorem ZCJ.open_ {W:World} {v:Value} {os:List Op} (h:ZCJ W v os) (hn:0<os.length):∃g off cap,v=.slice (some ⟨g,off,none⟩) os.length cap∧os.length≤cap∧cap≤maxLen∧g<W.heap.size∧∀i (h:i<os.length),∃av,ZFJ W g (off+i*7) os[i] av:=by
 obtain ⟨vs,h1,h2,h3⟩:=h;obtain ⟨g,off,cap,e,h4,h5,h6,h7⟩:=h2.open_ hn;refine ⟨g,off,cap,e,h4,h5,h6,fun i hi=>⟨vs[i]'(by omega),?_⟩⟩;have hz:=fun j (hj:j<7)=>ZHA opc 7 (fun _=>rfl) os vs h1 i hi j hj;have hc:∀j (hj:j<7) u,(opc (os[i],vs[i]'(by omega)))[j]? = some u→W.cell? ⟨g,off+i*7+j,none⟩=some u:=fun j hj u hu=>by
  rw[Nat.add_assoc];exact h7 _ u (by rw[hz j hj];exact hu)
 exact ⟨hc 0 (by decide) _ rfl,hc 1 (by decide) _ rfl,hc 2 (by decide) _ rfl,hc 3 (by decide) _ rfl,hc 4 (by decide) _ rfl,hc 5 (by decide) _ rfl,hc 6 (by decide) _ rfl,h3 i hi (by omega)⟩
theorem ZAV.open_ {W:World} {v:Value} {bs:List Bl} (h:ZAV W v bs) (hn:0<bs.length):∃g off cap,v=.slice (some ⟨g,off,none⟩) bs.length cap∧bs.length≤cap∧cap≤maxLen∧g<W.heap.size∧∀i (h:i<bs.length),∃ov,ZCc W g (off+i*6) bs[i] ov:=by
 obtain ⟨vs,h1,h2,h3⟩:=h;obtain ⟨g,off,cap,e,h4,h5,h6,h7⟩:=h2.open_ hn;refine ⟨g,off,cap,e,h4,h5,h6,fun i hi=>⟨vs[i]'(by omega),?_⟩⟩;have hz:=fun j (hj:j<6)=>ZHA blc 6 (fun _=>rfl) bs vs h1 i hi j hj;have hc:∀j (hj:j<6) u,(blc (bs[i],vs[i]'(by omega)))[j]? = some u→W.cell? ⟨g,off+i*6+j,none⟩=some u:=fun j hj u hu=>by
  rw[Nat.add_assoc];exact h7 _ u (by rw[hz j hj];exact hu)
 exact ⟨hc 0 (by decide) _ rfl,hc 1 (by decide) _ rfl,hc 2 (by decide) _ rfl,hc 3 (by decide) _ rfl,hc 4 (by decide) _ rfl,hc 5 (by decide) _ rfl,h3 i hi (by omega)⟩
theorem ZGA.open_ {W:World} {v:Value} {ss:List Sl} (h:ZGA W v ss) (hn:0<ss.length):∃g off cap,v=.slice (some ⟨g,off,none⟩) ss.length cap∧ss.length≤cap∧cap≤maxLen∧g<W.heap.size∧∀i (h:i<ss.length),ZFF W g (off+i*3) ss[i]:=by
 obtain ⟨g,off,cap,e,h4,h5,h6,h7⟩:=RowOf.open_ h hn;refine ⟨g,off,cap,e,h4,h5,h6,fun i hi=>?_⟩;have hc:∀j (hj:j<3) u,(slc ss[i])[j]? = some u→W.cell? ⟨g,off+i*3+j,none⟩=some u:=fun j hj u hu=>by
  rw[Nat.add_assoc];exact h7 _ u (by rw[Zg slc 3 (fun _=>rfl) ss i hi j hj];exact hu)
 exact ⟨hc 0 (by decide) _ rfl,hc 1 (by decide) _ rfl,hc 2 (by decide) _ rfl⟩
theorem ZFJ.below {W W':World} {g o:Nat} {x:Op} {av:Value} (h:ZFJ W g o x av) (hb:Below W.heap.size W W') (hg:g<W.heap.size):ZFJ W' g o x av:=by
 have q:=fun i=>hb.cell (p:=⟨g,i,none⟩) hg;exact ⟨(q _).trans h.c0,(q _).trans h.c1,(q _).trans h.c2,(q _).trans h.c3,(q _).trans h.c4,(q _).trans h.c5,(q _).trans h.c6,h.ar.below hb⟩
theorem ZCc.below {W W':World} {g o:Nat} {x:Bl} {ov:Value} (h:ZCc W g o x ov) (hb:Below W.heap.size W W') (hg:g<W.heap.size):ZCc W' g o x ov:=by
 have q:=fun i=>hb.cell (p:=⟨g,i,none⟩) hg;exact ⟨(q _).trans h.c0,(q _).trans h.c1,(q _).trans h.c2,(q _).trans h.c3,(q _).trans h.c4,(q _).trans h.c5,h.os.below hb⟩
theorem ZFF.below {W W':World} {g o:Nat} {x:Sl} (h:ZFF W g o x) (hb:Below W.heap.size W W') (hg:g<W.heap.size):ZFF W' g o x:=by
 have q:=fun i=>hb.cell (p:=⟨g,i,none⟩) hg;exact ⟨(q _).trans h.c0,(q _).trans h.c1,(q _).trans h.c2⟩
end Go.Proofs.YtggmkofbikafhaaGreatDoor
