/- Walks and plain laws on the way to FramePrologue (MR15). Conditions: those that each theorem states. -/
import Derived.Test.YtggmkofbikafhaaGreatDoorMR14
set_option linter.unusedVariables false
set_option linter.unusedSimpArgs false
set_option maxRecDepth 100000
set_option maxHeartbeats 40000000
namespace Go.Proofs.YtggmkofbikafhaaGreatDoor
open Go.RowKit
theorem ZKB:(Tryz.prog.info? 42).map (fun i=>(i.zero,i.size,i.bytes))=some (some (.agg #[.string ⟨#[]⟩,.int .i64 0,.int .i64 0,.bool false,.bool false]),5,40):=by kernel_rfl
theorem info33f:(Tryz.prog.info? 32).map (fun i=>(i.zero,i.size,i.bytes))=some (some (.slice none 0 0),1,24):=by kernel_rfl
theorem ZHH (rs:List Rng):(rs.flatMap Rng.cells).length=rs.length*5:=by
 induction rs with
 | nil=>rfl
 | cons r rs ih=>rw[List.flatMap_cons,List.length_append,ih,List.length_cons];simp[Rng.cells];omega
theorem rng_oneM (rs:List Rng):∀u∈rs.flatMap Rng.cells,u.oneCell'=true:=by
 intro u hu;obtain ⟨r,_,hu⟩:=List.mem_flatMap.1 hu;simp[Rng.cells] at hu;rcases hu with rfl|rfl|rfl|rfl|rfl<;>rfl
theorem rng_at {rs:List Rng} {j:Nat} {u:Value} (h:(rs.flatMap Rng.cells)[j]? = some u):∃(i:Nat) (hi:i<rs.length) (q:Nat),j=i*5+q∧(ZAM rs[i])[q]? = some u:=by
 have hl:j<rs.length*5:=by
  rcases Nat.lt_or_ge j (rs.length*5) with h' | h'
  ·exact h'
  ·rw[List.getElem?_eq_none (by rw[ZHH];exact h')] at h;cases h
 have hi:j / 5<rs.length:=by omega
 refine ⟨j / 5,hi,j%5,by omega,?_⟩;have e:j=j / 5*5+j%5:=by omega
 rw[e,Zg Rng.cells 5 (fun _=>rfl) rs (j / 5) hi (j%5) (by omega)] at h
 simpa[ZAM,Rng.cells] using h
theorem rng_cell {w:World} {g off:Nat} {rs:List Rng} (h:ZCn w g off rs):∀j u,(rs.flatMap Rng.cells)[j]? = some u→w.cell? ((⟨g,off,none⟩:Addr).add j)=some u:=by
 intro j u hj;obtain ⟨i,hi,q,rfl,hq⟩:=rng_at hj;rw[addr_add,←Nat.add_assoc];exact h i hi q u hq
theorem ZFC (w:World) (g c:Nat):(Builtin.append_ #[43,43] 43 #[.slice (some ⟨g,0,none⟩) 0 0,.slice none 0 c]).run Tryz.prog w=.ok (.slice (some ⟨g,0,none⟩) 0 0) w:=by
 obtain ⟨i0,hi,hz0,hz1,hz2⟩:=info_parts ZKB;simp[Builtin.append_,run_underlying Tryz.underlying43,sizeOf,typeInfo,hi,Builtin.lenOf,Builtin.firstCells,storeCells]
theorem ZGz {w:World} {v:Value} {rs:List Rng} (h:ZBn w v rs) (hl:rs.length*40≤140737488351232) :
  ∃A cap w2,(Builtin.append_ #[43,43] 43 #[.slice (some ⟨w.heap.size,0,none⟩) 0 0,v]).run Tryz.prog (w.alloc (.cells #[] 42))=.ok (.slice A rs.length cap) w2∧rs.length≤cap∧cap≤maxLen∧
   w2.ownsRow w.heap.size 42 5 (.slice A rs.length cap) rs.length (rs.flatMap Rng.cells)∧Below w.heap.size w w2:=by
 obtain ⟨A,cap,rfl,h1,h2,h3,h4⟩:=h;have hown:(w.alloc (.cells #[] 42)).ownsRow w.heap.size 42 5 (.slice (some ⟨w.heap.size,0,none⟩) 0 0) 0 []:=
  ⟨rfl,Or.inr ⟨w.heap.size,0,#[],rfl,Nat.le_refl _,heap_alloc_new w _,Nat.le_refl _,Nat.zero_le _,rfl,rfl⟩⟩
 cases A with
 | none=>
  obtain rfl:rs=[]:=by
   by_cases hx:rs=[]
   ·exact hx
   ·obtain ⟨b,off,e,_⟩:=h4 hx
    cases e
  exact ⟨_,_,_,ZFC (w.alloc (.cells #[] 42)) w.heap.size cap,Nat.le_refl _,by decide,hown,(Below.refl _ _).alloc (Nat.le_refl _) _⟩
 | some ad=>
  obtain ⟨i0,hi,hz0,hz1,hz2⟩:=info_parts ZKB;have hc:∀j u,(rs.flatMap Rng.cells)[j]? = some u→w.cell? (ad.add j)=some u:=fun j u hj=>by
   have hne:rs≠[]:=by rintro rfl;simp at hj
   obtain ⟨b,off,e,_,hcc⟩:=h4 hne
   cases e
   exact rng_cell hcc j u hj
  obtain ⟨v',w2,hap,ho,hg,hnil⟩:=run_append_own (P:=Tryz.prog) (w.alloc (.cells #[] 42)) w.heap.size 43 43 42 i0 (.agg #[.string ⟨#[]⟩,.int .i64 0,.int .i64 0,.bool false,.bool false]) 5 40 Tryz.underlying43 hi hz0 hz1 hz2 rfl (by decide) _ 0 [] hown ad rs.length cap (rs.flatMap Rng.cells) (ZHH rs)
   (fun j u hj=>by have:=hc j u hj;rw[World.cell?_alloc_lt _ _ _ (cell_lt this)];exact this) (rng_oneM rs) (by unfold maxLen;omega) (by omega) (by simp)
  rw[Nat.zero_add,List.nil_append] at ho;have hbel:Below w.heap.size w w2:=((Below.refl _ _).alloc (Nat.le_refl _) _).grown hg (by simp) (fun k hk=>by simp[Value.ownBlock] at hk;omega);obtain ⟨A',cap',rfl,hc1,hc2⟩:=slice_form ho;exact ⟨A',cap',w2,hap,hc1,hc2,ho,hbel⟩
theorem ZGe (A:Option Addr) (n cap:Nat) (rs:List Rng) (w:World) (hn:16<n) (hcap:n≤cap) (hmax:cap≤maxLen) (hr:rs.length=n) :
  Calls Tryz.prog 76 #[.slice A n cap] w fun e w'=>e=.returned (.int .i64 (ZAU rs))∧Below w.heap.size w w':=by
 have hc:ZAU rs=3:=by unfold ZAU;rw[if_pos (by omega)]
 have HC:=Zh hc;clear hc hr;unfold maxLen at hmax;go_enter Tryz.func76,Tryz.ntmps76
 go_wp2_with fail
 go_ret;exact ⟨by rw[HC.out];rfl,Below.refl _ _⟩
theorem ZGd (A:Option Addr) (cap:Nat) (w:World):Calls Tryz.prog 76 #[.slice A 0 cap] w fun e w'=>e=.returned (.int .i64 (ZAU []))∧Below w.heap.size w w':=by
 have hc:ZAU []=0:=rfl;have HC:=Zh hc;clear hc;go_enter Tryz.func76,Tryz.ntmps76
 go_wp2_with fail
 refine wp_loop_rounds 1 ?_;rw[rounds_succ];go_wp2_with fail
 go_ret;exact ⟨rfl,Below.refl _ _⟩
theorem ZBs (v:Value) (rs:List Rng) (w:World) (h:ZBn w v rs):Calls Tryz.prog 76 #[v] w fun e w'=>e=.returned (.int .i64 (ZAU rs))∧Below w.heap.size w w':=by
 obtain ⟨A,cap,rfl,h1,h2,h3,h4⟩:=h
 by_cases hne:rs=[]
 ·subst hne;exact ZGd A cap w
 ·by_cases hl:16<rs.length
  ·exact ZGe A rs.length cap rs w hl h1 h2 rfl
  ·obtain ⟨g,off,rfl,hg,hc⟩:=h4 hne
   exact ZGc g off cap rs w (by omega) h1 h2 hg hc h3
def ZDA (wr:World) (z:Nat):World:=(wr.drew.alloc (.cells (madeCells #[.int .u8 0] z) 5)).alloc (.cells #[.slice (some ⟨wr.heap.size,0,none⟩) z z] 32)
def ZCo (wr:World) (z:Nat):Value:=.slice (some ⟨wr.heap.size,0,none⟩) z z
theorem ZGh (wr:World) (z:Nat):Below wr.heap.size wr (ZDA wr z):=(((Below.refl _ wr).drew).alloc (Nat.le_refl _) _).alloc (by simp) _
theorem ZJd (wr:World) (z:Nat):Blk (ZDA wr z) wr.heap.size 5 (madeCells #[.int .u8 0] z):=(ZY (w:=wr.drew) rfl 5 _).alloc _
theorem ZH8 (wr:World) (z:Nat):(ZDA wr z).heap.size=wr.heap.size+2:=by unfold ZDA;simp
theorem ZF5 {w:World} {g z:Nat} (h:Blk w g 5 (madeCells #[.int .u8 0] z)) (hz:z≤16777216):ZCM w (.slice (some ⟨g,0,none⟩) z z) (List.replicate z 0):=by
 refine ⟨_,z,by rw[List.length_replicate],by rw[List.length_replicate];exact Nat.le_refl _,by unfold maxLen;omega,fun _=>⟨_,_,rfl,h,?_,?_⟩⟩
 ·rw[←Array.length_toList,ZFj,List.length_replicate]
 ·rw[ZFj,List.length_replicate,List.take_of_length_le (by simp),List.map_replicate]
theorem push33 {wr:World} {B n z:Nat} {v:Value} {xs:List Value} (ho:wr.ownsRow B 32 1 v n xs) (hB:B≤wr.heap.size) (hn:n≤16) :
  ∃g cap w2,(Builtin.append_ #[107,107] 107 #[v,.slice (some ⟨wr.heap.size+1,0,none⟩) 1 1]).run Tryz.prog (ZDA wr z)=.ok (.slice (some ⟨g,0,none⟩) (n+1) cap) w2∧
   w2.ownsRow B 32 1 (.slice (some ⟨g,0,none⟩) (n+1) cap) (n+1) (xs++[ZCo wr z])∧ZE (fun k=>v.ownBlock=some k) wr w2∧(v.ownBlock=some g∨wr.heap.size≤g)∧Blk w2 wr.heap.size 5 (madeCells #[.int .u8 0] z):=by
 obtain ⟨i0,hi,hz0,hz1,hz2⟩:=info_parts info33f;have hX:=ZGh wr z;have hox:(ZDA wr z).ownsRow B 32 1 v n xs:=ZB ho (ZC (fun _=>False) hX) (fun _ _ e=>e);have hs:=ZH8 wr z;obtain ⟨v',w2,hap,ho2,hg,hnil,hat⟩:=run_append_own_at (P:=Tryz.prog) (w:=ZDA wr z) B 107 107 32 i0 (.slice none 0 0) 1 24 Tryz.underlying107 hi hz0 hz1 hz2 rfl (by decide) v n xs hox ⟨wr.heap.size+1,0,none⟩ 1 1 [ZCo wr z] rfl
  (fun j u hj=>by
   have hb:Blk (ZDA wr z) (wr.heap.size+1) 32 #[ZCo wr z]:=ZY (by simp) 32 _;rw[addr_add,Nat.zero_add,hb.cell]
   simpa using hj) (fun u hu=>by simp at hu;subst hu;rfl) (by unfold maxLen;omega) (by omega) (by omega)
 obtain ⟨g,cap,hv'⟩:=ZJH ho2;subst hv';have hk:ZE (fun k=>v.ownBlock=some k) wr w2:=(ZC (fun k=>v.ownBlock=some k) hX).grown hg (fun g e=>Or.inr e);refine ⟨g,cap,w2,hap,ho2,hk,?_,?_⟩
 ·rcases hat with h|h
  ·exact Or.inl (by rw[←h];rfl)
  ·refine Or.inr ?_
   have:g=(ZDA wr z).heap.size:=by simpa[Value.ownBlock] using h
   omega
 ·refine (ZJd wr z).grown hg (fun e=>?_)
  have:=(ho.lt _ e.symm).2;omega
structure ZBh (w:World) (bm:Nat) (rs:List Rng) (lv:Value) (ns:List Area) (ex:List Value) (wr:World):Prop where
 top:∃nv wv,Blk wr bm 122 #[lv,nv,wv]∧wr.ownsRow w.heap.size 42 5 lv rs.length (rs.flatMap Rng.cells)∧wr.ownsRow w.heap.size 32 1 nv (ns.length+ex.length) (ns.map (·.now)++ex)∧wr.ownsRow w.heap.size 32 1 wv ns.length (ns.map (·.was))∧
  ∀g,nv.ownBlock=some g→wv.ownBlock≠some g
 each:∀a∈ns,ZAt wr a
 apart:(rowsOf ns).Nodup
 fresh:Fresh w (rs.take ns.length) ns
 bel:Below w.heap.size w wr
 bmge:w.heap.size≤bm
 pend:∀v∈ex,∃g z,v=.slice (some ⟨g,0,none⟩) z z∧Blk wr g 5 (madeCells #[.int .u8 0] z)∧w.heap.size≤g∧g∉rowsOf ns∧∀r,rs[ns.length]? = some r→r.sz=z
theorem ZBh.row_lt {w wr:World} {bm:Nat} {rs:List Rng} {lv:Value} {ns:List Area} {ex:List Value} (h:ZBh w bm rs lv ns ex wr) {g:Nat} (hg:g∈rowsOf ns):∃cur,Blk wr g 5 cur:=by
 obtain ⟨a,ha,hg⟩:=List.mem_flatMap.1 hg;exact (h.each a ha).row_blk hg
theorem ZH3 {w w2:World} {rs:List Rng} {lv:Value} (ho:w2.ownsRow w.heap.size 42 5 lv rs.length (rs.flatMap Rng.cells)) (hb:Below w.heap.size w w2) :
  ZBh w w2.heap.size rs lv [] [] (w2.alloc (.cells #[lv,.slice none 0 0,.slice none 0 0] 122)) where
 top:=⟨_,_,Blk.new w2 122 _,ZB ho ((ZE.refl (fun _=>False) w2).alloc _) (fun _ _ e=>e),World.ownsRow_nil _ _ _ _,World.ownsRow_nil _ _ _ _,fun g hg=>by simp[Value.ownBlock] at hg⟩
 each:=fun a ha=>by cases ha
 apart:=List.nodup_nil
 fresh:=⟨by simp,(fun a ha=>by cases ha),(fun g hg=>by cases hg)⟩
 bel:=hb.alloc hb.size _
 bmge:=hb.size
 pend:=fun v hv=>by cases hv
theorem ZAt.pushed {wr w2:World} {bm j:Nat} {v v':Value} {cs:Array Value} {n B:Nat} {xs:List Value} {a:Area} (h:ZAt wr a) (hb:Blk wr bm 122 cs) (ho:wr.ownsRow B 32 1 v n xs) (hk:ZE (fun k=>v.ownBlock=some k) wr w2):ZAt (w2.setCell ⟨bm,j,none⟩ v') a:=by
 have hk2:ZE (fun k=>v.ownBlock=some k∨k=bm) wr (w2.setCell ⟨bm,j,none⟩ v'):=(hk.mono (G:=fun k=>v.ownBlock=some k∨k=bm) (fun _ _ e=>Or.inl e)).setCell (p:=⟨bm,j,none⟩) (Or.inr (Or.inr rfl)) v';refine h.keeps hk2 (fun g hg e=>?_);obtain ⟨c,hc⟩:=h.row_blk hg;rcases e with e|rfl
 ·obtain ⟨c2,hc2⟩:=ZI ho e
  exact hc.ne_ hc2 (by decide) rfl
 ·exact hc.ne_ hb (by decide) rfl
theorem ZEF {wr w2:World} {bm j:Nat} {v v':Value} (hk:ZE (fun k=>v.ownBlock=some k) wr w2):ZE (fun k=>v.ownBlock=some k∨k=bm) wr (w2.setCell ⟨bm,j,none⟩ v'):=
 (hk.mono (G:=fun k=>v.ownBlock=some k∨k=bm) (fun _ _ e=>Or.inl e)).setCell (p:=⟨bm,j,none⟩) (Or.inr (Or.inr rfl)) v'
theorem ZBh.now_ {w wr:World} {bm z:Nat} {rs:List Rng} {lv:Value} {ns:List Area} (h:ZBh w bm rs lv ns [] wr) (hk:ns.length≤16) (hz:∀r,rs[ns.length]? = some r→r.sz=z) :
  ∃A0 cap0 g cap w2,wr.cell? ⟨bm,1,none⟩=some (.slice A0 ns.length cap0)∧(Builtin.append_ #[107,107] 107 #[.slice A0 ns.length cap0,.slice (some ⟨wr.heap.size+1,0,none⟩) 1 1]).run Tryz.prog (ZDA wr z)=.ok (.slice (some ⟨g,0,none⟩) (ns.length+1) cap) w2∧
   w2.cell? ⟨bm,1,none⟩=some (.slice A0 ns.length cap0)∧w2.frozen? ⟨bm,1,none⟩=false∧(∀b o,b<w.heap.size→w2.cell? ⟨b,o,none⟩=w.cell? ⟨b,o,none⟩)∧
   ZBh w bm rs lv ns [ZCo wr z] (w2.setCell ⟨bm,1,none⟩ (.slice (some ⟨g,0,none⟩) (ns.length+1) cap)):=by
 obtain ⟨nv,wv,hb,hlr,hn,hw,hd⟩:=h.top;simp only[List.length_nil,Nat.add_zero,List.append_nil] at hn;obtain ⟨A0,cap0,rfl,_⟩:=slice_form hn;obtain ⟨g,cap,w2,hrun,ho2,hk2,hat,hrow⟩:=push33 (z:=z) hn h.bel.size hk;have hkind:∀ {b:Nat} {t:TypeId} {cs:Array Value},Blk wr b t cs→t≠32→¬(Value.slice A0 ns.length cap0).ownBlock=some b:=fun h1 h2 e=>by
  obtain ⟨c,hc⟩:=ZI hn e;exact h1.ne_ hc h2 rfl
 have hb2:Blk w2 bm 122 #[lv,.slice A0 ns.length cap0,wv]:=hb.keeps hk2 (hkind hb (by decide));have hkp:=ZEF (bm:=bm) (j:=1) (v':=.slice (some ⟨g,0,none⟩) (ns.length+1) cap) hk2;have hbelow:∀i,i<w.heap.size→¬(Value.slice A0 ns.length cap0).ownBlock=some i:=fun i hi e=>by have:=(hn.lt i e).1;omega
 refine ⟨A0,cap0,g,cap,w2,by rw[hb.cell];rfl,hrun,by rw[hb2.cell];rfl,hb2.frozen 1,fun b o hbw=>?_,⟨⟨.slice (some ⟨g,0,none⟩) (ns.length+1) cap,wv,?_,?_,?_,?_,?_⟩,fun a ha=>(h.each a ha).pushed hb hn hk2,h.apart,h.fresh,?_,h.bmge,?_⟩⟩
 ·exact (hk2.cell (p:=⟨b,o,none⟩) (Nat.lt_of_lt_of_le hbw h.bel.size) (hbelow b hbw)).trans (h.bel.cell (p:=⟨b,o,none⟩) hbw)
 ·have:=hb2.set_ 1 (.slice (some ⟨g,0,none⟩) (ns.length+1) cap)
  simpa using this
 ·refine ZB hlr hkp (fun g' hg' e=>?_)
  obtain ⟨c,hc⟩:=ZI hlr hg';rcases e with e|rfl
  ·exact hkind hc (by decide) e
  ·exact hc.ne_ hb (by decide) rfl
 ·have h1:=ZB ho2 ((ZE.refl (fun x=>x=bm) w2).setCell (p:=⟨bm,1,none⟩) (Or.inr rfl) (.slice (some ⟨g,0,none⟩) (ns.length+1) cap)) (fun g' hg' e=>by
   subst e;obtain ⟨c,hc⟩:=ZI ho2 hg';exact hc.ne_ hb2 (by decide) rfl)
  simpa using h1
 ·refine ZB hw hkp (fun g' hg' e=>?_)
  rcases e with e|rfl
  ·exact hd g' e hg'
  ·obtain ⟨c,hc⟩:=ZI hw hg'
   exact hc.ne_ hb (by decide) rfl
 ·intro g' hg' e
  have e1:g=g':=by simpa[Value.ownBlock] using hg'
  subst e1;rcases hat with h1|h1
  ·exact hd g h1 e
  ·have:=(hw.lt g e).2
   omega
 ·exact ((ZC (fun _=>False) h.bel).trans hkp (fun i hi e=>by
   rcases e with e|rfl
   ·exact hbelow i hi e
   ·have:=h.bmge;omega)).below
 ·intro v hv
  obtain rfl:v=ZCo wr z:=by simpa using hv
  refine ⟨wr.heap.size,z,rfl,hrow.far (p:=⟨bm,1,none⟩) (by have:=hb.lt;dsimp only;omega) _,h.bel.size,fun hg=>?_,hz⟩;obtain ⟨c,hc⟩:=h.row_lt hg;have:=hc.lt;omega
theorem ZA3 (g z:Nat) (xs:List Int):∀x∈ZZ (.slice (some ⟨g,0,none⟩) z z) xs,x=g:=by
 intro x hx;unfold ZZ at hx
 split at hx
 ·cases hx
 ·simpa[Value.ownBlock] using hx
theorem ZFc (g z:Nat) (xs:List Int):(ZZ (.slice (some ⟨g,0,none⟩) z z) xs).Nodup:=by
 unfold ZZ
 split
 ·exact List.nodup_nil
 ·simp[Value.ownBlock]
theorem ZBh.was_ {w wr:World} {bm z:Nat} {rs:List Rng} {lv v:Value} {ns:List Area} {r:Rng} (h:ZBh w bm rs lv ns [v] wr) (hk:ns.length≤15) (hr:rs[ns.length]? = some r) (hz:r.sz=z) (hok:r.Ok) :
  ∃A0 cap0 g cap w2 ns',wr.cell? ⟨bm,2,none⟩=some (.slice A0 ns.length cap0)∧(Builtin.append_ #[107,107] 107 #[.slice A0 ns.length cap0,.slice (some ⟨wr.heap.size+1,0,none⟩) 1 1]).run Tryz.prog (ZDA wr z)=.ok (.slice (some ⟨g,0,none⟩) (ns.length+1) cap) w2∧
   w2.cell? ⟨bm,2,none⟩=some (.slice A0 ns.length cap0)∧w2.frozen? ⟨bm,2,none⟩=false∧(∀b o,b<w.heap.size→w2.cell? ⟨b,o,none⟩=w.cell? ⟨b,o,none⟩)∧ns'.length=ns.length+1∧
   ZBh w bm rs lv ns' [] (w2.setCell ⟨bm,2,none⟩ (.slice (some ⟨g,0,none⟩) (ns.length+1) cap)):=by
 obtain ⟨nv,wv,hb,hlr,hn,hw,hd⟩:=h.top;simp only[List.length_cons,List.length_nil,Nat.zero_add] at hn;obtain ⟨A0,cap0,rfl,_⟩:=slice_form hw;obtain ⟨g,cap,w2,hrun,ho2,hk2,hat,hrow⟩:=push33 (z:=z) hw h.bel.size (by omega);obtain ⟨gv,z',hv,hbv,hgv1,hgv2,hzz⟩:=h.pend v (by simp);have hz':z'=z:=by have:=hzz r hr;omega
 subst hz';have hkind:∀ {b:Nat} {t:TypeId} {cs:Array Value},Blk wr b t cs→t≠32→¬(Value.slice A0 ns.length cap0).ownBlock=some b:=fun h1 h2 e=>by
  obtain ⟨c,hc⟩:=ZI hw e;exact h1.ne_ hc h2 rfl
 have hb2:Blk w2 bm 122 #[lv,nv,.slice A0 ns.length cap0]:=hb.keeps hk2 (hkind hb (by decide));have hkp:=ZEF (bm:=bm) (j:=2) (v':=.slice (some ⟨g,0,none⟩) (ns.length+1) cap) hk2;have hbelow:∀i,i<w.heap.size→¬(Value.slice A0 ns.length cap0).ownBlock=some i:=fun i hi e=>by have:=(hw.lt i e).1;omega
 have hlt:=hb.lt;have hgvlt:=hbv.lt;have hzb:z'≤16777216:=by have:=hok.s1;omega
 have hold:∀x∈rowsOf ns,x<wr.heap.size:=fun x hx=>by
  obtain ⟨c,hc⟩:=h.row_lt hx;exact hc.lt
 have hbvW:Blk (w2.setCell ⟨bm,2,none⟩ (.slice (some ⟨g,0,none⟩) (ns.length+1) cap)) gv 5 (madeCells #[.int .u8 0] z'):=hbv.keeps hkp (fun e=>by
  rcases e with e|rfl
  ·exact hkind hbv (by decide) e
  ·exact hbv.ne_ hb (by decide) rfl)
 have hrowW:Blk (w2.setCell ⟨bm,2,none⟩ (.slice (some ⟨g,0,none⟩) (ns.length+1) cap)) wr.heap.size 5 (madeCells #[.int .u8 0] z'):=hrow.far (p:=⟨bm,2,none⟩) (by dsimp only;omega) _;obtain ⟨hkl,hkr⟩:=List.getElem?_eq_some_iff.1 hr;refine ⟨A0,cap0,g,cap,w2,ns++[⟨r,0,v,ZCo wr z',List.replicate z' 0,List.replicate z' 0⟩],by rw[hb.cell];rfl,hrun,by rw[hb2.cell];rfl,hb2.frozen 2,fun b o hbw=>?_,by simp,⟨⟨nv,.slice (some ⟨g,0,none⟩) (ns.length+1) cap,?_,?_,?_,?_,?_⟩,fun a ha=>?_,?_,⟨?_,fun a ha=>?_,fun x hx=>?_⟩,?_,h.bmge,fun v hv=>by cases hv⟩⟩
 ·exact (hk2.cell (p:=⟨b,o,none⟩) (Nat.lt_of_lt_of_le hbw h.bel.size) (hbelow b hbw)).trans (h.bel.cell (p:=⟨b,o,none⟩) hbw)
 ·have:=hb2.set_ 2 (.slice (some ⟨g,0,none⟩) (ns.length+1) cap)
  simpa using this
 ·refine ZB hlr hkp (fun g' hg' e=>?_)
  obtain ⟨c,hc⟩:=ZI hlr hg';rcases e with e|rfl
  ·exact hkind hc (by decide) e
  ·exact hc.ne_ hb (by decide) rfl
 ·have h1:=ZB hn hkp (fun g' hg' e=>by
   rcases e with e|rfl
   ·exact hd g' hg' e
   ·obtain ⟨c,hc⟩:=ZI hn hg'
    exact hc.ne_ hb (by decide) rfl)
  simpa using h1
 ·have h1:=ZB ho2 ((ZE.refl (fun x=>x=bm) w2).setCell (p:=⟨bm,2,none⟩) (Or.inr rfl) (.slice (some ⟨g,0,none⟩) (ns.length+1) cap)) (fun g' hg' e=>by
   subst e;obtain ⟨c,hc⟩:=ZI ho2 hg';exact hc.ne_ hb2 (by decide) rfl)
  simpa using h1
 ·intro g' hg' e
  have e1:g=g':=by simpa[Value.ownBlock] using e
  subst e1;rcases hat with h1|h1
  ·exact hd g hg' h1
  ·have:=(hn.lt g hg').2
   omega
 ·rcases List.mem_append.1 ha with ha|ha
  ·exact (h.each a ha).pushed hb hw hk2
  ·obtain rfl:=List.mem_singleton.1 ha
   refine ⟨?_,ZF5 hrowW hzb,by simp[hz],by simp[hz],fun x hx=>?_,fun x hx=>?_,hok⟩
   ·dsimp only;rw[hv];exact ZF5 hbvW hzb
   ·have:=(List.mem_replicate.1 hx).2;omega
   ·have:=(List.mem_replicate.1 hx).2;omega
 ·unfold rowsOf
  rw[List.flatMap_append];have e0:List.flatMap Area.rows [(⟨r,0,v,ZCo wr z',List.replicate z' 0,List.replicate z' 0⟩:Area)]=ZZ v (List.replicate z' 0)++ZZ (ZCo wr z') (List.replicate z' 0):=by simp[Area.rows]
  rw[e0,hv];unfold ZCo;refine List.nodup_append.2 ⟨h.apart,List.nodup_append.2 ⟨ZFc _ _ _,ZFc _ _ _,fun x hx y hy e=>?_⟩,fun x hx y hy e=>?_⟩
  ·have:=ZA3 _ _ _ x hx;have:=ZA3 _ _ _ y hy;omega
  ·subst e
   rcases List.mem_append.1 hy with hy|hy
   ·have:=ZA3 _ _ _ x hy
    subst this;exact hgv2 hx
   ·have:=ZA3 _ _ _ x hy
    have:=hold x hx;omega
 ·rw[List.map_append,h.fresh.ranges,List.length_append,List.length_singleton,List.take_succ_eq_append_getElem hkl,hkr]
  rfl
 ·rcases List.mem_append.1 ha with ha|ha
  ·exact h.fresh.zero a ha
  ·obtain rfl:=List.mem_singleton.1 ha
   simp
 ·unfold rowsOf at hx
  rw[List.flatMap_append] at hx;rcases List.mem_append.1 hx with hx|hx
  ·exact h.fresh.new x hx
  ·have e0:List.flatMap Area.rows [(⟨r,0,v,ZCo wr z',List.replicate z' 0,List.replicate z' 0⟩:Area)]=ZZ v (List.replicate z' 0)++ZZ (ZCo wr z') (List.replicate z' 0):=by simp[Area.rows]
   rw[e0,hv] at hx;unfold ZCo at hx;rcases List.mem_append.1 hx with hx|hx
   ·have:=ZA3 _ _ _ x hx;omega
   ·have:=ZA3 _ _ _ x hx;have:=h.bel.size;omega
 ·exact ((ZC (fun _=>False) h.bel).trans hkp (fun i hi e=>by
   rcases e with e|rfl
   ·exact hbelow i hi e
   ·have:=h.bmge;omega)).below
theorem ZBh.done {w wr:World} {bm:Nat} {rs:List Rng} {lv:Value} {ns:List Area} (h:ZBh w bm rs lv ns [] wr) (hl:ns.length=rs.length) (h16:rs.length≤16):ZW wr bm ns∧Fresh w rs ns:=by
 obtain ⟨nv,wv,hb,hlr,hn,hw,hd⟩:=h.top;simp only[List.length_nil,Nat.add_zero,List.append_nil] at hn;have hf:=h.fresh;rw[List.take_of_length_le (by omega)] at hf;refine ⟨⟨⟨lv,nv,wv,hb,?_,ownsRow_base hn,ownsRow_base hw,hd⟩,h.each,h.apart,by omega⟩,hf⟩;have e:(ns.flatMap fun a=>a.r.cells)=rs.flatMap Rng.cells:=by rw[←hf.ranges,List.flatMap_map]
 rw[e,hl];exact ownsRow_base hlr
end Go.Proofs.YtggmkofbikafhaaGreatDoor
