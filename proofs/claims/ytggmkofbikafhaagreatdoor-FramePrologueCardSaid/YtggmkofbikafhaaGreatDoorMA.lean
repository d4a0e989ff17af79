/- Walks and plain laws on the way to FramePrologue (MA). Conditions: those that each theorem states. -/
import Derived.Laws.CopyOwn
import Derived.IntWalk
import Derived.Laws.StructEq
import Derived.Lib.SmallJoins
import Derived.Laws.IdiomCopy
import Derived.StillTailTactics
import Derived.Test.YtggmkofbikafhaaGreatDoorRG
set_option linter.unusedVariables false
set_option linter.unusedSimpArgs false
set_option maxRecDepth 100000
set_option maxHeartbeats 40000000
namespace Go.Proofs.YtggmkofbikafhaaGreatDoor
open Go.RowKit
section
variable {F G:Nat→Prop} {a w w1 w2 w':World}
end
section
variable {w w':World} {g:Nat} {t:TypeId} {cs:Array Value} {F:Nat→Prop}
end
structure Rng.Ok (r:Rng):Prop where
 f0:16≤r.fr
 f1:r.fr≤4294967296
 s0:0≤r.sz
 s1:r.sz≤16777216
 fs:r.fr+r.sz≤4294967296
def ZCM (w:World) (v:Value) (xs:List Int):Prop:=
 ∃A cap,v=.slice A xs.length cap∧xs.length≤cap∧cap≤maxLen∧
  (xs≠[]→∃g cur,A=some ⟨g,0,none⟩∧Blk w g 5 cur∧cur.size=cap∧cur.toList.take xs.length=xs.map (Value.int .u8))
def ZZ (v:Value) (xs:List Int):List Nat:=if xs=[] then [] else v.ownBlock.toList
structure Area where
 r:Rng
 b:Nat
 now:Value
 was:Value
 xs:List Int
 ys:List Int
def Area.rows (a:Area):List Nat:=ZZ a.now a.xs++ZZ a.was a.ys
def rowsOf (ms:List Area):List Nat:=ms.flatMap Area.rows
def isBytes (l:List Int):Prop:=∀x∈l,0≤x∧x≤255
theorem ZCM.blk_of {w:World} {v:Value} {xs:List Int} (h:ZCM w v xs) {g:Nat} (hg:g∈ZZ v xs):∃cur,Blk w g 5 cur:=by
 obtain ⟨A,cap,rfl,_,_,hb⟩:=h;unfold ZZ at hg
 split at hg
 ·cases hg
 ·rename_i hne
  obtain ⟨g',cur,rfl,hb,_⟩:=hb hne;have:g=g':=by simpa[Value.ownBlock] using hg
  subst this;exact ⟨cur,hb⟩
theorem ZCM.keeps {w w':World} {F:Nat→Prop} {v:Value} {xs:List Int} (h:ZCM w v xs) (k:ZE F w w') (hF:∀g∈ZZ v xs,¬F g):ZCM w' v xs:=by
 obtain ⟨A,cap,rfl,h1,h2,hb⟩:=h;refine ⟨A,cap,rfl,h1,h2,fun hne=>?_⟩;obtain ⟨g,cur,rfl,hb,r⟩:=hb hne;exact ⟨g,cur,rfl,hb.keeps k (hF g (by simp[ZZ,hne,Value.ownBlock])),r⟩
def hasB (fr sz at_ n:Int):Bool:=decide (0<n)&&decide (fr≤at_)&&decide (at_+n≤fr+sz)
def Area.has (a:Area) (at_ n:Int):Bool:=hasB a.r.fr a.r.sz at_ n
def ZBK (ms:List Area) (at_ n:Int):Option Area:=ms.find? fun a=>a.has at_ n
def ZF8 (ms:List Area) (at_ n:Int):Int×Option Area:=
 if n≠1∧n≠2∧n≠4 then (1,none) else if at_%n≠0 then (31,none) else
  match ZBK ms at_ n with
  | none=>(30,none)
  | some a=>(0,some a)
def leW:List Int→Int
 | []=>0
 | b::r=>b+256*leW r
def cut (xs:List Int) (k n:Nat):List Int:=(xs.drop k).take n
theorem ZBd {ms:List Area} {at_ n:Int} {a:Area} (h:ZBK ms at_ n=some a):a∈ms∧0<n∧a.r.fr≤at_∧at_+n≤a.r.fr+a.r.sz:=by
 have h1:=List.mem_of_find?_eq_some h;have h2:a.has at_ n=true:=List.find?_some (p:=fun a:Area=>a.has at_ n) h;simp[Area.has,hasB] at h2;exact ⟨h1,h2.1.1,h2.1.2,h2.2⟩
theorem ZF7 {ms:List Area} {at_ n:Int} {e:Int} {a:Area} (h:ZF8 ms at_ n=(e,some a)):e=0∧(n=1∨n=2∨n=4)∧at_%n=0∧ZBK ms at_ n=some a:=by
 unfold ZF8 at h
 split at h
 ·cases h
 ·split at h
  ·cases h
  ·rename_i h1 h2
   cases hf:ZBK ms at_ n with
   | none=>rw[hf] at h;cases h
   | some b=>
    rw[hf] at h
    cases h
    exact ⟨rfl,by omega,by omega,rfl⟩
theorem ZCM.open_ {w:World} {v:Value} {xs:List Int} (h:ZCM w v xs) (hne:0<xs.length) :
  ∃g cap cur,v=.slice (some ⟨g,0,none⟩) xs.length cap∧xs.length≤cap∧cap≤maxLen∧Blk w g 5 cur∧cur.size=cap∧cur.toList.take xs.length=xs.map (Value.int .u8):=by
 obtain ⟨A,cap,rfl,h1,h2,hb⟩:=h;obtain ⟨g,cur,rfl,hb,h3,h4⟩:=hb (fun e=>by simp[e] at hne);exact ⟨g,cap,cur,rfl,h1,h2,hb,h3,h4⟩
theorem ZJI {cur:Array Value} {xs:List Int} (h:cur.toList.take xs.length=xs.map (Value.int .u8)) (i:Nat) (hi:i<xs.length):cur[i]? = some (.int .u8 xs[i]):=by
 have h1:=congrArg (·[i]?) h;simp only[List.getElem?_take,List.getElem?_map] at h1;rw[if_pos hi,List.getElem?_eq_getElem hi] at h1
 simpa using h1
theorem ZIZ {xs:List Int} {k n:Nat} (hk:k+n≤xs.length):(cut xs k n).length=n:=by
 simp[cut];omega
theorem ZKY {xs:List Int} {k n:Nat} (h:isBytes xs):isBytes (cut xs k n):=fun x hx=>h x (List.mem_of_mem_drop (List.mem_of_mem_take hx))
def loadR (ms:List Area) (at_ n:Int):Int×Int:=
 match ZF8 ms at_ n with
 | (e,some a)=>(leW (cut a.xs (at_-a.r.fr).toNat n.toNat),e)
 | (e,none)=>(0,e)
theorem ZEk (l:List Int):∀v∈l.map (Value.int .u8),v.oneCell'=true:=by
 intro v hv;obtain ⟨x,_,rfl⟩:=List.mem_map.1 hv
 rfl
def bytesOf (v:Int) (n:Nat):List Int:=[v%256,v / 256%256,v / 65536%256,v / 16777216].take n
theorem ZFb {pre post:List Area} {a:Area} (h:(rowsOf (pre++a::post)).Nodup) :
  (∀x,x∈pre∨x∈post→∀g∈a.rows,g∉x.rows)∧a.rows.Nodup:=by
 unfold rowsOf at h;rw[List.flatMap_append,List.flatMap_cons] at h;obtain ⟨_,h2,h3⟩:=List.nodup_append.1 h;obtain ⟨h4,_,h5⟩:=List.nodup_append.1 h2;refine ⟨fun x hx g hg hgx=>?_,h4⟩;rcases hx with hx|hx
 ·exact h3 g (List.mem_flatMap.2 ⟨x,hx,hgx⟩) g (List.mem_append_left _ hg) rfl
 ·exact h5 g hg g (List.mem_flatMap.2 ⟨x,hx,hgx⟩) rfl
theorem ZA2 {v:Value} {xs ys:List Int} (h:ys.length=xs.length):ZZ v ys=ZZ v xs:=by
 unfold ZZ;have:ys=[]↔xs=[]:=by rw[←List.length_eq_zero_iff,←List.length_eq_zero_iff,h]
 simp only[this]
theorem ZA5 {v:Value} {xs:List Int} {g:Nat} (h:g∈ZZ v xs):xs≠[]∧v.ownBlock=some g:=by
 unfold ZZ at h
 split at h
 ·cases h
 ·exact ⟨‹_›,by simpa[Option.mem_toList] using h⟩
section
variable {w w':World} {bm g:Nat} {pre post:List Area} {a:Area} {cur cur':Array Value}
theorem ZCM.spliced {v:Value} {xs:List Int} (h:ZCM w v xs) (hg:g∈ZZ v xs) (hb:Blk w g 5 cur) {k:Nat} {cs:List Int} (hfit:k+cs.length≤xs.length)
  (hb':Blk w' g 5 (splice cur.toList k (cs.map (Value.int .u8))).toArray):ZCM w' v (splice xs k cs):=by
 obtain ⟨hne,hob⟩:=ZA5 hg;obtain ⟨A,cap,rfl,h1,h2,hbb⟩:=h;obtain ⟨g',cur2,rfl,hb2,hs,ht⟩:=hbb hne;have:g'=g:=by simpa[Value.ownBlock] using hob
 subst this;obtain rfl:=hb2.inj hb;have hl:(splice xs k cs).length=xs.length:=length_splice _ _ _ hfit;have hcl:cur2.toList.length=cap:=by simpa using hs
 refine ⟨_,cap,by rw[hl],by rw[hl];exact h1,h2,fun _=>⟨g',_,rfl,hb',?_,?_⟩⟩
 ·have:=length_splice cur2.toList k (cs.map (Value.int .u8)) (by simp;omega)
  simpa[hcl] using this
 ·rw[hl]
  apply List.ext_getElem?
  intro i
  by_cases hi:i<xs.length
  ·rw[List.getElem?_take,if_pos hi]
   have e1:cur2.toList[i]? = (xs.map (Value.int .u8))[i]?:=by rw[←ht,List.getElem?_take,if_pos hi]
   simp only[splice,List.getElem?_append,List.length_take,List.getElem?_take,List.getElem?_drop,List.getElem?_map,List.length_map,List.map_append,List.map_take,List.map_drop];have hk1:min k cur2.toList.length=k:=by omega
   have hk2:min k xs.length=k:=by omega
   rw[hk1,hk2]
   by_cases c1:i<k
   ·simp only[c1,if_true]
    rw[e1,List.getElem?_map]
   ·simp only[c1,if_false]
    by_cases c2:i-k<cs.length
    ·simp only[c2,if_true]
    ·simp only[c2,if_false]
     have e3:k+cs.length+(i-k-cs.length)=i:=by omega
     rw[e3,e1,List.getElem?_map]
  ·rw[List.getElem?_eq_none (by simp;omega),List.getElem?_eq_none (by rw[List.length_map,hl];omega)]
end
def updA (ms:List Area) (at_ n:Int) (f:Area→Area):List Area:=
 match ms with
 | []=>[]
 | a::r=>if a.has at_ n then f a::r else a::updA r at_ n f
theorem ZI1 {at_ n:Int} {f:Area→Area} {a:Area} {post:List Area} (ha:a.has at_ n=true):∀ {pre:List Area},(∀x∈pre,x.has at_ n=false)→updA (pre++a::post) at_ n f=pre++f a::post
 | [],_=>by simp[updA,ha]
 | x::pre,h=>by
  have h1:=h x (by simp);have h2:=ZI1 (f:=f) (post:=post) ha (pre:=pre) (fun y hy=>h y (by simp[hy]));simp[updA,h1,h2]
theorem ZFV {xs cs:List Int} {k:Nat} (h:isBytes xs) (h2:isBytes cs):isBytes (splice xs k cs):=by
 intro x hx;unfold splice at hx;rcases List.mem_append.1 hx with hx|hx
 ·exact h x (List.mem_of_mem_take hx)
 ·rcases List.mem_append.1 hx with hx|hx
  ·exact h2 x hx
  ·exact h x (List.mem_of_mem_drop hx)
theorem ZFA {v:Int} (h0:0≤v) (h1:v≤4294967295) (n:Nat):isBytes (bytesOf v n):=by
 intro x hx;have:=List.mem_of_mem_take hx
 simp at this
 omega
def ZH7 (ms:List Area) (at_ n:Int) (cs:List Int):List Area:=updA ms at_ n fun a=>{ a with xs:=splice a.xs (at_-a.r.fr).toNat cs }
def storeR (ms:List Area) (at_ n v:Int):Int×List Area:=
 match ZF8 ms at_ n with
 | (_,some a)=>if a.r.wr then (0,ZH7 ms at_ n (bytesOf v n.toNat)) else (32,ms)
 | (e,none)=>(e,ms)
def fetchR (ms:List Area) (at_:Int):Int×Int:=
 match ZF8 ms at_ 4 with
 | (_,some a)=>if a.r.ex then loadR ms at_ 4 else (0,33)
 | (e,none)=>(0,e)
theorem ZKA:(Tryz.prog.info? 5).map (fun i=>(i.zero,i.size,i.bytes))=some (some (.int .u8 0),1,1):=by kernel_rfl
def ZEn (c:Nat):Bool:=(decide (97≤c)&&decide (c≤122)) || (decide (48≤c)&&decide (c≤57)) || c==95
def nameB (s:ByteArray):Bool:=
 if h:0<s.size then decide (s.size≤31)&&decide (97≤(s[0]'h).toNat)&&decide ((s[0]'h).toNat≤122)&&s.data.toList.all (fun c=>ZEn c.toNat) else false
theorem take_snoc (s:ByteArray) (k:Nat) (h:k<s.size):s.data.toList.take (k+1)=s.data.toList.take k++[s[k]]:=by
 rw[List.take_succ_eq_append_getElem (by simpa using h)];rfl
theorem all_step (s:ByteArray) (p:UInt8→Bool) (k:Nat) (h:k<s.size) (h1:(s.data.toList.take k).all p=true) (h2:p s[k]=true):(s.data.toList.take (k+1)).all p=true:=by
 rw[take_snoc s k h,List.all_append,h1];simp[h2]
theorem all_stop (s:ByteArray) (p:UInt8→Bool) (k:Nat) (h:k<s.size) (h2:p s[k]=false):s.data.toList.all p=false:=by
 rw[List.all_eq_false];exact ⟨s[k],by simp only[Array.mem_toList_iff];exact Array.getElem_mem _,by simp[h2]⟩
theorem ZIL (s:ByteArray) (h:0<s.size):s.toList.isEmpty=false:=by
 cases hl:s.toList with
 | nil=>
  have h2:s.data.toList=[]:=by rw[←hl,Lib.toList_data]
  have h4:=congrArg List.length h2;rw[Array.length_toList] at h4;exact absurd (show s.size=0 from h4) (by omega)
 | cons _ _=>rfl
theorem isEmpty_nil (s:ByteArray) (h:¬0<s.size):s.toList.isEmpty=true:=by
 have h2:s.data.toList=[]:=by
  apply List.length_eq_zero_iff.1
  rw[Array.length_toList];exact (show s.size=0 by omega)
 rw[Lib.toList_data,h2];rfl
theorem ZID {c:Nat} (h:(97≤c∧c≤122)∨(48≤c∧c≤57)∨c=95):ZEn c=true:=by
 unfold ZEn;simp;omega
theorem ZGk {c:Nat} (h:¬((97≤c∧c≤122)∨(48≤c∧c≤57)∨c=95)):ZEn c=false:=by
 unfold ZEn;simp;omega
def ZFh (r o:Rng):Bool:=decide (0<r.sz)&&decide (0<o.sz)&&decide (r.fr<o.fr+o.sz)&&decide (o.fr<r.fr+r.sz)
def clash (r o:Rng):Bool:=(o.nm.toList==r.nm.toList) || ZFh r o
def ZAM (r:Rng):Array Value:=#[.string r.nm,.int .i64 r.fr,.int .i64 r.sz,.bool r.wr,.bool r.ex]
def ZCn (w:World) (g off:Nat) (rs:List Rng):Prop:=
 ∀i (h:i<rs.length) (j:Nat) (u:Value),(ZAM rs[i])[j]? = some u→w.cell? ⟨g,off+i*5+j,none⟩=some u
theorem ZCn.below {w w':World} {g off:Nat} {rs:List Rng} (h:ZCn w g off rs) (hb:Below w.heap.size w w') (hg:g<w.heap.size):ZCn w' g off rs:=
 fun i hi j u hu=>(hb.cell (p:=⟨g,off+i*5+j,none⟩) hg).trans (h i hi j u hu)
theorem ZCn.five {w:World} {g off:Nat} {rs:List Rng} (h:ZCn w g off rs) {i:Nat} (hi:i<rs.length) :
  w.cell? ⟨g,off+i*5,none⟩=some (.string rs[i].nm)∧w.cell? ⟨g,off+i*5+1,none⟩=some (.int .i64 rs[i].fr)∧w.cell? ⟨g,off+i*5+2,none⟩=some (.int .i64 rs[i].sz)∧
   w.cell? ⟨g,off+i*5+3,none⟩=some (.bool rs[i].wr)∧w.cell? ⟨g,off+i*5+4,none⟩=some (.bool rs[i].ex):=
 ⟨h i hi 0 _ rfl,h i hi 1 _ rfl,h i hi 2 _ rfl,h i hi 3 _ rfl,h i hi 4 _ rfl⟩
theorem any_step {rs:List Rng} {p:Rng→Bool} {k:Nat} (hk:k<rs.length) (h:(rs.take k).any p=false) (h2:p rs[k]=false):(rs.take (k+1)).any p=false:=by
 rw[List.take_succ_eq_append_getElem hk,List.any_append,h];simp[h2]
theorem any_hitM {rs:List Rng} {p:Rng→Bool} {k n:Nat} (hk:k<rs.length) (hkn:k<n) (h2:p rs[k]=true):(rs.take n).any p=true:=by
 rw[List.any_eq_true];exact ⟨rs[k],List.mem_take_iff_getElem.2 ⟨k,by omega,rfl⟩,h2⟩
def ZFK (r:Rng):Bool:=
 nameB r.nm&&decide (16≤r.fr)&&decide (r.fr≤4294967296)&&decide (0≤r.sz)&&decide (r.sz≤16777216)&&decide (r.fr%16=0)&&decide (r.sz%16=0)&&decide (r.fr+r.sz≤4294967296)
def okAt (rs:List Rng) (k:Nat):Bool:=
 match rs[k]? with
 | some r=>ZFK r && !((rs.take k).any (clash r))
 | none=>true
def ZCl (rs:List Rng):Bool:=(List.range rs.length).all (okAt rs)
def ZAU (rs:List Rng):Int:=if 16<rs.length then 3 else if ZCl rs then 0 else 5
theorem ZGX {r:Rng} (h:ZFK r=true):r.Ok:=by
 simp[ZFK] at h;obtain ⟨⟨⟨⟨⟨⟨⟨_,h1⟩,h2⟩,h3⟩,h4⟩,_⟩,_⟩,h5⟩:=h;exact ⟨h1,h2,h3,h4,h5⟩
theorem ZDG {rs:List Rng} {k:Nat} (hk:k<rs.length):okAt rs k=(ZFK rs[k] && !((rs.take k).any (clash rs[k]))):=by
 simp[okAt,List.getElem?_eq_getElem hk]
theorem ZKf {rs:List Rng} {k:Nat} (hl:rs.length≤16) (hk:k<rs.length) (h:okAt rs k=false):ZAU rs=5:=by
 unfold ZAU;rw[if_neg (by omega)];have:ZCl rs=false:=by
  unfold ZCl;rw[List.all_eq_false];exact ⟨k,List.mem_range.2 hk,by simp[h]⟩
 simp[this]
theorem chk_good {rs:List Rng} (hl:rs.length≤16) (h:∀j,j<rs.length→okAt rs j=true):ZAU rs=0:=by
 unfold ZAU;rw[if_neg (by omega)];have:ZCl rs=true:=by
  unfold ZCl;rw[List.all_eq_true];exact fun j hj=>h j (List.mem_range.1 hj)
 simp[this]
theorem oks_of {rs:List Rng} {k:Nat} (h:∀j,j<k→okAt rs j=true) (hk:k≤rs.length):∀o∈rs.take k,o.Ok:=by
 intro o ho;obtain ⟨j,hj,rfl⟩:=List.mem_take_iff_getElem.1 ho;have h1:=h j (by omega);rw[ZDG (by omega)] at h1
 simp at h1
 exact ZGX h1.1
theorem ZJO (r:Rng):(ZFK r=true)∨(ZFK r=false∧(nameB r.nm=false∨nameB r.nm=true∧(r.fr<16∨16≤r.fr∧(4294967296<r.fr∨r.fr≤4294967296∧(r.sz<0∨0≤r.sz∧(16777216<r.sz∨r.sz≤16777216∧
  ((r.fr%16 != 0)=true∨(r.fr%16 != 0)=false∧((r.sz%16 != 0)=true∨(r.sz%16 != 0)=false∧4294967296<r.fr+r.sz)))))))):=by
 cases h:ZFK r with
 | true=>exact Or.inl rfl
 | false=>
  refine Or.inr ⟨rfl,?_⟩
  cases hn:nameB r.nm with
  | false=>exact Or.inl rfl
  | true=>
   refine Or.inr ⟨rfl,?_⟩;simp[ZFK,hn] at h;simp only[bne_iff_ne,ne_eq,bne_eq_false_iff_eq];omega
theorem ZJH {w:World} {base:Nat} {e:TypeId} {v:Value} {n:Nat} {xs:List Value} (h:w.ownsRow base e 1 v (n+1) xs):∃g cap,v=.slice (some ⟨g,0,none⟩) (n+1) cap:=by
 rcases h.2 with ⟨_,h0⟩|⟨g,cap,cur,hv,_⟩
 ·omega
 ·exact ⟨g,cap,hv⟩
section
variable {P:Program} {ops:Array Oper} {Q:Exit→Act→World→Prop} {md:Region.Mode} {S:World→Prop} {L:Nat}
end
theorem ZFj (z:Nat):(madeCells #[Value.int .u8 0] z).toList=List.replicate z (Value.int .u8 0):=by
 apply List.ext_getElem?
 intro i
 by_cases h:i<z
 ·simp[madeCells,h,Nat.mod_one]
 ·rw[List.getElem?_eq_none (by rw[Array.length_toList,size_madeCells];omega),List.getElem?_eq_none (by simp;omega)]
theorem make_run (w:World) (n:Nat) (hn:n≤16777216):(Instr.makeSlice 32 (.int .i64 (n:Int)) (.int .i64 (n:Int))).run Tryz.prog w=.ok (.slice (some ⟨w.heap.size,0,none⟩) n n) (w.alloc (.cells (madeCells #[.int .u8 0] n) 5)):=by
 obtain ⟨i0,hi,hz0,hz1,hz2⟩:=info_parts ZKA;have h:=run_make (P:=Tryz.prog) w 32 5 i0 (.int .u8 0) Tryz.underlying32 hi hz0 .i64 .i64 (n:Int) (n:Int) (by omega) (Int.le_refl _) (by rw[hz2];omega) (by omega);have e:((n:Int)).toNat=n:=by omega
 rw[e] at h
 simpa[hz1,Value.cells] using h
structure Fresh (w:World) (rs:List Rng) (ms:List Area):Prop where
 ranges:ms.map (·.r)=rs
 zero:∀a∈ms,a.xs=List.replicate a.xs.length 0∧a.ys=a.xs
 new:∀g∈rowsOf ms,w.heap.size≤g
section
variable {bm:Nat} {lv:Value} {b:Nat} {r:Rng} {z:Nat} {w' w2:World}
end
theorem ownsRow_base {w:World} {B:Nat} {e:TypeId} {size:Nat} {v:Value} {n:Nat} {xs:List Value} (h:w.ownsRow B e size v n xs):w.ownsRow 0 e size v n xs:=
 ⟨h.1,h.2.imp id fun ⟨g,cap,cur,h1,_,r⟩=>⟨g,cap,cur,h1,Nat.zero_le _,r⟩⟩
def ZBn (w:World) (v:Value) (rs:List Rng):Prop:=
 ∃A cap,v=.slice A rs.length cap∧rs.length≤cap∧cap≤maxLen∧(∀r∈rs,r.nm.size≤maxLen)∧(rs≠[]→∃g off,A=some ⟨g,off,none⟩∧g<w.heap.size∧ZCn w g off rs)
theorem ZBn.below {w w':World} {v:Value} {rs:List Rng} (h:ZBn w v rs) (hb:Below w.heap.size w w'):ZBn w' v rs:=by
 obtain ⟨A,cap,rfl,h1,h2,h3,h4⟩:=h;refine ⟨A,cap,rfl,h1,h2,h3,fun hne=>?_⟩;obtain ⟨g,off,rfl,hg,hc⟩:=h4 hne;exact ⟨g,off,rfl,Nat.lt_of_lt_of_le hg hb.size,hc.below hb hg⟩
theorem chk_val (rs:List Rng):ZAU rs=0∨ZAU rs=3∨ZAU rs=5:=by
 unfold ZAU
 split
 ·omega
 ·split<;>omega
def flatG (gs:List (Int×Int)):List Value:=gs.flatMap fun p=>[.int .i64 p.1,.int .i64 p.2]
theorem ZAF (gs:List (Int×Int)):(flatG gs).length=gs.length*2:=by
 unfold flatG
 induction gs with
 | nil=>rfl
 | cons p r ih=>simp[List.flatMap_cons,ih];omega
theorem Zn (a b:List (Int×Int)):flatG (a++b)=flatG a++flatG b:=by unfold flatG;rw[List.flatMap_append]
def putG (gs:List (Int×Int)) (at_:Int):List (Int×Int):=
 match gs.getLast? with
 | some p=>if p.1+p.2=at_ then gs.dropLast++[(p.1,p.2+1)] else gs++[(at_,1)]
 | none=>[(at_,1)]
def ZGC (gs:List (Int×Int)):Prop:=∀p∈gs,16≤p.1∧1≤p.2∧p.1+p.2≤4294967296
theorem ZGC.put {gs:List (Int×Int)} {at_:Int} (h:ZGC gs) (h0:16≤at_) (h1:at_+1≤4294967296):ZGC (putG gs at_):=by
 unfold putG
 split
 ·rename_i p hp
  have hm:=h p (List.mem_of_getLast? hp)
  split
  ·rename_i he
   intro q hq;rcases List.mem_append.1 hq with hq|hq
   ·exact h q ((List.dropLast_sublist _).mem hq)
   ·obtain rfl:q=(p.1,p.2+1):=by simpa using hq
    exact ⟨hm.1,by omega,by omega⟩
  ·intro q hq
   rcases List.mem_append.1 hq with hq|hq
   ·exact h q hq
   ·obtain rfl:q=(at_,1):=by simpa using hq
    exact ⟨h0,by omega,by omega⟩
 ·intro q hq
  obtain rfl:q=(at_,1):=by simpa using hq
  exact ⟨h0,by omega,by omega⟩
theorem info40f:(Tryz.prog.info? 140).map (fun i=>(i.zero,i.size,i.bytes))=some (some (.agg #[.int .i64 0,.int .i64 0]),2,16):=by kernel_rfl
section
variable {w w2 wr:World} {a:Area} {gs:List (Int×Int)} {j:Nat} {out:Value}
end
section
variable {w w2 wr:World} {a:Area} {gs:List (Int×Int)} {j:Nat} {out:Value}
end
theorem ZBc {gs:List (Int×Int)} {k:Nat} {p:Int×Int} (h:gs[k]? = some p):(flatG gs)[k*2]? = some (.int .i64 p.1)∧(flatG gs)[k*2+1]? = some (.int .i64 p.2):=by
 obtain ⟨hk,rfl⟩:=List.getElem?_eq_some_iff.1 h;have e:gs=gs.take k++(gs[k]::gs.drop (k+1)):=by rw[←List.drop_eq_getElem_cons hk,List.take_append_drop]
 have hl:(flatG (gs.take k)).length=k*2:=by rw[ZAF,List.length_take];omega
 have e2:flatG gs=flatG (gs.take k)++(.int .i64 gs[k].1 :: .int .i64 gs[k].2::flatG (gs.drop (k+1))):=by
  conv=>lhs;rw[e]
  rw[Zn]
  rfl
 rw[e2]
 constructor
 ·rw[List.getElem?_append_right (by omega),hl];simp
 ·rw[List.getElem?_append_right (by omega),hl,Nat.add_sub_cancel_left];simp
theorem find_of {pre post:List Area} {a:Area} {p n:Int} (ha:a.has p n=true) (hp:∀x∈pre,x.has p n=false):ZBK (pre++a::post) p n=some a:=by
 unfold ZBK;rw[List.find?_append];have:pre.find? (fun x=>x.has p n)=none:=by
  rw[List.find?_eq_none];intro x hx;simp[hp x hx]
 rw[this];simp[ha]
section
variable {H:Type} {enc:TypeId×Value→H} {W:World}
end
def ZDn (a:Area):Area:={ a with ys:=a.xs }
def ZDH (ms:List Area) (k:Nat):List Area:=(ms.take k).map ZDn++ms.drop k
theorem ZIH (ms:List Area):ZDH ms 0=ms:=by simp[ZDH]
theorem ZJp (ms:List Area) {k:Nat} (h:ms.length≤k):ZDH ms k=ms.map ZDn:=by
 unfold ZDH;rw[List.take_of_length_le h,List.drop_of_length_le h,List.append_nil]
theorem markK_at {ms:List Area} {k:Nat} {a:Area} (h:ms[k]? = some a):ZDH ms k=(ms.take k).map ZDn++a::ms.drop (k+1)∧ZDH ms (k+1)=(ms.take k).map ZDn++ZDn a::ms.drop (k+1):=by
 obtain ⟨hk,rfl⟩:=List.getElem?_eq_some_iff.1 h
 constructor
 ·unfold ZDH;rw[List.drop_eq_getElem_cons hk]
 ·unfold ZDH;rw[List.take_succ_eq_append_getElem hk,List.map_append,List.append_assoc];rfl
theorem ZF6 {w:World} {B:Nat} {v:Value} {xs:List Int} (h:w.ownsRow B 5 1 v xs.length (xs.map (Value.int .u8))):ZCM w v xs∧∀g∈ZZ v xs,B≤g:=by
 have hh:=h;rcases h.2 with ⟨rfl,h0⟩|⟨g,cap,cur,rfl,hb,hh2,h1,h2,h3,h4⟩
 ·have hx:xs=[]:=List.length_eq_zero_iff.1 h0
  subst hx;exact ⟨⟨none,0,rfl,by simp,by decide,fun h=>absurd rfl h⟩,fun g hg=>by simp[ZZ] at hg⟩
 ·refine ⟨⟨_,cap,rfl,h1,h2,fun _=>⟨g,cur,rfl,hh2,by omega,by rw[Nat.mul_one] at h4;exact h4⟩⟩,fun g' hg'=>?_⟩
  obtain ⟨_,e⟩:=ZA5 hg';have:g=g':=by simpa[Value.ownBlock] using e
  omega
theorem ZCM.below {w w':World} {v:Value} {xs:List Int} (h:ZCM w v xs) (hb:Below w.heap.size w w'):ZCM w' v xs:=h.keeps (ZC (fun _=>False) hb) (fun _ _ e=>e)
theorem ZBg {w:World} {v:Value} {xs:List Int} (h:ZCM w v xs):∃A cap,v=.slice A xs.length cap:=by
 obtain ⟨A,cap,e,_⟩:=h;exact ⟨A,cap,e⟩
def Area.key (a:Area):Rng×List Int×List Int:=(a.r,a.xs,a.ys)
section
variable {bm:Nat} {lv:Value} {a:Area} {w' w2:World}
theorem ZE9 {w w':World} {p:Addr} {v:Value} (h:w.cell? p=some v) (hb:Below w.heap.size w w'):w'.cell? p=some v:=(hb.cell (cell_lt h)).trans h
end
def ZGE (a:Area):Nat→List Int
 | 0=>[]
 | j+1=>if a.xs.getD j 0=a.ys.getD j 0 then ZGE a j else ZGE a j++[a.r.fr+j]
def chgA (a:Area):List Int:=ZGE a a.xs.length
def chgD (ms:List Area):List Int:=ms.flatMap chgA
section
variable {H:Type} {enc:TypeId×Value→H} {W:World}
end
section
variable {H:Type} {enc:TypeId×Value→H} {W:World}
end
def rput:List (Int×Int)→Int→List (Int×Int)
 | [],p=>[(p,1)]
 | (f,s)::r,p=>
  if f+s<p then (f,s)::rput r p
  else if f+s=p then
   match r with
   | (f',s')::r'=>if f'=p+1 then (f,s+1+s')::r' else (f,s+1)::(f',s')::r'
   | []=>[(f,s+1)]
  else if f=p+1 then (p,s+1)::r
  else (p,1)::(f,s)::r
end Go.Proofs.YtggmkofbikafhaaGreatDoor
