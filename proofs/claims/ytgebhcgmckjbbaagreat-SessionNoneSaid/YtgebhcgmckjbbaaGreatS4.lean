/- Part of a proof. -/
import Derived.Laws.IdiomStrings
import Derived.Laws.BytesString
import Derived.MapKept
import Derived.ProofKit
import Derived.ChangeReads
import Derived.OpenShut
import Derived.Test.YtgebhcgmckjbbaaGreatRows
import Derived.WalkKit
import Derived.ChangeKeysEq
import Derived.Test.YtgebhcgmckjbbaaGreatS3
set_option linter.all false
namespace Go.Vc
open Go
structure ElemT(P:Program)(e:TypeId)(sz by_:Nat):Prop where
 ok:∃i z,P.info? e=some i∧i.zero=some z∧i.size=sz∧i.bytes=by_∧z.cells.size=sz∧z.cells.toList.all (·.oneCell')=true
 pos:0<sz
 bpos:0<by_
def elemOk(P:Program)(e:TypeId)(sz by_:Nat):Bool:=
 Nat.blt 0 sz&& Nat.blt 0 by_&& match P.info? e with
 |none=>false
 |some i=>match i.zero with
  |none=>false
  |some z=>Nat.beq i.size sz&& Nat.beq i.bytes by_&& Nat.beq z.cells.size sz&& z.cells.toList.all (·.oneCell')
theorem elemT_of{P:Program}{e:TypeId}{sz by_:Nat}(h:elemOk P e sz by_=true):ElemT P e sz by_:=by
 unfold elemOk at h
 simp only[Bool.and_eq_true]at h
 obtain⟨⟨h1,h2⟩,h⟩:=h
 cases hi:P.info? e with
 |none=>rw[hi]at h;cases h
 |some i=>
  rw[hi]at h
  simp only at h
  cases hz:i.zero with
  |none=>rw[hz]at h;cases h
  |some z=>
   rw[hz]at h
   simp only[Bool.and_eq_true]at h
   obtain⟨⟨⟨h3,h4⟩,h5⟩,h6⟩:=h
   exact⟨⟨i,z,hi,hz,Nat.eq_of_beq_eq_true h3,Nat.eq_of_beq_eq_true h4,Nat.eq_of_beq_eq_true h5,h6⟩,by simpa [Nat.blt_eq]using h1,by simpa [Nat.blt_eq]using h2⟩
theorem zeroCells_all{z:Array Value}(h:z.toList.all (·.oneCell')=true)(hp:0<z.size)(n:Nat):(Builtin.zeroCells z n).toList.all (·.oneCell')=true:=by
 unfold Builtin.zeroCells
 simp only[Array.toList_map,List.all_map,List.all_eq_true]
 intro i _
 have hlt:i%z.size<z.size:=Nat.mod_lt _ hp
 simp only[Function.comp_apply]
 rw[getElem!_pos z _ hlt]
 exact List.all_eq_true.1 h _ (by simp)
theorem zeroCells_len(z:Array Value)(n:Nat):(Builtin.zeroCells z n).toList.length=n*z.size:=by simp[Builtin.zeroCells]
theorem rx_append{P:Program}{t u ty e:TypeId}{sz by_:Nat}{w:World}{K:Kont}{s x:Value}{n m:Nat}{cs news:List Value}
  (ht:P.underlying t=some (.slice e)){e' :TypeId}(hu:P.underlying u=some (.slice e'))(hE:ElemT P e sz by_)
  (hs:Own w e sz s n cs)(hx:Rd w sz x m news)(h1:news.all (·.oneCell')=true)(hb:(n+m)*by_≤140737488355328)
  (hK:∀s' w',Own w' e sz s' (n+m) (cs++news)→Mod (inSl s) w w' →(∀b,inSl s' b→inSl s b∨w.heap.size≤b)→K s' w'):
  rx P (xAppend #[t,u] ty [s,x]) w K:=by
 obtain⟨⟨i,z,hi,hz,hsz,hby,hzs,hz1⟩,hpos,hbpos⟩:=hE
 have hneed:n+m≤140737488355328:=Nat.le_trans (Nat.le_mul_of_pos_right _ hbpos) hb
 have hlen:cs.length=n*sz:=hs.1
 have hlenx:news.length=m*sz:=hx.1
 have hfx:=λw1 (h:Rd w1 sz x m news)=>h.first (P:=P) hpos
 obtain⟨base,cap,hsv,hcap,hrow⟩:∃base cap,s=.slice base n cap∧n≤cap∧((base=none∧n=0∧cap=0∧cs=[])∨∃b rest,base=some ⟨b,0,none⟩∧w.heap[b]? =some (.cells (cs++rest).toArray e (0,0))∧rest.length=(cap - n)*sz∧rest.all (·.oneCell')=true):=by
  rcases hs.2 with⟨rfl,rfl⟩|⟨b,cap,rest,rfl,hc,hh,hr⟩
  ·exact⟨none,0,rfl,Nat.le_refl _,.inl ⟨rfl,rfl,rfl,by simpa using hlen⟩⟩
  ·exact⟨_,cap,rfl,hc,.inr ⟨b,rest,rfl,hh,hr⟩⟩
 subst hsv
 by_cases hroom:n+m≤cap
 ·rcases hrow with⟨rfl,rfl,rfl,rfl⟩|⟨b,rest,rfl,hh,hrl,hr1⟩
  ·have hm:m=0:=by omega
   subst hm
   have hnews:news=[]:=by simpa using hlenx
   subst hnews
   refine rx_of (v:=.slice none 0 0) (w' :=w) ?_ (hK _ _ hs (Mod.refl _ _) (λb hb=>.inl hb))
   have:=hfx w hx
   simp[xAppend,Builtin.append_,run_underlying ht,sizeOf,typeInfo,hi,hsz,run_underlying hu,hx.lenOf,Result.andThen,this]
  ·have hst:=run_storeCells_at P b (n*sz) e news 0 (cs++rest).toArray w hh (by simp[hlen,hrl,hlenx];exact Nat.mul_le_mul_right _ (by omega)) (oneAll_mem h1)
   simp only[Nat.add_zero]at hst
   have hrow2:(cs++rest).take (n*sz)++news++(cs++rest).drop (n*sz+news.length)=(cs++news)++rest.drop news.length:=by
    rw[←hlen]
    simp[List.append_assoc]
   refine rx_of (v:=.slice (some ⟨b,0,none⟩) (n+m) cap) (w' :=w.setRow b ((cs++news)++rest.drop news.length).toArray) ?_ (hK _ _ ⟨?_,.inr ⟨b,cap,rest.drop news.length,rfl,hroom,?_,?_,?_⟩⟩ ?_ ?_)
   ·have:=hfx w hx
    simp only[hrow2]at hst
    have e0:(⟨b,0,none⟩:Addr).add (n*sz)=⟨b,n*sz,none⟩:=by rw[addr_add];simp
    simp[xAppend,Builtin.append_,run_underlying ht,sizeOf,typeInfo,hi,hsz,run_underlying hu,hx.lenOf,Result.andThen,this,hroom,e0,hst]
   ·simp[hlen,hlenx,Nat.add_mul]
   ·rw[heap_setRow,if_pos rfl,hh]
   ·simp[hrl,hlenx];rw[←Nat.sub_mul];congr 1;omega
   ·exact List.all_eq_true.2 λv hv=>List.all_eq_true.1 hr1 v (List.mem_of_mem_drop hv)
   ·exact(Mod.refl (inSl (.slice (some ⟨b,0,none⟩) n cap)) w).setRow (.inl (show inSl _ b from rfl)) _
   ·intro b' hb';exact .inl hb'
 ·have hfit:=growslice_fits (old:=cap) (need:=n+m) (bytes:=by_) (by omega) hb
  have h48:¬(281474976710656<Builtin.nextslicecap (n+m) cap*i.bytes):=by rw[hby];omega
  have h63:¬(9223372036854775807<((n:Int)+(m:Int))):=by omega
  have hcapge:n+m≤grownCap w (n+m) cap e:=by simp[grownCap,Question.cut]
  have hrs:Rd w.drew sz (.slice base n cap) n cs:=hs.rd.keep λ_ _=>rfl
  have hf1:=hrs.first (P:=P) hpos
  have hf2:=hfx w.drew (hx.keep λ_ _=>rfl)
  refine rx_of (v:=.slice (some ⟨w.heap.size,0,none⟩) (n+m) (grownCap w (n+m) cap e))
   (w' :=w.drew.alloc (.cells (cs.toArray++news.toArray++Builtin.zeroCells z.cells (grownCap w (n+m) cap e - (n+m))) e)) ?_ (hK _ _ ⟨?_,.inr ⟨w.heap.size,_,(Builtin.zeroCells z.cells (grownCap w (n+m) cap e - (n+m))).toList,rfl,hcapge,?_,?_,?_⟩⟩ ?_ ?_)
  ·simp[xAppend,Builtin.append_,run_underlying ht,sizeOf,typeInfo,zeroValue,hi,hz,hsz,run_underlying hu,hx.lenOf,Result.andThen,hroom,h63,h48,Question.forced,hf1,hf2,newRow,grownCap]
   rw[←Array.append_assoc]
   congr 2
   simp
  ·simp[hlen,hlenx,Nat.add_mul]
  ·rw[heap_alloc,if_pos (show w.heap.size=w.drew.heap.size from rfl)]
   simp
  ·rw[zeroCells_len,hzs]
  ·exact zeroCells_all hz1 (by rw[hzs];exact hpos) _
  ·exact((Mod.refl _ w).drew).alloc _
  ·rintro b' hb'
   cases hb'
   exact .inr (Nat.le_refl _)
theorem alloc_setRow(w:World)(c:Array Value)(t:TypeId)(cs:Array Value):(w.alloc (.cells c t)).setRow w.heap.size cs=w.alloc (.cells cs t):=by
 unfold World.setRow World.alloc
 simp only
 congr 1
 apply Array.ext
 ·simp
 ·intro i h1 h2
  simp only[Array.getElem_modify,Array.getElem_push]
  by_cases h:w.heap.size=i
  ·subst h;simp
  ·have hi:i<w.heap.size:=by simp at h1;omega
   simp[h,hi]
theorem rx_bigVar{P:Program}{t:TypeId}{w:World}{K:Kont}{cs:List Value}(n:Nat)(hz:hasZero P t=true)(hn:P.cellsOf t=n+1)(hl:cs.length=n+1)(hzl:(zeroC P t).length=n+1)(h1:cs.all (·.oneCell')=true)
  (hK:K (.pointer (some ⟨w.heap.size,0,none⟩)) (w.alloc (.cells cs.toArray t))):rx P (bigA t) w λv w1=>rux P (bigU t v (.agg cs.toArray)) w1 λw2=>K v w2:=by
 refine rx_bigA hz ?_
 refine rux_bigU (c:=(zeroC P t).toArray) (e:=t) hn hl (by rw[heap_alloc,if_pos rfl]) (by simp[hl,hzl]) h1 ?_
 rw[lay_all (by simp[hl,hzl]),alloc_setRow]
 exact hK
theorem flat_get{α:Type}(f:α→List Value)(sz:Nat):∀(ws:List α) (i:Nat) (hw:∀x∈ws,(f x).length=sz) (h:i<ws.length),((ws.flatMap f).drop (i*sz)).take sz=f ws[i]
 |x::ws,0,hw,h=>by simp[List.take_append_of_le_length (Nat.le_of_eq (hw x (by simp)).symm),List.take_of_length_le (Nat.le_of_eq (hw x (by simp)))]
 |x::ws,i+1,hw,h=>by
  have e:(i+1)*sz=(f x).length+i*sz:=by rw[hw x (by simp),Nat.add_mul];omega
  simp only[List.flatMap_cons,List.getElem_cons_succ]
  rw[e,←List.drop_drop,List.drop_left]
  exact flat_get f sz ws i (λy hy=>hw y (by simp[hy])) (by simpa using h)
theorem flat_len{α:Type}(f:α→List Value)(sz:Nat):∀(ws:List α) (hw:∀x∈ws,(f x).length=sz),(ws.flatMap f).length=ws.length*sz
 | [],_=>by simp
 |x::ws,hw=>by simp[hw x (by simp),flat_len f sz ws λy hy=>hw y (by simp[hy]),Nat.add_mul];omega
theorem Own.isSl{w:World}{e:TypeId}{sz:Nat}{s:Value}{n:Nat}{cs:List Value}(h:Own w e sz s n cs):∃a c,s=.slice a n c∧n≤c:=by
 obtain⟨_,⟨rfl,rfl⟩|⟨b,cap,_,rfl,hc,_⟩⟩:=h
 ·exact⟨none,0,rfl,Nat.le_refl _⟩
 ·exact⟨_,_,rfl,hc⟩
theorem Own.elem{w:World}{e:TypeId}{sz:Nat}{s:Value}{n:Nat}{cs:List Value}(h:Own w e sz s n cs){i:Nat}(hi:i<n):
  ∃b cap,s=.slice (some ⟨b,0,none⟩) n cap∧At w b (i*sz) ((cs.drop (i*sz)).take sz):=by
 obtain⟨hl,⟨rfl,rfl⟩|⟨b,cap,rest,rfl,hc,hh,hr⟩⟩:=h
 ·omega
 ·have hle:i*sz+sz≤cs.length:=by
   rw[hl]
   have:(i+1)*sz≤n*sz:=Nat.mul_le_mul_right _ hi
   rw[Nat.add_mul]at this;omega
  have hA:At w b 0 cs:=⟨_,_,_,hh,by simp,by simp⟩
  have:=hA.sub (i*sz) sz hle
  exact⟨b,cap,rfl,by simpa using this⟩
theorem rx_make{P:Program}{t e:TypeId}{sz by_:Nat}{w:World}{K:Kont}{kl kc:IntKind}{l c:Int}{z:Value}(ht:P.underlying t=some (.slice e))(hE:ElemT P e sz by_)(h0:0≤l)(hlc:l≤c)(hb:(by_:Int)*c≤281474976710656)
  (hz:(P.info? e).bind (·.zero)=some z)
  (hK:K (.slice (some ⟨w.heap.size,0,none⟩) l.toNat c.toNat) (w.alloc (.cells (madeCells z.cells (c.toNat*sz)) e))):
  rx P (xMake t (.int kl l) (.int kc c)) w K:=by
 obtain⟨⟨i,z',hi,hz',hsz,hby,hzs,hz1⟩,hpos,hbpos⟩:=hE
 have:z=z' :=by rw[hi]at hz;simpa [hz']using hz.symm
 subst this
 have h63:c≤9223372036854775807:=by
  have h1:(1:Int)*c≤(by_:Int)*c:=Int.mul_le_mul_of_nonneg_right (by omega) (by omega)
  omega
 exact rx_of (by unfold xMake;exact run_make w t e i z ht hi hz' kl kc l c h0 hlc (by rw[hby];exact hb) h63) (by rw[hsz];exact hK)
theorem fill_all(sz:Nat):∀(vs:List Value) (i:Nat) (pre rest:List Value),(∀v∈vs,v.cells.size=sz)→pre.length=i*sz→rest.length=vs.length*sz→
  Instr.fill (λi=>some (i*sz,sz)) (pre++rest).toArray ((vs.zipIdx i).map λp=>(p.2,p.1))=some (pre++vs.flatMap (·.cells.toList)).toArray
 | [],i,pre,rest,_,_,hr=>by
  have:rest=[]:=by simpa using hr
  subst this
  simp[fill_nil]
 |v::vs,i,pre,rest,hv,hp,hr=>by
  have hv0:=hv v (by simp)
  have hrl:sz≤rest.length:=by rw[hr,List.length_cons,Nat.add_mul];omega
  simp only[List.zipIdx_cons,List.map_cons]
  rw[fill_part (off:=i*sz) (size:=sz) rfl hv0 (by simp;omega)]
  have e:lay (pre++rest) (i*sz) v.cells.toList=(pre++v.cells.toList)++rest.drop sz:=by
   have hvl:v.cells.toList.length=sz:=by simpa using hv0
   simp only[lay,hvl]
   rw[←hp,List.take_left,←List.drop_drop,List.drop_left]
  rw[e,fill_all sz vs (i+1) _ _ (λu hu=>hv u (by simp[hu])) (by simp[hv0,hp,Nat.add_mul]) (by simp[hr,Nat.add_mul])]
  simp
theorem rx_lit{P:Program}{t e:TypeId}{sz by_ n:Nat}{w:World}{K:Kont}{parts:List (Nat×Value)}(vs:List Value)(ht:P.underlying t=some (.slice e))(hE:ElemT P e sz by_)
  (hp:parts=vs.zipIdx.map λp=>(p.2,p.1))(hn:vs.length=n)(hv:∀v∈vs,v.cells.size=sz)(hb:n*sz≤16777216)
  (hK:K (.slice (some ⟨w.heap.size,0,none⟩) n n) (w.alloc (.cells (vs.flatMap (·.cells.toList)).toArray e))):rx P (xLit t n parts) w K:=by
 obtain⟨⟨i,z,hi,hz,hsz,hby,hzs,hz1⟩,hpos,hbpos⟩:=hE
 subst hp
 have hb' :¬(2 ^ 24<n*sz):=by omega
 refine rx_of ?_ hK
 have hrun:∀zs:Array Value,(zs.toList.length=n*sz)→Instr.fill (λi=>some (i*sz,sz)) zs (vs.zipIdx.map λp=>(p.2,p.1))=some (vs.flatMap (·.cells.toList)).toArray:=λzs hzl=>by
  have:=fill_all sz vs 0 [] zs.toList hv (by simp) (by rw[hn];exact hzl)
  simpa using this
 by_cases h0:n*sz=0
 ·have h:=hrun (Array.map (λ_=>default) (Array.range 0)) (by simp[h0])
  simp[xLit,Instr.buildSlice,run_underlying ht,sizeOf,typeInfo,hi,hsz,h0,h,newRow,Result.andThen]
 ·have h:=hrun ((Array.range (n*sz)).map (z.cells[·%z.cells.size]!)) (by simp)
  have h' :Instr.fill (λi=>some (i*sz,sz)) ((Array.range (n*sz)).map (z.cells[·%sz]!)) (vs.zipIdx.map λp=>(p.2,p.1))=some (vs.flatMap (·.cells.toList)).toArray:=by rw[←hzs]at h⊢;exact h
  simp[xLit,Instr.buildSlice,run_underlying ht,sizeOf,typeInfo,zeroValue,hi,hz,hsz,h0,hb',h,h',newRow,Result.andThen]
def bv(l:List UInt8):List Value:=l.map λu=>.int .u8 (u.toNat:Int)
@[simp] theorem bv_length (l:List UInt8):(bv l).length=l.length:=by simp[bv]
@[simp] theorem bv_nil:bv []=[]:=rfl
@[simp] theorem bv_append (l l' :List UInt8):bv (l++l')=bv l++bv l' :=by simp[bv]
theorem bv_take(l:List UInt8)(n:Nat):(bv l).take n=bv (l.take n):=by simp[bv]
theorem bv_drop(l:List UInt8)(n:Nat):(bv l).drop n=bv (l.drop n):=by simp[bv]
theorem bv_one(l:List UInt8):(bv l).all (·.oneCell')=true:=by simp[bv,Value.oneCell']
theorem fold_push(ns:List UInt8):∀s:ByteArray,((ns.map λu=>(u.toNat:Int)).foldl (λr n=>r.push (UInt8.ofNat n.toNat)) s)=⟨s.data++ns.toArray⟩:=by
 induction ns with
 |nil=>intro s;simp
 |cons n ns ih=>
  intro s
  simp only[List.map_cons,List.foldl_cons]
  rw[ih]
  simp[ByteArray.push]
def strOf(l:List UInt8):ByteArray:=⟨l.toArray⟩
theorem run_toStr{P:Program}{s d e:TypeId}{w:World}{v:Value}{n:Nat}{l:List UInt8}
  (hs:P.underlying s=some (.slice e))(he:P.underlying e=some (.int .u8))(hd:P.underlying d=some .string)(h:Rd w 1 v n (bv l)):
  (xConv s d v).run P w=.ok (.string (strOf l)) w:=by
 have hl:l.length=n:=by simpa using h.1
 obtain⟨_,⟨rfl,a,c,rfl⟩|⟨b,off,cap,rfl,hc,hh⟩⟩:=h
 ·have:l=[]:=by simpa using hl
  subst this
  unfold xConv
  rw[run_convert_bytes_string w s d e _ _ _ hs he hd]
  cases a<;>rfl
 ·have hload:(loadCells ⟨b,off,none⟩ n).run P w=.ok (bv l).toArray w:=by
   have:=hh.loads (P:=P)
   simpa [hl]using this
  unfold xConv
  rw[run_convert_bytes_string w s d e _ _ _ hs he hd,run_bytesToString w _ _ _ (l.map λu=>(u.toNat:Int)) (by rw[hload];simp[bv]),fold_push]
  simp[strOf,ByteArray.empty,ByteArray.emptyWithCapacity]
  rfl
theorem rx_toStr{P:Program}{s d e:TypeId}{w:World}{K:Kont}{v:Value}{n:Nat}{l:List UInt8}
  (hs:P.underlying s=some (.slice e))(he:P.underlying e=some (.int .u8))(hd:P.underlying d=some .string)(h:Rd w 1 v n (bv l))(hK:K (.string (strOf l)) w):
  rx P (xConv s d v) w K:=rx_of (run_toStr hs he hd h) hK
@[simp] theorem strOf_append (l l' :List UInt8):strOf l++strOf l' =strOf (l++l'):=by
 apply ByteArray.ext
 simp[strOf]
@[simp] theorem strOf_size (l:List UInt8):(strOf l).size=l.length:=by simp[strOf,ByteArray.size]
@[simp] theorem strOf_toList (l:List UInt8):(strOf l).toList=l:=ByteArray.toList_mk l
@[simp] theorem strOf_inj {l l' :List UInt8}:strOf l=strOf l' ↔l=l' :=by
 refine⟨λh=>?_,λh=>by rw[h]⟩
 have:=congrArg (λb:ByteArray=>b.data.toList) h
 simpa [strOf]using this
def markFz(fz:Nat×Nat)(n:Nat):Nat×Nat:=if fz.1==fz.2 then(n,n+1)else(min fz.1 n,max fz.2 (n+1))
theorem heap_freeze1(w:World)(b n b' :Nat):(w.freeze ⟨b,n,none⟩ 1).heap[b']? =if b' =b then(match w.heap[b]? with|some (.cells c e fz)=>some (.cells c e (markFz fz n))|o=>o)else w.heap[b']? :=by
 unfold World.freeze
 rw[if_neg (by decide)]
 simp only
 rw[Array.getElem?_modify]
 by_cases h:b=b'
 ·subst h
  simp only[if_true]
  cases hh:w.heap[b]? with
  |none=>rfl
  |some o=>cases o<;>rfl
 ·rw[if_neg h,if_neg (λe=>h e.symm)]
theorem size_freeze1(w:World)(a:Addr):(w.freeze a 1).heap.size=w.heap.size:=by simp[World.freeze]
theorem Mod.freeze{F:Nat→Prop}{w w' :World}(h:Mod F w w'){b:Nat}(hb:F b∨w.heap.size≤b)(n:Nat):Mod F w (w'.freeze ⟨b,n,none⟩ 1):=
 ⟨by rw[size_freeze1];exact h.size,h.out,h.os,λb' hb' hf=>by
  rw[heap_freeze1,if_neg (λe=>by subst e;rcases hb with hb|hb;exact hf hb;omega)];exact h.blk b' hb' hf⟩
theorem rx_mark{P:Program}{t e e' :TypeId}{w:World}{K:Kont}{b n c:Nat}{C:Array Value}{fz:Nat×Nat}(ht:P.underlying t=some (.slice e))(he:P.underlying e=some (.int .u8))
  (hb:w.heap[b]? =some (.cells C e' fz))(hK:K (.slice (some ⟨b,0,none⟩) n c) (w.freeze ⟨b,C.size,none⟩ 1)):
  rx P (xConv t t (.slice (some ⟨b,0,none⟩) n c)) w K:=by
 refine rx_of (v:=.slice (some ⟨b,0,none⟩) n c) ?_ hK
 have hsh:w.shape? b=some (e',C.size):=by simp[World.shape?,hb]
 unfold xConv
 simp[convert,run_underlying ht,run_underlying he,markStringish,hsh]
end Go.Vc
namespace Go.Vc
open Go
section
variable{κ ν:Type} [DecidableEq κ]
def lk:List (κ×ν)→κ→Option ν
 | [],_=>none
 |(a,b)::r,k=>if a=k then some b else lk r k
def put:List (κ×ν)→κ→ν→List (κ×ν)
 | [],k,v=>[(k,v)]
 |(a,b)::r,k,v=>if a=k then(k,v)::r else(a,b)::put r k v
theorem lk_put(L:List (κ×ν))(k j:κ)(v:ν):lk (put L k v) j=if k=j then some v else lk L j:=by
 induction L with
 |nil=>simp[put,lk]
 |cons p r ih=>
  obtain⟨a,b⟩:=p
  simp only[put]
  by_cases h:a=k
  ·subst h
   rw[if_pos rfl]
   simp only[lk]
   split<;>rfl
  ·rw[if_neg h]
   simp only[lk,ih]
   by_cases h2:a=j
   ·rw[if_pos h2,if_pos h2,if_neg (λe=>h (h2.trans e.symm))]
   ·rw[if_neg h2,if_neg h2]
theorem lk_none_of_notMem{L:List (κ×ν)}{k:κ}(h:k ∉ L.map (·.1)):lk L k=none:=by
 induction L with
 |nil=>rfl
 |cons p r ih=>
  obtain⟨a,b⟩:=p
  simp only[List.map_cons,List.mem_cons,not_or]at h
  simp only[lk]
  rw[if_neg (λe=>h.1 e.symm)]
  exact ih h.2
theorem put_keys(L:List (κ×ν))(k:κ)(v:ν):(put L k v).map (·.1)=if k∈L.map (·.1)then L.map (·.1)else L.map (·.1)++[k]:=by
 induction L with
 |nil=>simp[put]
 |cons p r ih=>
  obtain⟨a,b⟩:=p
  simp only[put]
  by_cases h:a=k
  ·subst h;simp
  ·rw[if_neg h]
   simp only[List.map_cons,ih,List.mem_cons]
   have:¬k=a:=λe=>h e.symm
   simp only[this,false_or]
   split<;>simp
theorem put_nodup{L:List (κ×ν)}(h:(L.map (·.1)).Nodup)(k:κ)(v:ν):((put L k v).map (·.1)).Nodup:=by
 rw[put_keys]
 split
 ·exact h
 ·rename_i hk
  exact List.nodup_append.2 ⟨h,by simp,λa ha b hb=>by simp at hb;subst hb;exact λe=>hk (e▸ha)⟩
theorem lk_mem{L:List (κ×ν)}{k:κ}{v:ν}(h:lk L k=some v):(k,v)∈L:=by
 induction L with
 |nil=>cases h
 |cons q r ih=>
  obtain⟨a,b⟩:=q
  simp only[lk]at h
  split at h
  ·cases h;subst_vars;exact List.mem_cons_self ..
  ·exact List.mem_cons_of_mem _ (ih h)
end
structure KeyT(P:Program)(k:TypeId){κ:Type} [DecidableEq κ](enc:κ→Value):Prop where
 check:∀(w:World) (em:Bool) (x:κ),(Instr.checkKey em 10000 k (enc x)).run P w=.ok () w
 same:∀(w:World) (x:κ) (es:List MapEntry) (ks:List κ),es.map (·.key)=ks.map enc→
  ((Instr.findKey k (enc x) es).run P w=.ok none w∧x ∉ ks)∨∃i v,(Instr.findKey k (enc x) es).run P w=.ok (some (i,v)) w∧(es[i]?).map (·.val)=some v∧ks[i]? =some x∧∀j,j<i→ks[j]? ≠some x
 stays:∀(w:World) (x:κ),(Instr.keyThatStays (enc x) (enc x)).run P w=.ok (enc x) w
section
variable{P:Program}{k:TypeId}{κ:Type} [DecidableEq κ]{enc:κ→Value}
theorem find_asking(heq:∀(w:World) (x y:κ),(Op.equal k (enc x) (enc y)).run P w=.ok (decide (x=y)) w)(w:World)(x:κ):
  ∀(es:List MapEntry) (ks:List κ) (o:Nat),es.map (·.key)=ks.map enc→
  ((Instr.findAsking k (enc x) es o).run P w=.ok none w∧x ∉ ks)∨∃i v,(Instr.findAsking k (enc x) es o).run P w=.ok (some (o+i,v)) w∧(es[i]?).map (·.val)=some v∧ks[i]? =some x∧∀j,j<i→ks[j]? ≠some x
 | [],ks,o,h=>by
  have:ks=[]:=by cases ks<;>simp_all
  subst this
  exact .inl ⟨by simp[Instr.findAsking],by simp⟩
 |e::es,[],o,h=>by simp at h
 |e::es,y::ks,o,h=>by
  simp only[List.map_cons,List.cons.injEq]at h
  obtain⟨h1,h2⟩:=h
  by_cases hxy:x=y
  ·subst hxy
   refine .inr ⟨0,e.val,?_,by simp,by simp,λj hj=>absurd hj (Nat.not_lt_zero _)⟩
   simp[Instr.findAsking,h1,heq,Result.andThen]
  ·have hs:(Instr.findAsking k (enc x) (e::es) o).run P w=(Instr.findAsking k (enc x) es (o+1)).run P w:=by
    simp[Instr.findAsking,h1,heq,Result.andThen,hxy]
   rcases find_asking heq w x es ks (o+1) h2 with⟨h3,h4⟩|⟨i,v,h3,h4,h5,h6⟩
   ·exact .inl ⟨by rw[hs];exact h3,by simp[hxy,h4]⟩
   ·refine .inr ⟨i+1,v,by rw[hs,h3,show o+1+i=o+(i+1) by omega],by simpa using h4,by simpa using h5,λj hj=>?_⟩
    cases j with
    |zero=>simp;exact λe=>hxy e.symm
    |succ j=>simpa using h6 j (by omega)
theorem KeyT.asking{d:TypeDesc}(hd:P.underlying k=some d)(hnow:∀x y,Instr.sameNow d (enc x) (enc y)=none)
  (heq:∀(w:World) (x y:κ),(Op.equal k (enc x) (enc y)).run P w=.ok (decide (x=y)) w)
  (hc:∀(w:World) (em:Bool) (x:κ),(Instr.checkKey em 10000 k (enc x)).run P w=.ok () w)(hs:∀x,Instr.sameBits 10000 (enc x) (enc x)=true):KeyT P k enc where
 check:=hc
 stays w x:=by simp[Instr.keyThatStays,hs]
 same w x es ks h:=by
  cases es with
  |nil=>
   have:ks=[]:=by cases ks<;>simp_all
   subst this
   exact .inl ⟨by simp[Instr.findKey,run_underlying hd,Result.andThen,Instr.findNow],by simp⟩
  |cons e es=>
   cases ks with
   |nil=>simp at h
   |cons y ks=>
    have h1:e.key=enc y:=by simpa using(List.cons.inj h).1
    have hf:Instr.findNow d (enc x) (e::es) 0=none:=by simp[Instr.findNow,h1,hnow]
    have hr:(Instr.findKey k (enc x) (e::es)).run P w=(Instr.findAsking k (enc x) (e::es)).run P w:=by
     simp[Instr.findKey,run_underlying hd,Result.andThen,hf]
    rw[hr]
    have:=find_asking heq w x (e::es) (y::ks) 0 h
    simpa using this
theorem find_now{d:TypeDesc}(hnow:∀x y,Instr.sameNow d (enc x) (enc y)=some (decide (x=y)))(x:κ):
  ∀(es:List MapEntry) (ks:List κ) (o:Nat),es.map (·.key)=ks.map enc→
  (Instr.findNow d (enc x) es o=some none∧x ∉ ks)∨∃i v,Instr.findNow d (enc x) es o=some (some (o+i,v))∧(es[i]?).map (·.val)=some v∧ks[i]? =some x∧∀j,j<i→ks[j]? ≠some x
 | [],ks,o,h=>by
  have:ks=[]:=by cases ks<;>simp_all
  subst this
  exact .inl ⟨by simp[Instr.findNow],by simp⟩
 |e::es,[],o,h=>by simp at h
 |e::es,y::ks,o,h=>by
  simp only[List.map_cons,List.cons.injEq]at h
  obtain⟨h1,h2⟩:=h
  by_cases hxy:x=y
  ·subst hxy
   refine .inr ⟨0,e.val,?_,by simp,by simp,λj hj=>absurd hj (Nat.not_lt_zero _)⟩
   simp[Instr.findNow,h1,hnow]
  ·have hs:Instr.findNow d (enc x) (e::es) o=Instr.findNow d (enc x) es (o+1):=by
    simp[Instr.findNow,h1,hnow,hxy]
   rcases find_now hnow x es ks (o+1) h2 with⟨h3,h4⟩|⟨i,v,h3,h4,h5,h6⟩
   ·exact .inl ⟨by rw[hs];exact h3,by simp[hxy,h4]⟩
   ·refine .inr ⟨i+1,v,by rw[hs,h3,show o+1+i=o+(i+1) by omega],by simpa using h4,by simpa using h5,λj hj=>?_⟩
    cases j with
    |zero=>simp;exact λe=>hxy e.symm
    |succ j=>simpa using h6 j (by omega)
theorem KeyT.now{d:TypeDesc}(hd:P.underlying k=some d)(hnow:∀x y,Instr.sameNow d (enc x) (enc y)=some (decide (x=y)))
  (hc:∀(w:World) (em:Bool) (x:κ),(Instr.checkKey em 10000 k (enc x)).run P w=.ok () w)(hs:∀x,Instr.sameBits 10000 (enc x) (enc x)=true):KeyT P k enc where
 check:=hc
 stays w x:=by simp[Instr.keyThatStays,hs]
 same w x es ks h:=by
  rcases find_now hnow x es ks 0 h with⟨h1,h2⟩|⟨i,v,h1,h2⟩
  ·exact .inl ⟨by simp[Instr.findKey,run_underlying hd,Result.andThen,h1],h2⟩
  ·exact .inr ⟨i,v,by simp[Instr.findKey,run_underlying hd,Result.andThen,h1],h2⟩
theorem KeyT.int{ki:IntKind}(hd:P.underlying k=some (.int ki)):KeyT P k (λn:Int=>.int ki n):=
 KeyT.now hd (λx y=>by simp only[Instr.sameNow,if_true];congr 1) (λw em x=>by
  unfold Instr.checkKey
  simp[run_underlying hd,Result.andThen]) (λx=>by simp[Instr.sameBits])
end
section
variable{P:Program}{k:TypeId}{κ ν:Type} [DecidableEq κ]{enc:κ→Value}{ev:ν→Value}
def MapAt(enc:κ→Value)(ev:ν→Value)(w:World)(b:Nat)(L:List (κ×ν)):Prop:=
 (L.map (·.1)).Nodup∧∃es clock,w.heap[b]? =some (.map es clock)∧es.toList.map (λe=>(e.key,e.val))=L.map (λp=>(enc p.1,ev p.2))∧
  (∀x∈es.toList,x.born<clock)∧(es.toList.map (·.born)).Nodup
theorem MapAt.keep{w w' :World}{b:Nat}{L:List (κ×ν)}(h:MapAt enc ev w b L)(hb:w'.heap[b]? =w.heap[b]?):MapAt enc ev w' b L:=by
 obtain⟨hn,es,clock,he,hr⟩:=h
 exact⟨hn,es,clock,by rw[hb];exact he,hr⟩
theorem MapAt.lt{w:World}{b:Nat}{L:List (κ×ν)}(h:MapAt enc ev w b L):b<w.heap.size:=by
 obtain⟨hn,es,clock,he,hr⟩:=h
 exact lt_of_heap he
theorem MapAt.mod{F:Nat→Prop}{w w' :World}{b:Nat}{L:List (κ×ν)}(h:MapAt enc ev w b L)(hm:Mod F w w')(hf:¬F b):MapAt enc ev w' b L:=
 h.keep (hm.blk b h.lt hf)
theorem MapAt.new(w:World):MapAt enc ev (w.alloc (.map #[] 0)) w.heap.size ([]:List (κ×ν)):=
 ⟨by simp,#[],0,by rw[heap_alloc,if_pos rfl],by simp,by simp,by simp⟩
theorem keys_of_pairs{es:List MapEntry}{L:List (κ×ν)}(h:es.map (λe=>(e.key,e.val))=L.map (λp=>(enc p.1,ev p.2))):es.map (·.key)=(L.map (·.1)).map enc:=by
 have:=congrArg (List.map Prod.fst) h
 simp only[List.map_map]at this⊢
 exact this
theorem lk_at{L:List (κ×ν)}{x:κ}{i:Nat}{p:κ×ν}(h1:L[i]? =some p)(h2:p.1=x)(h3:∀j,j<i→(L.map (·.1))[j]? ≠some x):lk L x=some p.2:=by
 induction L generalizing i with
 |nil=>simp at h1
 |cons q r ih=>
  obtain⟨a,b⟩:=q
  cases i with
  |zero=>
   simp only[List.getElem?_cons_zero,Option.some.injEq]at h1
   subst h1
   simp only at h2
   simp[lk,h2]
  |succ i=>
   have:a≠x:=λe=>h3 0 (by omega) (by simp[e])
   simp only[lk,if_neg this]
   exact ih (by simpa using h1) (λj hj=>by simpa using h3 (j+1) (by omega))
theorem put_at{L:List (κ×ν)}{x:κ}{v:ν}{i:Nat}(h1:(L.map (·.1))[i]? =some x)(h3:∀j,j<i→(L.map (·.1))[j]? ≠some x):put L x v=L.set i (x,v):=by
 induction L generalizing i with
 |nil=>simp at h1
 |cons q r ih=>
  obtain⟨a,b⟩:=q
  cases i with
  |zero=>
   have:a=x:=by simpa using h1
   simp[put,this]
  |succ i=>
   have:a≠x:=λe=>h3 0 (by omega) (by simp[e])
   simp only[put,if_neg this,List.set_cons_succ]
   rw[ih (by simpa using h1) (λj hj=>by simpa using h3 (j+1) (by omega))]
theorem put_new{L:List (κ×ν)}{x:κ}{v:ν}(h:x ∉ L.map (·.1)):put L x v=L++[(x,v)]:=by
 induction L with
 |nil=>rfl
 |cons q r ih=>
  obtain⟨a,b⟩:=q
  simp only[List.map_cons,List.mem_cons,not_or]at h
  have h1:¬a=x:=λe=>h.1 e.symm
  simp only[put,if_neg h1,ih h.2,List.cons_append]
theorem eraseIdx_map' {α β:Type}(f:α→β):∀(l:List α) (i:Nat),(l.eraseIdx i).map f=(l.map f).eraseIdx i
 | [],_=>rfl
 |_::_,0=>rfl
 |a::l,i+1=>by simp[eraseIdx_map' f l i]
def zeroOfT(P:Program)(t:TypeId):Option Value:=(P.info? t).bind (·.zero)
theorem run_zeroOfT{t:TypeId}{z:Value}(h:zeroOfT P t=some z)(w:World):(zeroValue t).run P w=.ok z w:=by
 unfold zeroOfT at h
 cases hi:P.info? t with
 |none=>simp[hi]at h
 |some i=>simp[hi]at h;simp[zeroValue,typeInfo,hi,h]
def MapV(enc:κ→Value)(ev:ν→Value)(w:World)(m:Value)(L:List (κ×ν)):Prop:=
 (m=.map none∧L=[])∨∃b,m=.map (some b)∧MapAt enc ev w b L
theorem run_lookup{t e:TypeId}{w:World}{m:Value}{L:List (κ×ν)}{x:κ}{ok:Bool}{z:Value}(ht:P.underlying t=some (.map k e))(hk:KeyT P k enc)
  (hz:zeroOfT P e=some z)(hm:MapV enc ev w m L):
  (Instr.lookup t m (enc x) ok).run P w=.ok (match lk L x with|some v=>if ok then .tuple #[ev v,.bool true]else ev v|none=>if ok then .tuple #[z,.bool false]else z) w:=by
 rcases hm with⟨rfl,rfl⟩|⟨b,rfl,hn,es,clock,hb,he,_⟩
 ·rcases hk.same w x [] [] rfl with⟨h1,_⟩|⟨i,v,_,h2,_⟩
  ·simp[Instr.lookup,run_underlying ht,hk.check,h1,run_zeroOfT hz,Result.andThen,lk]
  ·simp at h2
 ·rcases hk.same w x es.toList (L.map (·.1)) (keys_of_pairs he)with⟨h1,h2⟩|⟨i,v,h1,h2,h3,h4⟩
  ·simp[Instr.lookup,run_underlying ht,MapKept.run_getObj_map hb,hk.check,h1,run_zeroOfT hz,Result.andThen,lk_none_of_notMem h2]
  ·have hi:i<L.length:=by simpa using(List.getElem?_eq_some_iff.1 h3).1
   have h5:L[i]? =some L[i]:=List.getElem?_eq_getElem hi
   have hx:(L[i]).1=x:=by simpa [h5]using h3
   have hv:v=ev (L[i]).2:=by
    have:=congrArg (λl=>(l[i]?).map Prod.snd) he
    simp only[List.getElem?_map,h5,Option.map_map,Option.map_some]at this
    have h6:(es.toList[i]?).map (·.val)=some (ev (L[i]).2):=by simpa [Function.comp_def]using this
    rw[h2]at h6
    exact Option.some.inj h6
   simp[Instr.lookup,run_underlying ht,MapKept.run_getObj_map hb,hk.check,h1,Result.andThen,lk_at h5 hx h4,hv]
theorem rx_look{t e:TypeId}{w:World}{K:Kont}{m:Value}{L:List (κ×ν)}{x:κ}(z:Value)(ht:P.underlying t=some (.map k e))(hk:KeyT P k enc)
  (hz:zeroOfT P e=some z)(hm:MapV enc ev w m L)(hK:K ((lk L x).elim z ev) w):rx P (xLook t m (enc x) false) w K:=
 rx_of (by unfold xLook;exact run_lookup ht hk hz hm) (by revert hK;cases lk L x<;>intro hK<;>exact hK)
theorem rx_look2{t e:TypeId}{w:World}{K:Kont}{m:Value}{L:List (κ×ν)}{x:κ}(z:Value)(ht:P.underlying t=some (.map k e))(hk:KeyT P k enc)
  (hz:zeroOfT P e=some z)(hm:MapV enc ev w m L)(hK:K (.tuple #[(lk L x).elim z ev,.bool (lk L x).isSome]) w):rx P (xLook t m (enc x) true) w K:=
 rx_of (by unfold xLook;exact run_lookup ht hk hz hm) (by revert hK;cases lk L x<;>intro hK<;>exact hK)
theorem rdX_look{t e:TypeId}{w:World}{K:Value→Prop}{m:Value}{L:List (κ×ν)}{x:κ}(z:Value)(ht:P.underlying t=some (.map k e))(hk:KeyT P k enc)
  (hz:zeroOfT P e=some z)(hm:MapV enc ev w m L)(hK:K ((lk L x).elim z ev)):rdX P (xLook t m (enc x) false) w K:=
 rdX_of (by unfold xLook;exact run_lookup ht hk hz hm) (by revert hK;cases lk L x<;>intro hK<;>exact hK)
theorem rdX_look2{t e:TypeId}{w:World}{K:Value→Prop}{m:Value}{L:List (κ×ν)}{x:κ}(z:Value)(ht:P.underlying t=some (.map k e))(hk:KeyT P k enc)
  (hz:zeroOfT P e=some z)(hm:MapV enc ev w m L)(hK:K (.tuple #[(lk L x).elim z ev,.bool (lk L x).isSome])):rdX P (xLook t m (enc x) true) w K:=
 rdX_of (by unfold xLook;exact run_lookup ht hk hz hm) (by revert hK;cases lk L x<;>intro hK<;>exact hK)
theorem set_pairs{es:List MapEntry}{L:List (κ×ν)}{i:Nat}{x:κ}{v:ν}{key val:Value}(h:es.map (λe=>(e.key,e.val))=L.map (λp=>(enc p.1,ev p.2)))(hkey:key=enc x)(hval:val=ev v):
  (es.modify i λe=>{e with key:=key,val:=val}).map (λe=>(e.key,e.val))=(L.set i (x,v)).map (λp=>(enc p.1,ev p.2)):=by
 subst hkey hval
 apply List.ext_getElem?
 intro j
 have hj:=congrArg (λl=>l[j]?) h
 simp only[List.getElem?_map]at hj
 simp only[List.getElem?_map,List.getElem?_modify,List.getElem?_set]
 by_cases hij:i=j
 ·subst hij
  simp only[if_true]
  have hl:es.length=L.length:=by simpa using congrArg List.length h
  by_cases hlt:i<L.length
  ·rw[if_pos hlt,List.getElem?_eq_getElem (by omega)];rfl
  ·rw[if_neg hlt,List.getElem?_eq_none (by omega)];rfl
 ·simp only[if_neg hij]
  simpa using hj
theorem run_mapUpdate{t e:TypeId}{w:World}{b:Nat}{L:List (κ×ν)}{x:κ}{v:ν}(ht:P.underlying t=some (.map k e))(hk:KeyT P k enc)(hm:MapAt enc ev w b L):
  ∃o,(Instr.mapUpdate t (.map (some b)) (enc x) (ev v)).run P w=.ok () (w.putObj b o)∧MapAt enc ev (w.putObj b o) b (put L x v):=by
 obtain⟨hn,es,clock,hb,he,hs1,hs2⟩:=hm
 rcases hk.same w x es.toList (L.map (·.1)) (keys_of_pairs he)with⟨h1,h2⟩|⟨i,u,h1,h2,h3,h4⟩
 ·refine⟨.map (es.push {key:=enc x,val:=ev v,born:=clock}) (clock+1),?_,put_nodup hn x v,_,_,by rw[heap_putObj,if_pos rfl,hb];rfl,?_,?_,?_⟩
  ·simp[Instr.mapUpdate,run_underlying ht,MapKept.run_getObj_map hb,hk.check,h1,MapKept.run_setObj_map _ hb,Result.andThen,World.putObj]
  ·simp[he,put_new h2]
  ·intro y hy
   simp only[Array.toList_push,List.mem_append,List.mem_singleton]at hy
   rcases hy with hy|rfl
   ·exact Nat.lt_succ_of_lt (hs1 y hy)
   ·exact Nat.lt_succ_self _
  ·simp only[Array.toList_push,List.map_append,List.map_cons,List.map_nil]
   refine List.nodup_append.2 ⟨hs2,by simp,?_⟩
   intro a ha b' hb'
   simp only[List.mem_singleton]at hb'
   subst hb'
   obtain⟨y,hy,rfl⟩:=List.mem_map.1 ha
   exact Nat.ne_of_lt (hs1 y hy)
 ·have hkey:(Option.map (λe=>e.key) es[i]?).getD (enc x)=enc x:=by
   have:=congrArg (λl=>l[i]?) (keys_of_pairs he)
   simp only[List.getElem?_map]at this h3
   rw[h3]at this
   rw[Array.getElem?_toList]at this
   rw[this];rfl
  have hmod:(es.modify i λe=>{e with key:=enc x,val:=ev v}).toList=es.toList.modify i λe=>{e with key:=enc x,val:=ev v}:=by simp
  refine⟨.map (es.modify i λe=>{e with key:=enc x,val:=ev v}) clock,?_,put_nodup hn x v,_,_,by rw[heap_putObj,if_pos rfl,hb];rfl,?_,?_,?_⟩
  ·simp[Instr.mapUpdate,run_underlying ht,MapKept.run_getObj_map hb,hk.check,h1,MapKept.run_setObj_map _ hb,Result.andThen,hkey,hk.stays,World.putObj]
  ·rw[put_at h3 h4,hmod];exact set_pairs he rfl rfl
  ·rw[hmod]
   intro y hy
   obtain⟨j,hj⟩:=List.mem_iff_getElem?.1 hy
   rw[List.getElem?_modify]at hj
   cases hej:es.toList[j]? with
   |none=>simp[hej]at hj
   |some y' =>
    rw[hej]at hj
    replace hj:(if i=j then _ else y')=y:=Option.some.inj hj
    have:=hs1 y' (List.mem_of_getElem? hej)
    by_cases hij:i=j
    ·rw[if_pos hij]at hj;subst hj;exact this
    ·rw[if_neg hij]at hj;subst hj;exact this
  ·rw[hmod]
   have:(es.toList.modify i λe=>{e with key:=enc x,val:=ev v}).map (·.born)=es.toList.map (·.born):=by
    apply List.ext_getElem?
    intro j
    simp only[List.getElem?_map,List.getElem?_modify]
    by_cases hij:i=j
    ·subst hij
     cases es.toList[i]? <;>simp
    ·simp[hij]
   rw[this];exact hs2
theorem rux_mapUp{t e:TypeId}{w:World}{K:World→Prop}{b:Nat}{L:List (κ×ν)}{x:κ}{v:ν}(ht:P.underlying t=some (.map k e))(hk:KeyT P k enc)(hm:MapAt enc ev w b L)
  (hK:∀w',MapAt enc ev w' b (put L x v)→Mod (λb' =>b' =b) w w' →w'.heap.size=w.heap.size→K w'):rux P (xMapUp t (.map (some b)) (enc x) (ev v)) w K:=by
 obtain⟨o,h1,h2⟩:=run_mapUpdate (v:=v) (x:=x) ht hk hm
 exact rux_of (by unfold xMapUp;exact h1) (hK _ h2 ((Mod.refl _ w).putObj (b:=b) (.inl (by simp)) _) (World.putObj_size ..))
end
end Go.Vc

namespace Go.Vc
open Go Go.ChangeShapes Go.WideShapes Go.ChangeAt Go.RowKit
section
variable{H:Type}{enc:TypeId×Value→H}{P:Program}
theorem Mod.same{W W' :World}(h:Mod (λ_=>False) W W'){p:MemPlace}(hp:p.block<W.heap.size):W.sameAt W' p:=by
 cases p with
 |cell b o=>exact World.cell?_of_block (w:=W) (h.blk b hp id)
 |map b=>exact h.blk b hp id
theorem Mod.frame{W W' :World}(h:Mod (λ_=>False) W W')(may:MemPlace→Prop):W.keptBut W' may:=by
 refine⟨h.os,h.out,λi hi=>?_⟩
 rw[h.blk i hi id]
 split<;>simp_all
theorem trodAll_carry{W W' :World}(hl:laidOutB P=true)(hm:Mod (λ_=>False) W W'):∀{ts:List TypeId} {vs:List Value} {ds:List (DataW H)} {ps:List MemPlace},
  (∀t∈ts,P.readableRec t=true∧t<P.types.size)→(∀x∈ps,x.block<W.heap.size)→DataW.TrodAll enc P W 0 (λ_=>true) true ts vs ds ps→
  DataW.TrodAll enc P W' 0 (λb=>decide (b<W.heap.size)) true ts vs ds ps
 | [],[],[],_,_,_,h=>h
 |t::ts,v::vs,d::ds,ps,ht,hp,⟨p,q,h1,h2,h3⟩=>by
  subst h3
  refine⟨p,q,?_,trodAll_carry hl hm (λt h=>ht t (List.mem_cons_of_mem _ h)) (λx hx=>hp x (List.mem_append_right _ hx)) h2,rfl⟩
  have hh:=ht t List.mem_cons_self
  exact WideElems.Trod_stays hl hh.1 hh.2 h1 (λx hx=>hm.same (hp x (List.mem_append_left _ hx))) (λx hx=>by simpa using hp x (List.mem_append_left _ hx))
theorem post_of_mod{f:Func}{s:ChangeSpec}{fresh handsOn:Bool}{W W' :World}{args:Array Value}{ds gs:List (DataW H)}{before:List MemPlace}{tb:TypeId}
  (hl:laidOutB P=true)(ht:(f.params.toList.all λt=>P.readableRec t&& Nat.blt t P.types.size)=true)(hv:s.vars=[])
  (hW:DataW.Whole enc P f.params.toList s.vars false W args.toList ds gs before)(hm:Mod (λ_=>False) W W')
  (hres:f.resultTypes= #[tb])(htb:P.underlying tb=some .bool)(hfn:s.fn H (ds++gs)={results:=[.lit (.bool true)],args:=ds}):
  s.post enc P f false fresh handsOn false W args (.bool true) W' :=by
 have hW0:=hW
 obtain⟨p,q,hA,hV,rfl,hfz,hnd⟩:=hW
 rw[hv]at hV
 obtain⟨rfl,rfl⟩:=trodVars_none hV
 have ht' :∀t∈f.params.toList,P.readableRec t=true∧t<P.types.size:=λt h=>by
  have:=List.all_eq_true.1 ht t h
  simp only[Bool.and_eq_true,Nat.blt_eq]at this
  exact this
 have hlt:=hW0.lt
 refine⟨ds,[],p++[],[],p,[],hW0,?_,?_,?_,hm.frame _,λh=>by cases h⟩
 ·rw[hfn,hres]
  exact trodAll_cons_mk (shut_bool htb true) trodAll_mk0
 ·rw[hfn]
  exact trodAll_carry hl hm ht' (λx hx=>hlt x (by simpa using hx)) hA
 ·rw[hv,hfn]
  rfl
theorem cell_block{w:World}{a:Addr}{v:Value}(h:w.cell? a=some v):a.spot=none∧∃C e fz,w.heap[a.block]? =some (.cells C e fz)∧C[a.off]? =some v:=by
 unfold World.cell? at h
 cases hh:w.heap[a.block]? with
 |none=>rw[hh]at h;cases h
 |some o=>
  rw[hh]at h
  cases o<;>simp at h
  obtain⟨hs,hc⟩:=h
  exact⟨hs,_,_,_,rfl,hc⟩
theorem rd_of_cells{w:World}{a:Addr}{n cap sz:Nat}{cs:List Value}(hc:n≤cap)(hl:cs.length=n*sz)(hcell:∀i v,cs[i]? =some v→w.cell? (a.add i)=some v)(hz:0<sz):Rd w sz (.slice (some a) n cap) n cs:=by
 by_cases h0:n=0
 ·subst h0
  exact⟨hl,.inl ⟨rfl,_,_,rfl⟩⟩
 have hpos:0<cs.length:=by rw[hl];exact Nat.mul_pos (by omega) hz
 obtain⟨b,off,spot⟩:=a
 obtain⟨hsp,C,e,fz,hC,-⟩:=cell_block (by have:=hcell 0 _ (List.getElem?_eq_getElem hpos);simpa [Addr.add]using this)
 simp only at hsp hC
 subst hsp
 have hget:∀i v,cs[i]? =some v→C[off+i]? =some v:=by
  intro i v hi
  have h1:=hcell i v hi
  have e1:(Addr.add ⟨b,off,none⟩ i)=⟨b,off+i,none⟩:=addr_add b off i
  rw[e1]at h1
  simpa [World.cell?,hC]using h1
 have hsz:off+(cs.length - 1)<C.size:=(Array.getElem?_eq_some_iff.1 (hget (cs.length - 1) _ (List.getElem?_eq_getElem (by omega)))).1
 refine⟨hl,.inr ⟨b,off,cap,rfl,hc,C,e,fz,hC,by omega,?_⟩⟩
 apply List.ext_getElem?
 intro i
 rw[List.getElem?_take]
 by_cases hi:i<cs.length
 ·rw[if_pos hi,List.getElem?_drop,Array.getElem?_toList,hget i _ (List.getElem?_eq_getElem hi),List.getElem?_eq_getElem hi]
 ·rw[if_neg hi,List.getElem?_eq_none (by omega)]
theorem rd_ints{t e:TypeId}{k:IntKind}{w:World}{base:Nat}{spare:Nat→Bool}{held:Bool}{fuel:Nat}{cs:List Value}{x:DataW H×List MemPlace}
  (ht:P.underlying t=some (.slice e))(he:P.underlying e=some (.int k))(hc:P.cellsOf e=1)(hd:DataW.trod enc P w base spare held fuel t cs=some x):
  ∃v,cs=[v]∧∃zs:List Int,Rd w 1 v zs.length (zs.map λn=>.int k n)∧∀n∈zs,(Lit.int k n).wf=true:=by
 rcases open_ints ht he hc hd with⟨rfl,-⟩|⟨a,len,cap,zs,rfl,-,hlc,-,hl,-,hcell,hwf⟩
 ·exact⟨_,rfl,[],⟨rfl,.inl ⟨rfl,_,_,rfl⟩⟩,by simp⟩
 ·have hll:len≤zs.length:=by rw[hl];split<;>omega
  refine⟨_,rfl,zs.take len,?_,λn hn=>hwf n (List.mem_of_mem_take hn)⟩
  have e:(zs.take len).length=len:=by simp;omega
  rw[e]
  refine rd_of_cells hlc (by simp;omega) (λi v hi=>?_) (by omega)
  have hi' :i<len:=by
   have:=(List.getElem?_eq_some_iff.1 hi).1
   simp at this;omega
  rw[hcell i (by omega),←hi]
  simp[List.getElem?_map,List.getElem?_take,hi',show i<zs.length by omega,List.getD]
theorem open_sl{t e:TypeId}{k:IntKind}{r:Reach}{b0:Nat}{w:World}{v:Value}{d:DataW H}{ps:List MemPlace}(ht:P.underlying t=some (.slice e))(he:P.underlying e=some (.int k))(hc:P.cellsOf e=1)
  (hval:Value.okWide P w r b0 t v)(hd:DataW.Trod enc P w 0 (λ_=>true) true t v d ps):
  ∃zs:List Int,Rd w 1 v zs.length (zs.map λn=>.int k n)∧∀n∈zs,(Lit.int k n).wf=true:=by
 have hag:v.cells.toList=[v]:=by
  unfold Value.okWide at hval
  rw[ht]at hval
  simp only[Cell.okWide,ht]at hval
  unfold Cell.ok at hval
  rw[ht]at hval
  cases v<;>first|rfl|exact hval.elim
 obtain⟨fuel,hd⟩:=hd
 rw[hag]at hd
 obtain⟨v',e,h⟩:=rd_ints ht he hc hd
 cases e
 exact h
theorem bv_of_ints{zs:List Int}(h:∀n∈zs,(Lit.int .u8 n).wf=true):bv (zs.map λn=>UInt8.ofNat n.toNat)=zs.map λn=>.int .u8 n:=by
 simp only[bv,List.map_map]
 refine List.map_congr_left λn hn=>?_
 have hw:=h n hn
 simp[Lit.wf,IntKind.min,IntKind.max,IntKind.signed,IntKind.bits]at hw
 simp only[Function.comp,Value.int.injEq,true_and]
 simp
 omega
theorem open_bs{t e:TypeId}{r:Reach}{b0:Nat}{w:World}{v:Value}{d:DataW H}{ps:List MemPlace}(ht:P.underlying t=some (.slice e))(he:P.underlying e=some (.int .u8))(hc:P.cellsOf e=1)
  (hval:Value.okWide P w r b0 t v)(hd:DataW.Trod enc P w 0 (λ_=>true) true t v d ps):
  ∃l:List UInt8,Rd w 1 v l.length (bv l):=by
 obtain⟨zs,h1,h2⟩:=open_sl ht he hc hval hd
 refine⟨zs.map λn=>UInt8.ofNat n.toNat,?_⟩
 rw[bv_of_ints h2,List.length_map]
 exact h1
end
end Go.Vc

namespace Go.Proofs.YtgebhcgmckjbbaaGreat
open Go Go.Vc Go.Proofs Go.ChangeShapes Go.WideShapes Go.ChangeAt Go.RowKit
theorem own:ownKnob Tryz.prog.godebug=none:=by kernel_rfl
theorem laidOut:laidOutB Tryz.prog=true:=by kernel_rfl
end Go.Proofs.YtgebhcgmckjbbaaGreat

namespace Go.Vc
open Go
structure IterN(P:Program)(gv:Value)(xs:List (List Value))(Ok:World→Prop):Prop where
 out:∃f first captured,gv=.func (.func f) first captured∧∀(y:Value) (J:(Nat→Prop)→Nat→World→Prop) (Js:World→Prop) (W:World) (K:Kont),Ok W→
  (∀Q W1,Mod (λ_=>False) W W1→(∀b,Q b→W.heap.size≤b∧b<W1.heap.size)→J Q 0 W1)→
  (∀Q i W W',J Q i W→Mod (λ_=>False) W W' →J Q i W')→
  (∀Q i x W,xs[i]? =some x→J Q i W→∀K' :Kont,(∀W',J Q (i+1) W' →(∀b,Q b→W'.heap[b]? =W.heap[b]?)→K' (.bool true) W')→(∀W',Js W' →K' (.bool false) W')→callV P y x W K')→
  (∀Q W,J Q xs.length W→K (.tuple #[]) W)→(∀W,Js W→K (.tuple #[]) W)→Ca P f ⟨first.toList++(y::captured.toList)⟩ W K
theorem beginK_of{l:Nat}{W:World}{K:World→Prop}{r:Loop}(h:W.heap[l]? =some (.loop r))(hs:r.state=.ready)(hK:K (W.putObj l (.loop {r with state:=.busy}))):beginK l W K:=
 ⟨⟨r,h,hs,hK⟩⟩
end Go.Vc

namespace Go.Vc
open Go
section
variable{P:Program}{k:TypeId}{κ ν:Type}{enc:κ→Value}{ev:ν→Value}
def MapIt(enc:κ→Value)(ev:ν→Value)(w:World)(it m:Nat)(rest:List (κ×ν)):Prop:=
 ∃es clock seen,w.heap[m]? =some (.map es clock)∧w.heap[it]? =some (.mapIter (some m) clock seen clock)∧(∀x∈es.toList,x.born<clock)∧(es.toList.map (·.born)).Nodup∧
  (es.toList.filter λe=> !seen.contains e.born).map (λe=>(e.key,e.val))=rest.map (λp=>(enc p.1,ev p.2))
theorem MapIt.keep{w w' :World}{it m:Nat}{rest:List (κ×ν)}(h:MapIt enc ev w it m rest)(h1:w'.heap[m]? =w.heap[m]?)(h2:w'.heap[it]? =w.heap[it]?):MapIt enc ev w' it m rest:=by
 obtain⟨es,clock,seen,hm,hi,hr⟩:=h
 exact⟨es,clock,seen,by rw[h1];exact hm,by rw[h2];exact hi,hr⟩
theorem MapIt.lt{w:World}{it m:Nat}{rest:List (κ×ν)}(h:MapIt enc ev w it m rest):m<w.heap.size∧it<w.heap.size:=by
 obtain⟨es,clock,seen,hm,hi,hr⟩:=h
 exact⟨lt_of_heap hm,lt_of_heap hi⟩
theorem MapIt.mod{F:Nat→Prop}{w w' :World}{it m:Nat}{rest:List (κ×ν)}(h:MapIt enc ev w it m rest)(hm:Mod F w w')(h1:¬F m)(h2:¬F it):MapIt enc ev w' it m rest:=
 h.keep (hm.blk m h.lt.1 h1) (hm.blk it h.lt.2 h2)
def itLeft(it m:Nat)(w:World):Nat:=
 match w.heap[it]?,w.heap[m]? with
 |some (.mapIter _ _ seen _),some (.map es _)=>(es.toList.filter λe=> !seen.contains e.born).length
 |_,_=>0
theorem MapIt.left{w:World}{it m:Nat}{rest:List (κ×ν)}(h:MapIt enc ev w it m rest):itLeft it m w=rest.length:=by
 obtain⟨es,clock,seen,hm,hi,_,_,he⟩:=h
 unfold itLeft
 rw[hm,hi]
 simpa using congrArg List.length he
theorem rx_range [DecidableEq κ]{t e:TypeId}{w:World}{K:Kont}{b:Nat}{L:List (κ×ν)}(ht:P.underlying t=some (.map k e))(hm:MapAt enc ev w b L)
  (hK:∀w',MapIt enc ev w' w.heap.size b L→Mod (λ_=>False) w w' →K (.pointer (some ⟨w.heap.size,0,none⟩)) w'):rx P (xRange t (.map (some b))) w K:=by
 obtain⟨hn,es,clock,hb,he,hs1,hs2⟩:=hm
 refine rx_of (v:=.pointer (some ⟨w.heap.size,0,none⟩)) (w' :=w.alloc (.mapIter (some b) clock #[] clock)) ?_ (hK _ ⟨es,clock,#[],?_,?_,hs1,hs2,?_⟩ ((Mod.refl _ w).alloc _))
 ·simp[xRange,Instr.range,run_underlying ht,MapKept.run_getObj_map hb,Result.andThen]
 ·rw[heap_alloc,if_neg (by have:=lt_of_heap hb;omega)]
  exact hb
 ·rw[heap_alloc,if_pos rfl]
 ·rw[←he]
  congr 1
  exact List.filter_eq_self.2 λ_ _=>by simp
theorem run_getObj_iter{w:World}{r:Nat}{m:Option Nat}{a:Nat}{s:Array Nat}{c:Nat}(hb:w.heap[r]? =some (.mapIter m a s c)):(getObj r).run P w=.ok (.mapIter m a s c) w:=by
 simp[getObj,Sem.run,hb]
theorem run_setObj_iter{w:World}{r:Nat}{m:Option Nat}{a:Nat}{s:Array Nat}{c:Nat}(o:Obj)(hb:w.heap[r]? =some (.mapIter m a s c)):(setObj r o).run P w=.ok () (w.putObj r o):=by
 simp[setObj,Sem.run,hb,World.putObj]
def MapCur(enc:κ→Value)(ev:ν→Value)(w:World)(it m:Nat)(p:κ×ν):Prop:=
 ∃es clock since seen stamp e,w.heap[m]? =some (.map es clock)∧w.heap[it]? =some (.mapIter (some m) since seen clock)∧seen.back? =some stamp∧es.find? (λx=>x.born==stamp)=some e∧e.key=enc p.1∧e.val=ev p.2
theorem rx_entry{w:World}{K:Kont}{it m:Nat}{p:κ×ν}(h:MapCur enc ev w it m p)(hK:K (.tuple #[enc p.1,ev p.2]) w):rx P (xEntry (.pointer (some ⟨it,0,none⟩))) w K:=by
 obtain⟨es,clock,since,seen,stamp,e,hm,hi,hb,hf,hk,hv⟩:=h
 refine rx_of ?_ hK
 simp[xEntry,Instr.entry,run_getObj_iter hi,MapKept.run_getObj_map hm,Result.andThen,hb,hf,hk,hv]
theorem find_born{l:List MapEntry}{x:MapEntry}(hn:(l.map (·.born)).Nodup)(hx:x∈l):l.find? (λe=>e.born==x.born)=some x:=by
 induction l with
 |nil=>cases hx
 |cons y l ih=>
  simp only[List.map_cons,List.nodup_cons]at hn
  rcases List.mem_cons.1 hx with rfl|hx
  ·simp
  ·have:y.born≠x.born:=λh=>hn.1 (h▸List.mem_map_of_mem hx)
   rw[List.find?_cons_of_neg (by simpa using this)]
   exact ih hn.2 hx
theorem filter_seen(es:List MapEntry)(seen:Array Nat)(x:MapEntry)(hn:(es.map (·.born)).Nodup)(hx:x∈es)(hs: !seen.contains x.born)(i:Nat)
  (hi:(es.filter λe=> !seen.contains e.born)[i]? =some x):
  es.filter (λe=> !(seen.push x.born).contains e.born)=(es.filter λe=> !seen.contains e.born).eraseIdx i:=by
 have e1:es.filter (λe=> !(seen.push x.born).contains e.born)=(es.filter λe=> !seen.contains e.born).filter (λe=> !(e.born==x.born)):=by
  rw[List.filter_filter]
  apply List.filter_congr
  intro e _
  simp only[Array.contains_push,Bool.not_or]
  rw[Bool.and_comm]
 rw[e1]
 have hn2:((es.filter λe=> !seen.contains e.born).map (·.born)).Nodup:=hn.sublist (List.filter_sublist.map _)
 generalize(es.filter λe=> !seen.contains e.born)=l at hi hn2
 clear e1 hs hx hn
 induction l generalizing i with
 |nil=>simp at hi
 |cons y l ih=>
  simp only[List.map_cons,List.nodup_cons]at hn2
  cases i with
  |zero=>
   have:y=x:=by simpa using hi
   subst this
   rw[List.filter_cons_of_neg (by simp)]
   simp only[List.eraseIdx_cons_zero]
   refine List.filter_eq_self.2 λz hz=>?_
   have:z.born≠y.born:=λh=>hn2.1 (h▸List.mem_map_of_mem hz)
   simpa using this
  |succ i=>
   have hxl:x∈l:=List.mem_of_getElem? (by simpa using hi)
   have:y.born≠x.born:=λh=>hn2.1 (h▸List.mem_map_of_mem hxl)
   rw[List.filter_cons_of_pos (by simpa using this)]
   simp only[List.eraseIdx_cons_succ]
   rw[ih i (by simpa using hi) hn2.2]
theorem rx_next{t:TypeId}{w:World}{K:Kont}{it m:Nat}{rest:List (κ×ν)}(h:MapIt enc ev w it m rest)
  (h0:rest=[]→∀w',Mod (λ_=>False) w w' →w'.heap=w.heap→K (.tuple #[.bool false]) w')
  (h1:∀i p,rest[i]? =some p→∀w',MapIt enc ev w' it m (rest.eraseIdx i)→MapCur enc ev w' it m p→Mod (λb=>b=it) w w' →w'.heap.size=w.heap.size→K (.tuple #[.bool true,enc p.1,ev p.2]) w'):
  rx P (xNext (.pointer (some ⟨it,0,none⟩)) false t) w K:=by
 obtain⟨es,clock,seen,hm,hi,hs1,hs2,he⟩:=h
 have hlast:(!seen.isEmpty&& !es.isEmpty&& es.all (λx=>decide (x.born≥clock)))=false:=by
  cases hne:es.isEmpty with
  |true=>simp
  |false=>
   have hsz:0<es.size:=by
    rcases Nat.eq_zero_or_pos es.size with h|h
    ·rw[Array.isEmpty_iff.2 (Array.eq_empty_of_size_eq_zero h)]at hne;cases hne
    ·exact h
   have:(es.all λx=>decide (x.born≥clock))=false:=by
    rw[Bool.eq_false_iff]
    intro ht
    have h2:=hs1 es[0] (by simp)
    have h3:=Array.all_eq_true.1 ht 0 hsz
    simp at h3
    omega
   rw[this];simp
 have hold:(es.filter λe=> !seen.contains e.born).filter (λe=>decide (e.born<clock))=es.filter λe=> !seen.contains e.born:=by
  refine Array.filter_eq_self.2 λx hx=>?_
  exact decide_eq_true (hs1 x (by simpa using(Array.mem_filter.1 hx).1))
 have hnew:(es.filter λe=> !seen.contains e.born).filter (λe=>decide (e.born≥clock))= #[]:=by
  refine Array.filter_eq_empty_iff.2 λx hx=>?_
  have:=hs1 x (by simpa using(Array.mem_filter.1 hx).1)
  simp;omega
 have hlist:(es.filter λe=> !seen.contains e.born).toList=es.toList.filter λe=> !seen.contains e.born:=by simp
 generalize hL:(es.filter λe=> !seen.contains e.born)=left at hold hnew hlist
 have hlen:left.size=rest.length:=by
  rw[←Array.length_toList,hlist]
  simpa using congrArg List.length he
 by_cases hz:rest=[]
 ·subst hz
  have hl0:left= #[]:=Array.eq_empty_of_size_eq_zero (by simpa using hlen)
  subst hl0
  have hrun:(Instr.next (.pointer (some ⟨it,0,none⟩)) false t).run P w=.ok (.tuple #[.bool false]) w:=by
   unfold Instr.next
   simp only[Sem.run_bind,run_getObj_iter hi,MapKept.run_getObj_map hm,Result.andThen]
   rw[hlast]
   simp only[Bool.false_eq_true,if_false]
   rw[hL,hold,hnew]
   have e1:((if(#[]:Array MapEntry).isEmpty=true then #[none]else #[])++((#[]:Array MapEntry)++ #[]).map some)= #[none]:=by simp
   rw[e1]
   simp[run_choose,Question.forced,Result.andThen]
  exact rx_of (by unfold xNext;exact hrun) (h0 rfl w (Mod.refl _ w) rfl)
 ·have hpos:0<left.size:=by
   rw[hlen]
   exact List.length_pos_iff.2 hz
  have hne:left.isEmpty=false:=by
   cases h:left.isEmpty with
   |false=>rfl
   |true=>rw[Array.isEmpty_iff.1 h]at hpos;simp at hpos
  obtain⟨i,w1,hi1,hw1,hpick⟩:∃(i:Nat) (w1:World),i<left.size∧(w1=w∨w1=w.drew)∧(choose (Question.mapNext left.size)).run P w=.ok i w1:=by
   by_cases hf:(Question.mapNext left.size).forced=true
   ·exact⟨0,w,hpos,.inl rfl,by rw[run_choose,if_pos hf]⟩
   ·refine⟨_,w.drew,?_,.inr rfl,by rw[run_choose,if_neg hf];rfl⟩
    exact Nat.mod_lt _ hpos
  have hx:left[i]? =some left[i]:=Array.getElem?_eq_getElem hi1
  have hxl:(es.toList.filter λe=> !seen.contains e.born)[i]? =some left[i]:=by
   rw[←hlist,Array.getElem?_toList];exact hx
  have hxm:=List.mem_of_getElem? hxl
  have hi2:i<rest.length:=by omega
  have hp:(left[i].key,left[i].val)=(enc rest[i].1,ev rest[i].2):=by
   have:=congrArg (λl=>l[i]?) he
   simp only[List.getElem?_map,hxl,List.getElem?_eq_getElem hi2,Option.map_some,Option.some.injEq]at this
   exact this
  have hw1h:w1.heap=w.heap:=by rcases hw1 with rfl|rfl<;>rfl
  have hi' :w1.heap[it]? =some (.mapIter (some m) clock seen clock):=by rw[hw1h];exact hi
  have hm' :w1.heap[m]? =some (.map es clock):=by rw[hw1h];exact hm
  have hmod1:Mod (λb=>b=it) w w1:=by
   rcases hw1 with rfl|rfl
   ·exact Mod.refl _ _
   ·exact(Mod.refl _ _).drew
  have hne2:it≠m:=by
   intro h
   subst h
   rw[hi]at hm
   cases hm
  have hrun:(Instr.next (.pointer (some ⟨it,0,none⟩)) false t).run P w=.ok (.tuple #[.bool true,left[i].key,left[i].val]) (w1.putObj it (.mapIter (some m) clock (seen.push left[i].born) clock)):=by
   unfold Instr.next
   simp only[Sem.run_bind,run_getObj_iter hi,MapKept.run_getObj_map hm,Result.andThen]
   rw[hlast]
   simp only[Bool.false_eq_true,if_false]
   rw[hL,hold,hnew,hne]
   have e1:((if false=true then #[none]else #[])++(left++ #[]).map some)=left.map some:=by simp
   rw[e1]
   simp only[Sem.run_bind,Sem.run_pure,Array.size_map,hpick,Result.andThen,Array.getElem?_map,hx,Option.map_some,run_setObj_iter _ hi']
  refine rx_of (by unfold xNext;exact hrun) ?_
  have e2:left[i].key=enc rest[i].1:=(Prod.mk.inj hp).1
  have e3:left[i].val=ev rest[i].2:=(Prod.mk.inj hp).2
  rw[e2,e3]
  refine h1 i rest[i] (List.getElem?_eq_getElem hi2) _ ⟨es,clock,seen.push left[i].born,?_,?_,hs1,hs2,?_⟩ ?_ (hmod1.putObj (.inl rfl) _) ?_
  ·rw[heap_putObj,if_neg (λe=>hne2 e.symm)];exact hm'
  ·rw[heap_putObj,if_pos rfl,hi'];rfl
  ·rw[filter_seen es.toList seen left[i] hs2 (List.mem_filter.1 hxm).1 (List.mem_filter.1 hxm).2 i hxl,eraseIdx_map',he,←eraseIdx_map']
  ·refine⟨es,clock,clock,seen.push left[i].born,left[i].born,left[i],?_,?_,by simp,?_,e2,e3⟩
   ·rw[heap_putObj,if_neg (λe=>hne2 e.symm)];exact hm'
   ·rw[heap_putObj,if_pos rfl,hi'];rfl
   ·rw[←Array.find?_toList]
    exact find_born hs2 (List.mem_filter.1 hxm).1
  ·rw[World.putObj_size,hw1h]
end
theorem run_index_one{P:Program}{w:World}{xt e:TypeId}{len:Nat}{cs:Array Value}{k:IntKind}{i:Nat}{v:Value}(hx:P.underlying xt=some (.array len e))(ha:isAggT P e=false)(hu:(P.underlying e).isSome=true)(hn:P.cellsOf e=0+1)(hi:i<len)(hv:cs[i]? =some v):
  (Instr.index xt (.agg cs) (.int k i)).run P w=.ok v w:=by
 have hi' :(i:Int)<len:=by omega
 have hag:(isAgg e).run P w=.ok false w:=by
  unfold isAgg
  unfold isAggT at ha
  cases hd:P.underlying e with
  |none=>rw[hd]at hu;cases hu
  |some d=>
   rw[hd]at ha
   simp only[Sem.run_bind,run_underlying hd,Result.andThen]
   cases d<;>first|rfl|(simp at ha)
 simp[Instr.index,run_underlying hx,Result.andThen,hi',hi,run_sizeOf hn,part,hag,asIntOf,hv]
theorem run_look2{P:Program}{κ ν:Type} [DecidableEq κ]{enc:κ→Value}{ev:ν→Value}{t k e:TypeId}{w:World}{m:Value}{L:List (κ×ν)}{x:κ}{z:Value}(ht:P.underlying t=some (.map k e))(hk:KeyT P k enc)
  (hz:zeroOfT P e=some z)(hm:MapV enc ev w m L):(xLook t m (enc x) true).run P w=.ok (.tuple #[(lk L x).elim z ev,.bool (lk L x).isSome]) w:=by
 unfold xLook
 rw[run_lookup ht hk hz hm]
 cases lk L x<;>rfl
theorem run_lenMap{P:Program}{κ ν:Type} [DecidableEq κ]{enc:κ→Value}{ev:ν→Value}{t k e ty:TypeId}{w:World}{b:Nat}{L:List (κ×ν)}(ht:P.underlying t=some (.map k e))(h:MapAt enc ev w b L):
  (Builtin.len_ #[t] ty #[.map (some b)]).run P w=.ok (.int .i64 L.length) w:=by
 obtain⟨hn,es,clock,hb,he,_⟩:=h
 have hl:es.size=L.length:=by simpa using congrArg List.length he
 simp[Builtin.len_,run_underlying ht,MapKept.run_getObj_map hb,Result.andThen,goInt,hl]
theorem perm_eraseIdx{α:Type}{l:List α}{i:Nat}{p:α}(h:l[i]? =some p):l.Perm (p::l.eraseIdx i):=by
 induction l generalizing i with
 |nil=>simp at h
 |cons x l ih=>
  cases i with
  |zero=>
   have:x=p:=by simpa using h
   subst this
   exact List.Perm.refl _
  |succ i=>
   simp only[List.eraseIdx_cons_succ]
   exact((ih (by simpa using h)).cons x).trans (List.Perm.swap ..)
end Go.Vc
