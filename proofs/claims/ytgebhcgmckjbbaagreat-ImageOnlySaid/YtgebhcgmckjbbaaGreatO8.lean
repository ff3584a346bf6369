/- Part of a proof. -/
import Derived.Lib.Overlaps
import Derived.Test.YtgebhcgmckjbbaaGreatO7
set_option linter.all false
namespace Go.Vc
open Go
theorem rx_appendInK{P:Program}{t u ty e e' :TypeId}{sz:Nat}{w:World}{K:Kont}{b off n m cap:Nat}{C:Array Value}{T:TypeId}{x:Value}{news:List Value}
  (ht:P.underlying t=some (.slice e))(hu:P.underlying u=some (.slice e'))(hc:P.cellsOf e=sz+1)(hb:w.heap[b]? =some (.cells C T (0,0)))(hroom:n+m≤cap)
  (hx:Rd w (sz+1) x m news)(h1:news.all (·.oneCell')=true)(hfit:off+(n+m)*(sz+1)≤C.size)
  (hK:K (.slice (some ⟨b,off,none⟩) (n+m) cap) (w.setRow b (lay C.toList (off+n*(sz+1)) news).toArray)):rx P (xAppend #[t,u] ty [.slice (some ⟨b,off,none⟩) n cap,x]) w K:=by
 obtain⟨i,hi,hsz⟩:=info_of_cells (n:=sz) hc
 have hlen:news.length=m*(sz+1):=hx.1
 have hfx:=hx.first (P:=P) (Nat.succ_pos _)
 have hst:=run_storeCells_at P b (off+n*(sz+1)) T news 0 C w hb (by simp only[hlen];rw[Nat.add_mul]at hfit;omega) (oneAll_mem h1)
 simp only[Nat.add_zero]at hst
 refine rx_of (v:=.slice (some ⟨b,off,none⟩) (n+m) cap) (w' :=w.setRow b (lay C.toList (off+n*(sz+1)) news).toArray) ?_ hK
 have e0:(⟨b,off,none⟩:Addr).add (n*(sz+1))=⟨b,off+n*(sz+1),none⟩:=by rw[addr_add]
 unfold lay
 simp[xAppend,Builtin.append_,run_underlying ht,sizeOf,typeInfo,hi,hsz,run_underlying hu,hx.lenOf,Result.andThen,hfx,hroom]
 rw[e0,hst]
 simp[List.append_assoc]
theorem rx_copyK{P:Program}{dT sT ty e:TypeId}{sz:Nat}{w:World}{K:Kont}{g o dLen dCap sLen k:Nat}{src:Value}{all:List Value}{cur:Array Value}{t:TypeId}
  (hu:P.underlying dT=some (.slice e))(hs:P.cellsOf e=sz+1)(hg:w.heap[g]? =some (.cells cur t (0,0)))(hsrc:Rd w (sz+1) src sLen all)(hk:k=Nat.min sLen dLen)
  (hfit:o+k*(sz+1)≤cur.size)(h1:all.all (·.oneCell')=true)(hK:K (.int .i64 k) (w.setRow g (lay cur.toList o (all.take (k*(sz+1)))).toArray)):
  rx P (xCopy #[dT,sT] ty [.slice (some ⟨g,o,none⟩) dLen dCap,src]) w K:=by
 obtain⟨i,hi,hsz⟩:=info_of_cells (n:=sz) hs
 have hl:all.length=sLen*(sz+1):=hsrc.1
 have hks:k≤sLen:=by rw[hk];exact Nat.min_le_left _ _
 have hkm:k*(sz+1)≤sLen*(sz+1):=Nat.mul_le_mul_right _ hks
 have hkl:(all.take (k*(sz+1))).length=k*(sz+1):=by rw[List.length_take,hl];omega
 have h1' :∀v∈all.take (k*(sz+1)),v.oneCell' =true:=λv hv=>oneAll_mem h1 v (List.mem_of_mem_take hv)
 have hst:=run_storeCells_at P g o t (all.take (k*(sz+1))) 0 cur w hg (by rw[hkl];simpa using hfit) h1'
 simp only[Nat.add_zero]at hst
 have hload:(Builtin.firstCells (sz+1) k src).run P w=.ok (all.take (k*(sz+1))).toArray w:=by
  obtain⟨_,⟨h0,a,c,rfl⟩|⟨b,off,cap,rfl,hc,hh⟩⟩:=hsrc
  ·have hk0:k=0:=by omega
   subst hk0
   cases a<;>simp[Builtin.firstCells,loadCells,loadCellsFrom]
  ·have:=(hh.sub 0 (k*(sz+1)) (by omega)).loads (P:=P)
   simp only[List.drop_zero,Nat.add_zero,hkl]at this
   simpa [Builtin.firstCells]using this
 refine rx_of (v:=goInt (Nat.min sLen dLen)) (w' :=w.setRow g (lay cur.toList o (all.take (k*(sz+1)))).toArray) ?_ (by rw[←hk];exact hK)
 rw[hk]at hload hst⊢
 simp[xCopy,Builtin.copy_,run_underlying hu,hsrc.lenOf,sizeOf,typeInfo,hi,hsz,Result.andThen,hload,hst,lay]
theorem rx_clearK{P:Program}{t ty e:TypeId}{sz:Nat}{w:World}{K:Kont}{g o n c:Nat}{cur:Array Value}{T:TypeId}{by_:Nat}(ht:P.underlying t=some (.slice e))(hE:ElemT P e (sz+1) by_)
  (hg:w.heap[g]? =some (.cells cur T (0,0)))(hfit:o+n*(sz+1)≤cur.size)
  (hK:∀z:List Value,z.length=n*(sz+1)→z.all (·.oneCell')=true→K (.tuple #[]) (w.setRow g (lay cur.toList o z).toArray)):
  rx P (xClear #[t] ty [.slice (some ⟨g,o,none⟩) n c]) w K:=by
 obtain⟨⟨i,z,hi,hz,hsz,hby,hzs,hz1⟩,hpos,hbpos⟩:=hE
 have hl:(Builtin.zeroCells z.cells n).toList.length=n*(sz+1):=by rw[zeroCells_len,hzs]
 have h1:=zeroCells_all hz1 (by rw[hzs];exact hpos) n
 have hK:=hK _ hl h1
 have hst:=run_storeCells_at P g o T (Builtin.zeroCells z.cells n).toList 0 cur w hg (by rw[hl];simpa using hfit) (oneAll_mem h1)
 simp only[Nat.add_zero]at hst
 refine rx_of (v:=.tuple #[]) (w' :=w.setRow g (lay cur.toList o (Builtin.zeroCells z.cells n).toList).toArray) ?_ hK
 cases n with
 |zero=>
  have e:(Builtin.zeroCells z.cells 0).toList=[]:=List.eq_nil_of_length_eq_zero (by rw[hl];simp)
  rw[e]
  have hs:=setRow_self w g cur T (0,0) hg
  simp[xClear,Builtin.clear_,run_underlying ht,Result.andThen,lay,hs]
 |succ m=>simp[xClear,Builtin.clear_,run_underlying ht,zeroValue,typeInfo,hi,hz,Result.andThen,hst,lay]
theorem rx_appendZK{P:Program}{t u ty e:TypeId}{ku:IntKind}{sz by_:Nat}{w:World}{K:Kont}{s:Value}{n m:Nat}{cs:List Value}
  (ht:P.underlying t=some (.slice e))(hu:P.underlying u=some (.int ku))(hE:ElemT P e (sz+1) by_)
  (hs:Own w e (sz+1) s n cs)(hb:(n+m)*by_≤140737488355328)
  (hK:∀s' w' z,z.length=m*(sz+1)→z.all (·.oneCell')=true→Own w' e (sz+1) s' (n+m) (cs++z)→Mod (inSl s) w w' →(∀b,inSl s' b→inSl s b∨w.heap.size≤b)→(∀a c,s=.slice a n c→c<n+m→Mod (λ_=>False) w w' ∧∀b,inSl s' b→w.heap.size≤b)→K s' w'):
  rx P (xAppend #[t,u] ty [s,.int .i64 (m:Int)]) w K:=by
 obtain⟨⟨i,z,hi,hz,hsz,hby,hzs,hz1⟩,hpos,hbpos⟩:=hE
 have hneed:n+m≤140737488355328:=Nat.le_trans (Nat.le_mul_of_pos_right _ hbpos) hb
 have hmb:m*by_≤140737488355328:=Nat.le_trans (Nat.mul_le_mul_right _ (by omega)) hb
 have hlen:cs.length=n*(sz+1):=hs.1
 have hl:(Builtin.zeroCells z.cells m).toList.length=m*(sz+1):=by rw[zeroCells_len,hzs]
 have h1:=zeroCells_all hz1 (by rw[hzs];exact hpos) m
 have hwr:IntKind.i64.wrap (m:Int)=(m:Int):=by rw[IntKind.wrap_i64];omega
 have hneg:¬(m:Int)<0:=by omega
 have h48' :¬(281474976710656:Int)<(m:Int)*(i.bytes:Int):=by
  rw[hby,←Int.natCast_mul]
  omega
 obtain⟨base,cap,hsv,hcap,hrow⟩:∃base cap,s=.slice base n cap∧n≤cap∧((base=none∧n=0∧cap=0∧cs=[])∨∃b rest,base=some ⟨b,0,none⟩∧w.heap[b]? =some (.cells (cs++rest).toArray e (0,0))∧rest.length=(cap - n)*(sz+1)∧rest.all (·.oneCell')=true):=by
  rcases hs.2 with⟨rfl,rfl⟩|⟨b,cap,rest,rfl,hc,hh,hr⟩
  ·exact⟨none,0,rfl,Nat.le_refl _,.inl ⟨rfl,rfl,rfl,by simpa using hlen⟩⟩
  ·exact⟨_,cap,rfl,hc,.inr ⟨b,rest,rfl,hh,hr⟩⟩
 subst hsv
 obtain⟨L,hL⟩:∃L:Int,(m:Int)=L:=⟨_,rfl⟩
 rw[hL]
 rw[hL]at hwr
 have hwr:IntKind.i64.wrap L=(m:Int):=hwr.trans hL.symm
 clear hL
 generalize hZ:Builtin.zeroCells z.cells m=Z at hl h1
 by_cases h0:m=0
 ·subst h0
  have hZ0:Z= #[]:=Array.eq_empty_of_size_eq_zero (by rw[←Array.length_toList,hl];simp)
  refine rx_of (v:=.slice base n cap) (w' :=w) ?_ (hK _ _ [] (by simp) rfl (by simpa using hs) (Mod.refl _ _) (λb hb=>.inl hb) λa c he hlt=>by injection he with e1 e2 e3;omega)
  rcases hrow with⟨rfl,rfl,rfl,rfl⟩|⟨b,rest,rfl,hh,hrl,hr1⟩
  ·simp[xAppend,Builtin.append_,run_underlying ht,sizeOf,typeInfo,hi,hsz,run_underlying hu,Result.andThen,asInt,asIntOf,hwr]
  ·have hst:=run_storeCells_at P b (n*(sz+1)) e [] 0 (cs++rest).toArray w hh (by simp[hlen]) (by simp)
   simp only[Nat.add_zero]at hst
   have hself:=setRow_self w b (cs++rest).toArray e (0,0) hh
   have e0:(⟨b,0,none⟩:Addr).add (n*(sz+1))=⟨b,n*(sz+1),none⟩:=by rw[addr_add];simp
   have hnc:¬cap<n:=by omega
   simp at hst
   simp[xAppend,Builtin.append_,run_underlying ht,sizeOf,typeInfo,hi,hsz,run_underlying hu,Result.andThen,asInt,asIntOf,hwr,hcap,e0,hst]
   simpa using hself
 have h0' :¬m*(sz+1)=0:=by
  rw[Nat.mul_eq_zero];omega
 by_cases hroom:n+m≤cap
 ·rcases hrow with⟨rfl,rfl,rfl,rfl⟩|⟨b,rest,rfl,hh,hrl,hr1⟩
  ·omega
  ·have hst:=run_storeCells_at P b (n*(sz+1)) e Z.toList 0 (cs++rest).toArray w hh (by
    simp only[List.size_toArray,List.length_append,hlen,hrl,hl]
    have:=Nat.mul_le_mul_right (sz+1) hroom
    rw[Nat.add_mul]at this
    rw[Nat.sub_mul]
    omega) (oneAll_mem h1)
   simp only[Nat.add_zero]at hst
   have hrow2:(cs++rest).take (n*(sz+1))++Z.toList++(cs++rest).drop (n*(sz+1)+Z.toList.length)=(cs++Z.toList)++rest.drop Z.toList.length:=by
    rw[←hlen]
    simp[List.append_assoc]
   refine rx_of (v:=.slice (some ⟨b,0,none⟩) (n+m) cap) (w' :=w.setRow b ((cs++Z.toList)++rest.drop Z.toList.length).toArray) ?_ (hK _ _ Z.toList hl h1 ⟨?_,.inr ⟨b,cap,rest.drop Z.toList.length,rfl,hroom,?_,?_,?_⟩⟩ ?_ ?_ λa c he hlt=>by injection he with e1 e2 e3;omega)
   ·simp only[hrow2]at hst
    have e0:(⟨b,0,none⟩:Addr).add (n*(sz+1))=⟨b,n*(sz+1),none⟩:=by rw[addr_add];simp
    simp[xAppend,Builtin.append_,run_underlying ht,sizeOf,typeInfo,zeroValue,hz,hi,hsz,run_underlying hu,Result.andThen,asInt,asIntOf,hwr,hroom,e0,hneg,h48',h0,hZ,hst]
    have hst' :=hst
    simp at hst'
    rw[if_neg h0']
    simp only
    rw[hst']
   ·rw[List.length_append,hlen,hl,Nat.add_mul]
   ·rw[heap_setRow,if_pos rfl,hh]
   ·rw[List.length_drop,hrl,hl,←Nat.sub_mul];congr 1;omega
   ·exact List.all_eq_true.2 λv hv=>List.all_eq_true.1 hr1 v (List.mem_of_mem_drop hv)
   ·exact(Mod.refl (inSl (.slice (some ⟨b,0,none⟩) n cap)) w).setRow (.inl (show inSl _ b from rfl)) _
   ·intro b' hb';exact .inl hb'
 ·have hfit:=growslice_fits (old:=cap) (need:=n+m) (bytes:=by_) (by omega) hb
  have h48:¬(281474976710656<Builtin.nextslicecap (n+m) cap*i.bytes):=by rw[hby];omega
  have h63:¬(9223372036854775807<((n:Int)+(m:Int))):=by omega
  have hcapge:n+m≤grownCap w (n+m) cap e:=by simp[grownCap,Question.cut]
  have hrs:Rd w.drew (sz+1) (.slice base n cap) n cs:=hs.rd.keep λ_ _=>rfl
  have hf1:=hrs.first (P:=P) hpos
  refine rx_of (v:=.slice (some ⟨w.heap.size,0,none⟩) (n+m) (grownCap w (n+m) cap e))
   (w' :=w.drew.alloc (.cells (cs.toArray++Z++Builtin.zeroCells z.cells (grownCap w (n+m) cap e - (n+m))) e)) ?_ (hK _ _ Z.toList hl h1 ⟨?_,.inr ⟨w.heap.size,_,(Builtin.zeroCells z.cells (grownCap w (n+m) cap e - (n+m))).toList,rfl,hcapge,?_,?_,?_⟩⟩ ?_ ?_ λa c he hlt=>⟨((Mod.refl _ w).drew).alloc _,λb hb=>by cases hb;exact Nat.le_refl _⟩)
  ·simp[xAppend,Builtin.append_,run_underlying ht,sizeOf,typeInfo,zeroValue,hi,hz,hsz,run_underlying hu,Result.andThen,asInt,asIntOf,hwr,hneg,h48',h0,hroom,h63,h48,Question.forced,hf1,newRow,grownCap,hZ]
   rw[if_neg h0']
   rfl
  ·rw[List.length_append,hlen,hl,Nat.add_mul]
  ·rw[heap_alloc,if_pos (show w.heap.size=w.drew.heap.size from rfl)]
   simp
  ·rw[zeroCells_len,hzs]
  ·exact zeroCells_all hz1 (by rw[hzs];exact hpos) _
  ·exact((Mod.refl _ w).drew).alloc _
  ·rintro b' hb'
   cases hb'
   exact .inr (Nat.le_refl _)
section
variable{α:Type}{f:α→List Value}{S:Nat}
theorem flT(hf:∀x,(f x).length=S):∀(l:List α) (i:Nat),(l.flatMap f).take (i*S)=(l.take i).flatMap f
 | [],i=>by simp
 |x::l,0=>by simp
 |x::l,i+1=>by
  have e:(i+1)*S=(f x).length+i*S:=by rw[hf x,Nat.add_mul];omega
  rw[List.flatMap_cons,List.take_succ_cons,List.flatMap_cons,e,List.take_length_add_append,flT hf l i]
theorem flD(hf:∀x,(f x).length=S):∀(l:List α) (i:Nat),(l.flatMap f).drop (i*S)=(l.drop i).flatMap f
 | [],i=>by simp
 |x::l,0=>by simp
 |x::l,i+1=>by
  have e:(i+1)*S=(f x).length+i*S:=by rw[hf x,Nat.add_mul];omega
  rw[List.flatMap_cons,List.drop_succ_cons,e,←List.drop_drop,List.drop_left,flD hf l i]
theorem flL(hf:∀x,(f x).length=S)(l:List α):(l.flatMap f).length=l.length*S:=flat_len f S l λx _=>hf x
theorem flO(hf:∀x,(f x).all (·.oneCell')=true)(l:List α):(l.flatMap f).all (·.oneCell')=true:=by
 rw[List.all_flatMap,List.all_eq_true]
 exact λx _=>hf x
theorem Rd.item{w:World}{v:Value}{n:Nat}{l:List α}(hf:∀x,(f x).length=S)(h:Rd w S v n (l.flatMap f)){i:Nat}(hi:i<l.length)(hn:n=l.length):
  ∃b off cap,v=.slice (some ⟨b,off,none⟩) n cap∧n≤cap∧At w b (off+i*S) (f l[i]):=by
 obtain⟨hl,⟨h0,_⟩|⟨b,off,cap,rfl,hc,hA⟩⟩:=h
 ·omega
 ·refine⟨b,off,cap,rfl,hc,?_⟩
  have hm:(i+1)*S≤l.length*S:=Nat.mul_le_mul_right S hi
  rw[Nat.add_mul]at hm
  have:=hA.sub (i*S) S (by rw[flL hf];omega)
  rwa[flat_get f S l i (λx _=>hf x) hi]at this
end
theorem Own.pos{w:World}{e:TypeId}{sz:Nat}{v:Value}{n:Nat}{cs:List Value}(h:Own w e sz v n cs)(hn:0<n):
  ∃b cap rest,v=.slice (some ⟨b,0,none⟩) n cap∧n≤cap∧w.heap[b]? =some (.cells (cs++rest).toArray e (0,0))∧rest.length=(cap - n)*sz∧(rest.all (·.oneCell')=true):=by
 obtain⟨hl,⟨rfl,rfl⟩|h⟩:=h
 ·omega
 ·exact h
theorem slHi{P:Program}{t e:TypeId}{b n cap hi:Nat}{sz:Nat}{kh:IntKind}(hu:P.underlying t=some (.slice e))(hc:P.cellsOf e=sz+1)(h:hi≤cap)(h0:0<cap)(W:World):
  (Instr.sliceAt t (.slice (some ⟨b,0,none⟩) n cap) none (some (.int kh (hi:Int))) none).run P W=.ok (.slice (some ⟨b,0,none⟩) hi cap) W:=by
 obtain⟨hE,he⟩:=elem_slice hu
 rw[run_sliceAt_slice W t _ _ _ _ hE,run_slice_h W t _ n cap hE kh hi (by omega) (by omega),he,run_sizeOf hc]
 simp only[Result.andThen,sliced,Int.toNat_natCast,Nat.zero_mul,Nat.sub_zero]
 rw[if_neg (by omega),Option.map_some,addr_add]
theorem slLoHi{P:Program}{t e:TypeId}{b n cap lo hi:Nat}{sz:Nat}{kl kh:IntKind}(hu:P.underlying t=some (.slice e))(hc:P.cellsOf e=sz+1)(h1:lo≤hi)(h2:hi≤cap)(h3:lo<cap)(W:World):
  (Instr.sliceAt t (.slice (some ⟨b,0,none⟩) n cap) (some (.int kl (lo:Int))) (some (.int kh (hi:Int))) none).run P W=.ok (.slice (some ⟨b,lo*(sz+1),none⟩) (hi - lo) (cap - lo)) W:=by
 obtain⟨hE,he⟩:=elem_slice hu
 rw[run_sliceAt_slice W t _ _ _ _ hE,run_slice_lh W t _ n cap hE kl kh lo hi (by omega) (by omega) (by omega),he,run_sizeOf hc]
 simp only[Result.andThen,sliced,Int.toNat_natCast]
 rw[if_neg (by omega),Option.map_some,addr_add,Nat.zero_add]
theorem slLo{P:Program}{t e:TypeId}{b n cap lo:Nat}{sz:Nat}{kl:IntKind}(hu:P.underlying t=some (.slice e))(hc:P.cellsOf e=sz+1)(h1:lo≤n)(h2:n≤cap)(h3:lo<cap)(W:World):
  (Instr.sliceAt t (.slice (some ⟨b,0,none⟩) n cap) (some (.int kl (lo:Int))) none none).run P W=.ok (.slice (some ⟨b,lo*(sz+1),none⟩) (n - lo) (cap - lo)) W:=by
 obtain⟨hE,he⟩:=elem_slice hu
 rw[run_sliceAt_slice W t _ _ _ _ hE,run_slice_l W t _ n cap hE kl lo (by omega) (by omega),he,run_sizeOf hc]
 simp only[Result.andThen,sliced,Int.toNat_natCast]
 rw[if_neg (by omega),Option.map_some,addr_add,Nat.zero_add]
theorem slAny3{P:Program}{t e:TypeId}{a:Option Addr}{n cap lo hi mx:Nat}{sz:Nat}{kl kh km:IntKind}(hu:P.underlying t=some (.slice e))(hc:P.cellsOf e=sz+1)(h1:lo≤hi)(h2:hi≤mx)(h3:mx≤cap)(W:World):
  ∃v,(Instr.sliceAt t (.slice a n cap) (some (.int kl (lo:Int))) (some (.int kh (hi:Int))) (some (.int km (mx:Int)))).run P W=.ok v W:=by
 obtain⟨hE,he⟩:=elem_slice hu
 have e1:=run_slice_lhm W t a n cap hE kl kh km lo hi mx (by omega) (by omega) (by omega) (by omega)
 rw[he,run_sizeOf hc]at e1
 exact⟨_,(run_sliceAt_slice W t _ _ _ _ hE).trans e1⟩
end Go.Vc
namespace Go.Proofs
open Go Go.Vc
attribute [local congr] Ca_congV
structure Od where
 num:Int
 acct:Int
 buy:Bool
 price:Int
 left:Int
 deriving DecidableEq
def odC(o:Od):List Value:=[.int .u64 o.num,.int .u32 o.acct,.bool o.buy,.int .i64 o.price,.int .i64 o.left]
theorem odC_len(o:Od):(odC o).length=5:=rfl
theorem odC_one(o:Od):(odC o).all (·.oneCell')=true:=rfl
def Od.Fit(o:Od):Prop:=U64' o.num∧U32' o.acct∧R64' o.price∧R64' o.left
abbrev tOd:TypeId:=117
abbrev tOds:TypeId:=133
theorem uOds:Tryz.prog.underlying tOds=some (.slice tOd):=by kernel_rfl
theorem nOd:Tryz.prog.cellsOf tOd=4+1:=by kernel_rfl
theorem eOd:elemOk Tryz.prog tOd 5 32=true:=by kernel_rfl
abbrev OdS(w:World)(s:Value)(l:List Od):Prop:=Own w tOd 5 s l.length (l.flatMap odC)
theorem ca_cloneOd{w:World}{K:Kont}{s:Value}{l:List Od}(h:Rd w 5 s l.length (l.flatMap odC))(hn:l.length≤1000000)
  (hK:∀s' w',OdS w' s' l→Mod (λ_=>False) w w' →(∀b,inSl s' b→w.heap.size≤b)→K s' w'):Ca Tryz.prog 111 #[s] w K:=by
 apply ca111
 unfold F111
 obtain⟨a,c,hs⟩:=h.isSl
 by_cases h0:a=none
 ·subst h0
  refine rvS (v:=.bool true) (w' :=w) (by rw[hs];simp[go_sem]) ?_
  rw[ifB_bool,if_pos rfl]
  have hl:l=[]:=by
   obtain⟨-,⟨hn0,_⟩|⟨b,off,cap,he,_⟩⟩:=h
   ·exact List.eq_nil_of_length_eq_zero hn0
   ·rw[hs]at he;cases he
  subst hl
  exact hK _ _ (Own.nil _ _ _) (Mod.refl _ _) λb hb=>by cases hb
 ·refine rvS (v:=.bool false) (w' :=w) (by rw[hs];cases a;exact absurd rfl h0;simp[go_sem]) ?_
  rw[ifB_bool,if_neg Bool.false_ne_true]
  exact dupV uOds (elemT_of eOd) h (flO odC_one l) (by omega) hK
set_option maxRecDepth 10000 in
theorem ca_deleteOd{w:World}{K:Kont}{s:Value}{l:List Od}{i j:Nat}(h:OdS w s l)(hij:i<j)(hj:j≤l.length)(hn:l.length≤1000000)
  (hK:∀s' w',OdS w' s' (l.take i++l.drop j)→Mod (inSl s) w w' →(∀b,inSl s' b→inSl s b)→K s' w'):Ca Tryz.prog 212 #[s,.int .i64 (i:Int),.int .i64 (j:Int)] w K:=by
 obtain⟨b,cap,rest,rfl,hc,hb,hrl,hr1⟩:=h.pos (by omega)
 have hl:=h.1
 apply ca212
 unfold F212
 refine rnS (v:=.int .i64 (l.length:Int)) (w' :=w) (by simp[go_sem]) ?_
 obtain⟨v2,hv2⟩:=slAny3 (P:=Tryz.prog) (t:=tOds) (a:=some ⟨b,0,none⟩) (n:=l.length) (cap:=cap) (lo:=i) (hi:=j) (mx:=l.length) (kl:=.i64) (kh:=.i64) (km:=.i64) uOds nOd (by omega) hj hc w
 refine rvS hv2 ?_
 have hne:¬(i:Int)=(j:Int):=by omega
 refine rvS (v:=.bool false) (by simp[go_sem,hne]<;>first|exact⟨rfl,rfl⟩|exact rfl) ?_
 rw[ifB_bool,if_neg Bool.false_ne_true]
 refine rnS (v:=.int .i64 (l.length:Int)) (w' :=w) (by simp[go_sem]) ?_
 refine rdPS (λW=>slHi uOds nOd (show i≤cap by omega) (by omega) W) ?_
 have hrd:Rd w 5 (.slice (some ⟨b,0,none⟩) l.length cap) l.length (l.flatMap odC):=h.rd
 obtain⟨v9,hv9,hd9,-⟩:=Rd.from_ (P:=Tryz.prog) (kl:=.i64) (lo:=j) uOds nOd hrd hj
 refine rdPS (λW=>hv9 W) ?_
 simp only[Nat.reduceAdd]at hd9
 rw[flD odC_len]at hd9
 have hD:((l.drop j).flatMap odC).length=(l.length - j)*5:=by rw[flL odC_len,List.length_drop]
 have hbd:w.drew.heap[b]? =some (.cells (l.flatMap odC++rest).toArray tOd (0,0)):=hb
 have hsz:(l.flatMap odC++rest).length=cap*5:=by rw[List.length_append,hl,hrl];omega
 refine rx_appendInK (m:=l.length - j) uOds uOds nOd hbd (by omega) (hd9.keep λ_ _=>rfl) (flO odC_one _) (by rw[List.size_toArray,hsz];omega) ?_
 have mW:Mod (inSl (.slice (some ⟨b,0,none⟩) l.length cap)) w (w.drew.setRow b (lay (l.flatMap odC++rest) (0+i*5) ((l.drop j).flatMap odC)).toArray):=((Mod.refl _ w).drew).setRow (.inl (show inSl (.slice (some ⟨b,0,none⟩) l.length cap) b from rfl)) _
 have hrow:lay (l.flatMap odC++rest) (0+i*5) ((l.drop j).flatMap odC)=(l.take i++l.drop j).flatMap odC++(l.flatMap odC++rest).drop ((i+(l.length - j))*5):=by
  unfold lay
  rw[hD,Nat.zero_add,List.take_append_of_le_length (by rw[hl];omega),flT odC_len,List.flatMap_append,List.append_assoc,List.append_assoc,←Nat.add_mul]
 have hbW:(w.drew.setRow b (lay (l.flatMap odC++rest) (0+i*5) ((l.drop j).flatMap odC)).toArray).heap[b]? =some (.cells ((l.take i++l.drop j).flatMap odC++(l.flatMap odC++rest).drop ((i+(l.length - j))*5)).toArray tOd (0,0)):=by
  rw[heap_setRow,if_pos rfl,hbd,hrow]
 rw[show(l.flatMap odC++rest).toArray.toList=l.flatMap odC++rest from rfl]
 generalize w.drew.setRow b (lay (l.flatMap odC++rest) (0+i*5) ((l.drop j).flatMap odC)).toArray=W at mW hbW⊢
 refine rnS (v:=.int .i64 ((i+(l.length - j):Nat):Int)) (w' :=W) (by simp[go_sem]) ?_
 refine rvS (slLoHi uOds nOd (show i+(l.length - j)≤l.length by omega) hc (by omega) W) ?_
 have hA:((l.take i++l.drop j).flatMap odC).length=(i+(l.length - j))*5:=by
  rw[flL odC_len,List.length_append,List.length_take,List.length_drop,Nat.min_eq_left (by omega)]
 refine rx_clearK uOds (elemT_of eOd) hbW (by rw[List.size_toArray,List.length_append,List.length_drop,hA,hsz];omega) λz hz hz1=>?_
 have hrow2:lay ((l.take i++l.drop j).flatMap odC++(l.flatMap odC++rest).drop ((i+(l.length - j))*5)) ((i+(l.length - j))*5) z=(l.take i++l.drop j).flatMap odC++(z++rest):=by
  unfold lay
  rw[hz,List.take_append_of_le_length (by rw[hA];exact Nat.le_refl _),List.take_of_length_le (by rw[hA];exact Nat.le_refl _),←List.drop_drop,←hA,List.drop_left,List.append_assoc,List.drop_drop,hA]
  congr 2
  rw[show(i+(l.length - j))*5+(l.length - (i+(l.length - j)))*5=(l.flatMap odC).length by rw[hl];omega,List.drop_left]
 have hlen:(l.take i++l.drop j).length=i+(l.length - j):=by rw[List.length_append,List.length_take,List.length_drop,Nat.min_eq_left (by omega)]
 refine hK _ _ ⟨by rw[hA,hlen],.inr ⟨b,cap,z++rest,by rw[hlen],by omega,?_,?_,?_⟩⟩ (mW.setRow (.inl (show inSl (.slice (some ⟨b,0,none⟩) l.length cap) b from rfl)) _) λb' hb' =>hb'
 ·show(W.setRow b (lay ((l.take i++l.drop j).flatMap odC++(l.flatMap odC++rest).drop ((i+(l.length - j))*5)) ((i+(l.length - j))*5) z).toArray).heap[b]? =_
  rw[heap_setRow,if_pos rfl,hbW,hrow2]
 ·rw[List.length_append,hz,hrl,hlen];omega
 ·rw[List.all_append,hz1,hr1];rfl
theorem shp{w:World}{b:Nat}{C:Array Value}{T:TypeId}{fz:Nat×Nat}(h:w.heap[b]? =some (.cells C T fz)):w.shape? b=some (T,C.size):=by simp[World.shape?,h]
theorem notFz{w:World}{b:Nat}{C:Array Value}{T:TypeId}(h:w.heap[b]? =some (.cells C T (0,0)))(i:Nat):w.frozen? ⟨b,i,none⟩=false:=by simp[go_sem,hp_of h]
theorem sOd(w:World):(Go.sizeOf tOd).run Tryz.prog w=.ok 5 w:=Go.Vc.run_sizeOf nOd w
theorem ovFind:Extern.find Tryz.f351=some (Extern.SlicesOverlaps.overlaps #[tOds,tOds] #[4]):=by kernel_rfl
set_option maxRecDepth 10000 in
theorem ca_insertOd{w:World}{K:Kont}{s v:Value}{l:List Od}{o:Od}{i:Nat}(h:OdS w s l)(hv:OdS w v [o])(hd:∀b,inSl s b→¬inSl v b)(hi:i≤l.length)(hn:l.length≤1000000)
  (hK:∀s' w',OdS w' s' (l.take i++o::l.drop i)→Mod (inSl s) w w' →(∀b,inSl s' b→inSl s b∨w.heap.size≤b)→K s' w'):Ca Tryz.prog 312 #[s,.int .i64 (i:Int),v] w K:=by
 obtain⟨vb,vcap,vrest,rfl,hvc,hvb,hvl,hv1⟩:=hv.pos (by simp)
 simp only[List.length_singleton]at hvc hvl
 have hlr:(l.take i++o::l.drop i).length=l.length+1:=by
  rw[List.length_append,List.length_take,List.length_cons,List.length_drop,Nat.min_eq_left hi];omega
 have hcs:([o].flatMap odC)=odC o:=by simp
 apply ca312
 unfold F312
 obtain⟨v0,hv0,-,-⟩:=Rd.from_ (P:=Tryz.prog) (kl:=.i64) (lo:=i) uOds nOd (h.rd:Rd w (4+1) s l.length (l.flatMap odC)) hi
 refine rvS (hv0 w) ?_
 refine rnS (v:=.int .i64 1) (w' :=w) (by simp[go_sem]) ?_
 refine rvS (v:=.bool false) (by simp[go_sem]<;>first|exact⟨rfl,rfl⟩|exact rfl) ?_
 rw[ifB_bool,if_neg Bool.false_ne_true]
 obtain⟨sa,sc,hs,-⟩:=h.isSl
 refine rnS (v:=.int .i64 l.length) (w' :=w) (by rw[hs];simp[go_sem]) ?_
 by_cases hil:i=l.length
 ·have hil' :(i:Int)=(l.length:Int):=by omega
  refine rvS (v:=.bool true) (by simp[go_sem,hil']<;>first|exact⟨rfl,rfl⟩|exact rfl) ?_
  rw[ifB_bool,if_pos rfl]
  refine rx_append uOds uOds (elemT_of eOd) h hv.rd (flO odC_one _) (by simp only[List.length_singleton];omega) λs3 w3 o3 m3 n3=>?_
  refine hK _ _ ?_ m3 n3
  have:l.take i++o::l.drop i=l++[o]:=by rw[hil,List.take_length,List.drop_length]
  rw[this]
  unfold OdS
  rw[List.flatMap_append,List.length_append]
  exact o3
 have hil' :¬(i:Int)=(l.length:Int):=by omega
 refine rvS (v:=.bool false) (by simp[go_sem,hil']<;>first|exact⟨rfl,rfl⟩|exact rfl) ?_
 rw[ifB_bool,if_neg Bool.false_ne_true]
 obtain⟨b,cap,rest,hse,hc,hb,hrl,hr1⟩:=h.pos (by omega)
 clear hs
 subst hse
 have hne:vb≠b:=λe=>hd b rfl (by rw[←e];rfl)
 have hl:=h.1
 refine rvS (v:=.int .i64 ((l.length+1:Nat):Int)) (w' :=w) (by simp[go_sem];rw[wrapI (by omega) (by omega)]) ?_
 refine rnS (v:=.int .i64 (cap:Int)) (w' :=w) (by simp[go_sem,uOds]) ?_
 have hszr:(l.flatMap odC++rest).length=cap*5:=by rw[List.length_append,hl,hrl];omega
 by_cases hroom:cap<l.length+1
 ·have hroom' :(cap:Int)<(l.length:Int)+1:=by omega
  refine rvS (v:=.bool true) (by simp[go_sem,hroom']<;>first|exact⟨rfl,rfl⟩|exact rfl) ?_
  rw[ifB_bool,if_pos rfl]
  refine rvS (slHi uOds nOd (show i≤cap by omega) (by omega) w) ?_
  refine rvS (v:=.int .i64 ((l.length+1:Nat):Int)) (w' :=w) (by simp[go_sem];rw[wrapI (by omega) (by omega)]) ?_
  refine rvS (v:=.int .i64 ((l.length+1 - i:Nat):Int)) (w' :=w) (by simp only[go_sem];simp;rw[wrapI (by omega) (by omega)];omega) ?_
  have hOi:Own w tOd (4+1) (.slice (some ⟨b,0,none⟩) i cap) i ((l.take i).flatMap odC):=by
   refine⟨by rw[flL odC_len,List.length_take,Nat.min_eq_left hi],.inr ⟨b,cap,(l.flatMap odC++rest).drop (i*5),rfl,by omega,?_,?_,?_⟩⟩
   ·rw[hb]
    congr 2
    have:(l.take i).flatMap odC=(l.flatMap odC++rest).take (i*5):=by
     rw[List.take_append_of_le_length (by rw[hl];omega),flT odC_len]
    rw[this,List.take_append_drop]
   ·rw[List.length_drop,hszr];omega
   ·refine List.all_eq_true.2 λx hx=>?_
    have hx:=List.mem_of_mem_drop hx
    rcases List.mem_append.1 hx with h1|h1
    ·exact List.all_eq_true.1 (flO odC_one l) x h1
    ·exact List.all_eq_true.1 hr1 x h1
  refine rx_appendZK uOds Tryz.underlying3 (elemT_of eOd) hOi (by omega) λs2 w2 z hz hz1 o2 m2 n2 hfar=>?_
  obtain⟨mF,nF⟩:=hfar _ _ rfl (by omega)
  rw[show i+(l.length+1 - i)=l.length+1 by omega]at o2
  obtain⟨b2,cap2,rest2,rfl,hc2,hb2,hrl2,hr12⟩:=o2.pos (by omega)
  have hb2n:w.heap.size≤b2:=nF b2 rfl
  have hbb:b≠b2:=by have:=lt_of_heap hb;omega
  have hvbb:vb≠b2:=by have:=lt_of_heap hvb;omega
  refine rvS (slLo uOds nOd (by omega) hc2 (by omega) w2) ?_
  have hA:((l.take i).flatMap odC).length=i*5:=by rw[flL odC_len,List.length_take,Nat.min_eq_left hi]
  have hsz2:((l.take i).flatMap odC++z++rest2).length=cap2*5:=by rw[List.length_append,List.length_append,hA,hz,hrl2];omega
  have hv2:Rd w2 5 (.slice (some ⟨vb,0,none⟩) 1 vcap) 1 (odC o):=by
   have:=hv.rd.mod mF λ_ _ h=>h
   rw[hcs]at this
   exact this
  refine rx_copyK (sz:=4) (k:=1) uOds nOd hb2 hv2 (by show _=min _ _;omega) (by rw[List.size_toArray,hsz2];omega) (odC_one o) ?_
  have m3:Mod (λb=>b=b2) w2 (w2.setRow b2 (lay ((l.take i).flatMap odC++z++rest2) (i*5) ((odC o).take 5)).toArray):=(Mod.refl (λb=>b=b2) w2).setRow (.inl rfl) _
  have e5:(odC o).take 5=odC o:=rfl
  have hl3:lay ((l.take i).flatMap odC++z++rest2) (i*5) (odC o)=(l.take i).flatMap odC++odC o++(z++rest2).drop 5:=by
   unfold lay
   rw[List.append_assoc ((l.take i).flatMap odC) z rest2,←hA,List.take_left,odC_len,←List.drop_drop,List.drop_left]
  have hb3:(w2.setRow b2 (lay ((l.take i).flatMap odC++z++rest2) (i*5) ((odC o).take 5)).toArray).heap[b2]? =some (.cells ((l.take i).flatMap odC++odC o++(z++rest2).drop 5).toArray tOd (0,0)):=by
   rw[heap_setRow,if_pos rfl,hb2,e5,hl3]
  show rdP _ _ _
  rw[show((l.take i).flatMap odC++z++rest2).toArray.toList=(l.take i).flatMap odC++z++rest2 from rfl,show 1*(4+1)=5 from rfl]
  generalize w2.setRow b2 (lay ((l.take i).flatMap odC++z++rest2) (i*5) ((odC o).take 5)).toArray=w3 at m3 hb3⊢
  refine rdPS (v:=.int .i64 ((i+1:Nat):Int)) (λW=>by simp[go_sem];rw[wrapI (by omega) (by omega)]) ?_
  refine rdPS (λW=>slLo uOds nOd (show i+1≤l.length+1 by omega) hc2 (by omega) W) ?_
  refine rdPS (λW=>slLo uOds nOd (show i≤l.length by omega) hc (by omega) W) ?_
  have mD:Mod (λb=>b=b2) w2 w3.drew:=m3.drew
  have hbD:w3.drew.heap[b2]? =some (.cells ((l.take i).flatMap odC++odC o++(z++rest2).drop 5).toArray tOd (0,0)):=hb3
  have hsrc:Rd w3.drew (4+1) (.slice (some ⟨b,i*(4+1),none⟩) (l.length - i) (cap - i)) (l.length - i) ((l.drop i).flatMap odC):=by
   have hA0:At w b 0 (l.flatMap odC):=⟨_,_,_,hb,by rw[List.size_toArray,hszr,hl];omega,by simp⟩
   have h1:=hA0.sub (i*5) ((l.length - i)*5) (by rw[hl];omega)
   rw[flD odC_len,List.take_of_length_le (by rw[flL odC_len,List.length_drop];exact Nat.le_refl _),Nat.zero_add]at h1
   refine⟨by rw[flL odC_len,List.length_drop],.inr ⟨b,i*(4+1),cap - i,rfl,by omega,?_⟩⟩
   exact(h1.mod mF id).mod mD λe=>hbb e
  have hsz3:((l.take i).flatMap odC++odC o++(z++rest2).drop 5).length=cap2*5:=by
   rw[List.length_append,List.length_append,hA,odC_len,List.length_drop,List.length_append,hz,hrl2];omega
  refine rx_copyK (sz:=4) (k:=l.length - i) uOds nOd hbD hsrc (by show _=min _ _;omega) (by rw[List.size_toArray,hsz3];omega) (flO odC_one _) ?_
  have hDl:((l.drop i).flatMap odC).length=(l.length - i)*5:=by rw[flL odC_len,List.length_drop]
  have hl4:lay ((l.take i).flatMap odC++odC o++(z++rest2).drop 5) ((i+1)*(4+1)) (((l.drop i).flatMap odC).take ((l.length - i)*(4+1)))=(l.take i++o::l.drop i).flatMap odC++rest2:=by
   have hAo:((l.take i).flatMap odC++odC o).length=(i+1)*(4+1):=by rw[List.length_append,hA,odC_len];omega
   have e2:((l.drop i).flatMap odC).take ((l.length - i)*(4+1))=(l.drop i).flatMap odC:=List.take_of_length_le (by rw[hDl];exact Nat.le_refl _)
   rw[e2]
   unfold lay
   rw[←hAo,List.take_left,hDl,←List.drop_drop,List.drop_left,List.drop_drop]
   rw[show 5+(l.length - i)*5=z.length by rw[hz];omega,List.drop_left]
   simp[List.append_assoc]
  refine hK _ _ ⟨by rw[flL odC_len,hlr],.inr ⟨b2,cap2,rest2,by rw[hlr],by rw[hlr];exact hc2,?_,by rw[hlr];exact hrl2,hr12⟩⟩ ?_ λb' hb' =>?_
  ·rw[heap_setRow,if_pos rfl,hbD]
   show some (Obj.cells (lay ((l.take i).flatMap odC++odC o++(z++rest2).drop 5) ((i+1)*(4+1)) (((l.drop i).flatMap odC).take ((l.length - i)*(4+1)))).toArray tOd (0,0))=_
   rw[hl4]
  ·exact((mF.mono λ_ _ h=>h.elim).on mD λb' hb' =>.inr (by rw[hb'];exact hb2n)).setRow (.inr hb2n) _
  ·have:b' =b2:=by cases hb';rfl
   exact .inr (by omega)
 ·have hroom' :¬(cap:Int)<(l.length:Int)+1:=by omega
  refine rvS (v:=.bool false) (by simp[go_sem,hroom']<;>first|exact⟨rfl,rfl⟩|exact rfl) ?_
  rw[ifB_bool,if_neg Bool.false_ne_true]
  refine rvS (v:=.int .i64 ((l.length+1:Nat):Int)) (w' :=w) (by simp[go_sem];rw[wrapI (by omega) (by omega)]) ?_
  refine rvS (slHi uOds nOd (show l.length+1≤cap by omega) (by omega) w) ?_
  refine rvS (v:=.int .i64 ((i+1:Nat):Int)) (w' :=w) (by simp[go_sem];rw[wrapI (by omega) (by omega)]) ?_
  refine rvS (slLo uOds nOd (show i+1≤l.length+1 by omega) (by omega) (by omega) w) ?_
  have hov:(callFunc 351 #[.slice (some ⟨vb,0,none⟩) 1 vcap,.slice (some ⟨b,(i+1)*(4+1),none⟩) (l.length+1 - (i+1)) (cap - (i+1))]).run Tryz.prog w=.ok (.value (.bool false)) w:=by
   rw[run_callFunc_extern Tryz.func351 (by kernel_rfl) (by kernel_rfl) (by kernel_rfl) ovFind]
   rw[Lib.run_overlaps_apart w tOds 4 tOd uOds 5 sOd ⟨vb,0,none⟩ ⟨b,(i+1)*(4+1),none⟩ 1 vcap _ _ hne tOd tOd _ _ (shp hvb) (shp hb) (by rw[List.size_toArray,hszr];omega) (notFz hvb _) (notFz hvb _)]
   rfl
  refine⟨?_⟩
  show rn Tryz.prog (callFunc 351 #[.slice (some ⟨vb,0,none⟩) 1 vcap,.slice (some ⟨b,(i+1)*(4+1),none⟩) (l.length+1 - (i+1)) (cap - (i+1))]) w _
  refine rnS hov ?_
  refine rvS (v:=.bool true) (by simp[go_sem]<;>first|exact⟨rfl,rfl⟩|exact rfl) ?_
  rw[ifB_bool,if_pos rfl]
  refine rdPS (v:=.int .i64 ((i+1:Nat):Int)) (λW=>by simp[go_sem];rw[wrapI (by omega) (by omega)]) ?_
  refine rdPS (λW=>slLo uOds nOd (show i+1≤l.length+1 by omega) (by omega) (by omega) W) ?_
  refine rdPS (λW=>slLo uOds nOd (show i≤l.length+1 by omega) (by omega) (by omega) W) ?_
  have hbD:w.drew.heap[b]? =some (.cells (l.flatMap odC++rest).toArray tOd (0,0)):=hb
  have hrl5:5≤rest.length:=by rw[hrl];omega
  have hsrc:Rd w.drew (4+1) (.slice (some ⟨b,i*(4+1),none⟩) (l.length+1 - i) (cap - i)) (l.length+1 - i) ((l.drop i).flatMap odC++rest.take 5):=by
   have hA0:At w b 0 (l.flatMap odC++rest):=At.all (hp_of hb)
   have h1:=hA0.sub (i*5) ((l.length+1 - i)*5) (by rw[hszr];omega)
   rw[List.drop_append_of_le_length (by rw[hl];omega),flD odC_len,Nat.zero_add]at h1
   have e1:((l.drop i).flatMap odC++rest).take ((l.length+1 - i)*5)=(l.drop i).flatMap odC++rest.take 5:=by
    have hd:((l.drop i).flatMap odC).length=(l.length - i)*5:=by rw[flL odC_len,List.length_drop]
    rw[show(l.length+1 - i)*5=((l.drop i).flatMap odC).length+5 by rw[hd];omega,List.take_length_add_append]
   rw[e1]at h1
   refine⟨by rw[List.length_append,flL odC_len,List.length_drop,List.length_take,Nat.min_eq_left hrl5];omega,.inr ⟨b,i*(4+1),cap - i,rfl,by omega,h1.keep rfl⟩⟩
  have hDl:((l.drop i).flatMap odC).length=(l.length - i)*5:=by rw[flL odC_len,List.length_drop]
  refine rx_copyK (sz:=4) (k:=l.length - i) uOds nOd hbD hsrc (by show _=min _ _;omega) (by rw[List.size_toArray,hszr];omega) (by rw[List.all_append,flO odC_one];exact List.all_eq_true.2 λx hx=>List.all_eq_true.1 hr1 x (List.mem_of_mem_take hx)) ?_
  have hA:((l.take i).flatMap odC).length=i*5:=by rw[flL odC_len,List.length_take,Nat.min_eq_left hi]
  obtain⟨mid,hmid,hmidl⟩:∃mid:List Value,l.flatMap odC++rest=(l.take i).flatMap odC++(mid++((l.flatMap odC++rest).drop ((i+1)*5)))∧mid.length=5:=by
   refine⟨((l.flatMap odC++rest).drop (i*5)).take 5,?_,by rw[List.length_take,List.length_drop,hszr];omega⟩
   have e1:(l.take i).flatMap odC=(l.flatMap odC++rest).take (i*5):=by rw[List.take_append_of_le_length (by rw[hl];omega),flT odC_len]
   rw[e1,show(i+1)*5=i*5+5 by omega,←List.drop_drop,List.take_append_drop,List.take_append_drop]
  have hl3:lay (l.flatMap odC++rest) ((i+1)*(4+1)) (((l.drop i).flatMap odC++rest.take 5).take ((l.length - i)*(4+1)))=(l.take i).flatMap odC++mid++((l.drop i).flatMap odC++rest.drop 5):=by
   have e2:((l.drop i).flatMap odC++rest.take 5).take ((l.length - i)*(4+1))=(l.drop i).flatMap odC:=by
    rw[show(l.length - i)*(4+1)=((l.drop i).flatMap odC).length by rw[hDl],List.take_left]
   have e3:(l.flatMap odC++rest).take ((i+1)*(4+1))=(l.take i).flatMap odC++mid:=by
    rw[hmid,←List.append_assoc,show(i+1)*(4+1)=((l.take i).flatMap odC++mid).length by rw[List.length_append,hA,hmidl];omega,List.take_left]
   have e4:(l.flatMap odC++rest).drop ((i+1)*(4+1)+(l.length - i)*5)=rest.drop 5:=by
    rw[show(i+1)*(4+1)+(l.length - i)*5=(l.flatMap odC).length+5 by rw[hl];omega,←List.drop_drop,List.drop_left]
   unfold lay
   rw[e2,hDl,e3,e4]
   simp[List.append_assoc]
  have m3:Mod (inSl (.slice (some ⟨b,0,none⟩) l.length cap)) w (w.drew.setRow b (lay (l.flatMap odC++rest) ((i+1)*(4+1)) (((l.drop i).flatMap odC++rest.take 5).take ((l.length - i)*(4+1)))).toArray):=((Mod.refl _ w).drew).setRow (.inl (show inSl (.slice (some ⟨b,0,none⟩) l.length cap) b from rfl)) _
  have hb3:(w.drew.setRow b (lay (l.flatMap odC++rest) ((i+1)*(4+1)) (((l.drop i).flatMap odC++rest.take 5).take ((l.length - i)*(4+1)))).toArray).heap[b]? =some (.cells ((l.take i).flatMap odC++mid++((l.drop i).flatMap odC++rest.drop 5)).toArray tOd (0,0)):=by
   rw[heap_setRow,if_pos rfl,hbD,hl3]
  rw[show(l.flatMap odC++rest).toArray.toList=l.flatMap odC++rest from rfl]
  generalize w.drew.setRow b (lay (l.flatMap odC++rest) ((i+1)*(4+1)) (((l.drop i).flatMap odC++rest.take 5).take ((l.length - i)*(4+1)))).toArray=w3 at m3 hb3⊢
  refine rvS (slLo uOds nOd (show i≤l.length+1 by omega) (by omega) (by omega) w3) ?_
  have hv3:Rd w3 5 (.slice (some ⟨vb,0,none⟩) 1 vcap) 1 (odC o):=by
   have:=hv.rd.mod m3 λb' hb' hs' =>hd b' hs' hb'.sl
   rw[hcs]at this
   exact this
  refine rx_copyK (sz:=4) (k:=1) uOds nOd hb3 hv3 (by show _=min _ _;omega) (by rw[List.size_toArray,List.length_append,List.length_append,List.length_append,hA,hmidl,hDl,List.length_drop,hrl];omega) (odC_one o) ?_
  have hl4:lay ((l.take i).flatMap odC++mid++((l.drop i).flatMap odC++rest.drop 5)) (i*(4+1)) ((odC o).take (1*(4+1)))=(l.take i++o::l.drop i).flatMap odC++rest.drop 5:=by
   have e5:(odC o).take (1*(4+1))=odC o:=rfl
   rw[e5]
   unfold lay
   rw[odC_len,show i*(4+1)=((l.take i).flatMap odC).length by rw[hA],List.append_assoc ((l.take i).flatMap odC) mid,List.take_left,←List.drop_drop,List.drop_left,←hmidl,List.drop_left]
   simp[List.append_assoc]
  refine hK _ _ ⟨by rw[flL odC_len,hlr],.inr ⟨b,cap,rest.drop 5,by rw[hlr],by rw[hlr];omega,?_,by rw[hlr,List.length_drop,hrl];omega,List.all_eq_true.2 λx hx=>List.all_eq_true.1 hr1 x (List.mem_of_mem_drop hx)⟩⟩ (m3.setRow (.inl (show inSl (.slice (some ⟨b,0,none⟩) l.length cap) b from rfl)) _) λb' hb' =>.inl hb'
  show(w3.setRow b (lay ((l.take i).flatMap odC++mid++((l.drop i).flatMap odC++rest.drop 5)) (i*(4+1)) ((odC o).take (1*(4+1)))).toArray).heap[b]? =_
  rw[heap_setRow,if_pos rfl,hb3,hl4]
def ClosOd(w:World)(fv:Value)(p:Od→Bool)(l:List Od):Prop:=
 ∃g cp,fv=.func (.func g) #[] cp∧∀x∈l,∀W,Mod (λ_=>False) w W→∀K:Kont,(∀W',Mod (λ_=>False) W W' →K (.bool (p x)) W')→Ca Tryz.prog g ⟨[.agg (odC x).toArray]++cp.toList⟩ W K
def idxI{α:Type}(l:List α)(p:α→Bool):Int:=match l.findIdx? p with|some i=>(i:Int)|none=> -1
theorem ca_indexOd{w:World}{K:Kont}{s fv:Value}{l:List Od}{p:Od→Bool}(h:Rd w 5 s l.length (l.flatMap odC))(hn:l.length≤1000000)(hc:ClosOd w fv p l)
  (hK:∀w',Mod (λ_=>False) w w' →K (.int .i64 (idxI l p)) w'):Ca Tryz.prog 210 #[s,fv] w K:=by
 obtain⟨g,cp,rfl,hcl⟩:=hc
 apply ca210
 unfold F210
 obtain⟨a,c,hs⟩:=h.isSl
 refine rnS (v:=.int .i64 (l.length:Int)) (w' :=w) (by rw[hs];simp[go_sem]) ?_
 refine loopV (λst W=>∃(i:Nat) (x:Value),i≤l.length∧st=(x,.int .i64 i,())∧Mod (λ_=>False) w W∧∀j:Nat,∀hj:j<l.length,j<i→p l[j]=false)
  (λst _=>match st.2.1 with| .int _ i=>l.length - i.toNat|_=>0) ⟨0,.int .i64 0,by omega,rfl,Mod.refl _ _,λj _ h=>by omega⟩ ?_
 rintro⟨_,_⟩ W ⟨i,x,hi,⟨⟩,mW,hno⟩ KN hKN
 unfold L210_0
 intro _
 by_cases hlt:i<l.length
 ·have hlt' :(i:Int)<(l.length:Int):=by omega
  refine rvS (v:=.bool true) (by simp[go_sem,hlt']<;>first|exact⟨rfl,rfl⟩|exact rfl) ?_
  rw[ifB_bool,if_pos rfl]
  obtain⟨b,off,cap,hse,hcap,hA⟩:=(h.mod mW λ_ _ h=>h).item odC_len hlt rfl
  obtain⟨C,e,fz,hC,hg⟩:=hA.get
  have g0:=hg 0 (.int .u64 l[i].num) rfl
  have g1:=hg 1 (.int .u32 l[i].acct) rfl
  have g2:=hg 2 (.bool l[i].buy) rfl
  have g3:=hg 3 (.int .i64 l[i].price) rfl
  have g4:=hg 4 (.int .i64 l[i].left) rfl
  simp only[Nat.add_assoc,Nat.add_zero]at g0 g1 g2 g3 g4
  refine rvS (v:=.pointer (some ⟨b,off+i*5,none⟩)) (w' :=W) (by rw[hse];simp[go_sem,hlt,addr_add]) ?_
  refine rvS (v:=.agg (odC l[i]).toArray) (w' :=W) (by simp[go_sem,hp_of hC,g0,g1,g2,g3,g4,odC]) ?_
  simp only[callV_func]
  have harr:(#[.agg (odC l[i]).toArray]++cp:Array Value)=⟨[.agg (odC l[i]).toArray]++cp.toList⟩:=by apply Array.ext';simp
  refine hcl l[i] (List.getElem_mem hlt) W mW _ λW' mW' =>?_
  cases hp:p l[i]with
  |true=>
   rw[ifB_bool,if_pos rfl]
   have:idxI l p=(i:Int):=by
    unfold idxI
    have:l.findIdx? p=some i:=by
     rw[List.findIdx?_eq_some_iff_getElem]
     refine⟨hlt,hp,λj hj=>?_⟩
     rw[hno j (by omega) hj];simp
    rw[this]
   have hk:=hK _ (mW.trans mW')
   rw[this]at hk
   exact hk
  |false=>
   rw[ifB_bool,if_neg Bool.false_ne_true]
   refine rvS (v:=.int .i64 ((i+1:Nat):Int)) (w' :=W') (by simp[go_sem];rw[wrapI (by omega) (by omega)]) ?_
   refine hKN _ _ ⟨i+1,_,by omega,rfl,mW.trans mW',λj hj hji=>?_⟩ (by show l.length - (((i+1:Nat):Int)).toNat<l.length - ((i:Int)).toNat;omega)
   by_cases he:j=i
   ·subst he;exact hp
   ·exact hno j hj (by omega)
 ·obtain rfl:i=l.length:=by omega
  refine rvS (v:=.bool false) (by simp[go_sem]<;>first|exact⟨rfl,rfl⟩|exact rfl) ?_
  rw[ifB_bool,if_neg Bool.false_ne_true]
  have:idxI l p= -1:=by
   unfold idxI
   have:l.findIdx? p=none:=by
    rw[List.findIdx?_eq_none_iff]
    intro x hx
    obtain⟨j,hj,rfl⟩:=List.getElem_of_mem hx
    exact hno j hj hj
   rw[this]
  have hk:=hK _ mW
  rw[this]at hk
  exact hk
end Go.Proofs
namespace Go.Proofs
open Go Go.Vc
attribute [local congr] Ca_congV
def Od.may(o:Od):Bool:=decide (o.num≠0)&& decide (o.acct≠0)&& amongB o.price 1 MP&& amongB o.left 1 1000000
def odV(o:Od):Value:=.agg (odC o).toArray
def zOd:Od:=⟨0,0,false,0,0⟩
def betterB(buy:Bool)(a b:Int):Bool:=if buy then decide (b<a)else decide (a<b)
def sdAt(buy:Bool)(l:List Od)(price:Int):Nat:=(l.findIdx? λx=>betterB buy price x.price).getD l.length
def sdIns(buy:Bool)(l:List Od)(o:Od):List Od:=l.take (sdAt buy l o.price)++o::l.drop (sdAt buy l o.price)
def sdAdd(buy:Bool)(l:List Od)(o:Od):Int×List Od:=
 if¬o.may∨o.buy≠buy then(2,l)else if(l.any λx=>decide (x.num=o.num))then(8,l)else if 100≤l.length then(9,l)else(0,sdIns buy l o)
def sdGet(l:List Od)(n:Int):Option Od:=l.find? λx=>decide (x.num=n)
def sdDel(l:List Od)(n:Int):List Od:=l.eraseP λx=>decide (x.num=n)
def sdFill(l:List Od)(n:Int):List Od:=
 match l with
 | []=>[]
 |o::r=>if o.left - n=0 then r else{o with left:=o.left - n}::r
def sdReach(buy:Bool)(l:List Od)(price:Int)(acct:Int):Int:=
 (((l.takeWhile λo=> !betterB buy price o.price).filter λo=>decide (o.acct≠acct)).map (·.left)).sum
theorem boxOd(o:Od)(w:World):∃w1,(Instr.box tOd (odV o)).run Tryz.prog w=.ok (.pointer (some ⟨w.heap.size,0,none⟩)) w1∧hp w1 w.heap.size=some (.cells (odC o).toArray tOd (0,0))∧Mod (λ_=>False) w w1:=
 ⟨w.alloc (.cells (odC o).toArray tOd),rfl,by simp[go_sem],(Mod.refl _ w).alloc _⟩
theorem ca_omay{o:Od}{w:World}{K:Kont}(hK:∀w',Mod (λ_=>False) w w' →K (.bool o.may) w'):Ca Tryz.prog 222 #[odV o] w K:=by
 apply ca222
 unfold F222
 obtain⟨w1,e1,b1,m1⟩:=boxOd o w
 have hK:=hK _ m1
 refine rvS e1 ?_
 unfold Od.may amongB MP at hK
 unfold odC at b1
 refine rvS (by simp[-Int.natCast_add,go_sem,b1]<;>first|exact⟨rfl,rfl⟩|exact rfl) ?_
 refine rvS (by simp[-Int.natCast_add,go_sem,b1]<;>first|exact⟨rfl,rfl⟩|exact rfl) ?_
 by_cases h0:o.num=0
 ·refine rvS (v:=.bool false) (by simp[go_sem,h0]<;>first|exact⟨rfl,rfl⟩|exact rfl) ?_
  rw[ifB_bool,if_neg Bool.false_ne_true]
  simpa [h0]using hK
 refine rvS (v:=.bool true) (by simp[go_sem,h0]<;>first|exact⟨rfl,rfl⟩|exact rfl) ?_
 rw[ifB_bool,if_pos rfl]
 refine rvS (by simp[-Int.natCast_add,go_sem,b1]<;>first|exact⟨rfl,rfl⟩|exact rfl) ?_
 refine rvS (by simp[-Int.natCast_add,go_sem,b1]<;>first|exact⟨rfl,rfl⟩|exact rfl) ?_
 by_cases h1:o.acct=0
 ·refine rvS (v:=.bool false) (by simp[go_sem,h1]<;>first|exact⟨rfl,rfl⟩|exact rfl) ?_
  rw[ifB_bool,if_neg Bool.false_ne_true]
  simpa [h1]using hK
 refine rvS (v:=.bool true) (by simp[go_sem,h1]<;>first|exact⟨rfl,rfl⟩|exact rfl) ?_
 rw[ifB_bool,if_pos rfl]
 refine rvS (by simp[-Int.natCast_add,go_sem,b1]<;>first|exact⟨rfl,rfl⟩|exact rfl) ?_
 refine rvS (by simp[-Int.natCast_add,go_sem,b1]<;>first|exact⟨rfl,rfl⟩|exact rfl) ?_
 by_cases h2:1≤o.price
 ·refine rvS (v:=.bool true) (by simp[go_sem,h2]<;>first|exact⟨rfl,rfl⟩|exact rfl) ?_
  rw[ifB_bool,if_pos rfl]
  refine rvS (by simp[-Int.natCast_add,go_sem,b1]<;>first|exact⟨rfl,rfl⟩|exact rfl) ?_
  refine rvS (by simp[-Int.natCast_add,go_sem,b1]<;>first|exact⟨rfl,rfl⟩|exact rfl) ?_
  by_cases h3:o.price≤10000000
  ·refine rvS (v:=.bool true) (by simp[go_sem,h3]<;>first|exact⟨rfl,rfl⟩|exact rfl) ?_
   rw[ifB_bool,if_pos rfl]
   refine rvS (by simp[-Int.natCast_add,go_sem,b1]<;>first|exact⟨rfl,rfl⟩|exact rfl) ?_
   refine rvS (by simp[-Int.natCast_add,go_sem,b1]<;>first|exact⟨rfl,rfl⟩|exact rfl) ?_
   by_cases h4:1≤o.left
   ·refine rvS (v:=.bool true) (by simp[go_sem,h4]<;>first|exact⟨rfl,rfl⟩|exact rfl) ?_
    rw[ifB_bool,if_pos rfl]
    refine rvS (by simp[-Int.natCast_add,go_sem,b1]<;>first|exact⟨rfl,rfl⟩|exact rfl) ?_
    refine rvS (by simp[-Int.natCast_add,go_sem,b1]<;>first|exact⟨rfl,rfl⟩|exact rfl) ?_
    refine rvS (by simp[-Int.natCast_add,go_sem]<;>first|exact⟨rfl,rfl⟩|exact rfl) ?_
    simpa [h0,h1,h2,h3,h4]using hK
   ·refine rvS (v:=.bool false) (by simp[go_sem,h4]<;>first|exact⟨rfl,rfl⟩|exact rfl) ?_
    rw[ifB_bool,if_neg Bool.false_ne_true]
    simpa [h0,h1,h2,h3,h4]using hK
  ·refine rvS (v:=.bool false) (by simp[go_sem,h3]<;>first|exact⟨rfl,rfl⟩|exact rfl) ?_
   rw[ifB_bool,if_neg Bool.false_ne_true]
   simpa [h0,h1,h2,h3]using hK
 ·refine rvS (v:=.bool false) (by simp[go_sem,h2]<;>first|exact⟨rfl,rfl⟩|exact rfl) ?_
  rw[ifB_bool,if_neg Bool.false_ne_true]
  simpa [h0,h1,h2]using hK
structure SideQ(w:World)(s:Nat)(F:Nat→Prop)(buy:Bool)(l:List Od):Prop where
 out:∃sl,hp w s=some (.cells #[.bool true,.bool buy,sl] 320 (0,0))∧OdS w sl l∧(∀b,F b↔b=s∨inSl sl b)∧¬inSl sl s
 len:l.length≤100
 may:∀o∈l,o.may=true∧o.buy=buy∧o.Fit
theorem SideQ.mod{F G:Nat→Prop}{w w' :World}{s:Nat}{buy:Bool}{l:List Od}(h:SideQ w s F buy l)(hm:Mod G w w')(hd:∀b,F b→¬G b):SideQ w' s F buy l:=by
 obtain⟨⟨sl,h1,h2,h3,h4⟩,h5,h6⟩:=h
 exact⟨⟨sl,hm.hpk h1 (hd s ((h3 s).2 (.inl rfl))),h2.mod hm λb hb=>hd b ((h3 b).2 (.inr hb)),h3,h4⟩,h5,h6⟩
theorem SideQ.lt{F:Nat→Prop}{w:World}{s:Nat}{buy:Bool}{l:List Od}(h:SideQ w s F buy l){b:Nat}(hb:F b):b<w.heap.size:=by
 obtain⟨⟨sl,h1,h2,h3,h4⟩,h5,h6⟩:=h
 rcases(h3 b).1 hb with rfl|hb
 ·exact lt_of_heap h1
 ·exact h2.lt hb
theorem SideQ.self{F:Nat→Prop}{w:World}{s:Nat}{buy:Bool}{l:List Od}(h:SideQ w s F buy l):F s:=by
 obtain⟨⟨sl,h1,h2,h3,h4⟩,h5,h6⟩:=h
 exact(h3 s).2 (.inl rfl)
def sptr(s:Nat):Value:=.pointer (some ⟨s,0,none⟩)
theorem ca_sdnew{w:World}{K:Kont}{buy:Bool}(hK:∀s F w',SideQ w' s F buy []→Mod (λ_=>False) w w' →(∀b,F b→w.heap.size≤b)→K (sptr s) w'):Ca Tryz.prog 133 #[.bool buy] w K:=by
 apply ca133
 unfold F133
 simp[go_sem]
 refine hK _ (λb=>b=w.heap.size) _ ⟨⟨.slice none 0 0,by simp[go_sem],Own.nil _ _ _,λb=>⟨λh=>.inl h,λh=>by rcases h with h|h;exact h;cases h⟩,λh=>by cases h⟩,by simp,λo h=>by cases h⟩ ((Mod.refl _ w).alloc _) λb hb=>by rw[hb];exact Nat.le_refl _
theorem ca_sready{w:World}{K:Kont}{s:Nat}{F:Nat→Prop}{buy:Bool}{l:List Od}(h:SideQ w s F buy l)(hK:K (.bool true) w):Ca Tryz.prog 237 #[sptr s] w K:=by
 obtain⟨⟨sl,h1,h2,h3,h4⟩,h5,h6⟩:=h
 apply ca237
 unfold F237
 unfold sptr
 refine rvS (v:=.bool true) (by simp[go_sem]<;>first|exact⟨rfl,rfl⟩|exact rfl) ?_
 rw[ifB_bool,if_pos rfl]
 simp only[nilK_ptr]
 refine rvS (by simp[-Int.natCast_add,go_sem,h1]<;>first|exact⟨rfl,rfl⟩|exact rfl) ?_
 refine rvS (by simp[-Int.natCast_add,go_sem,h1]<;>first|exact⟨rfl,rfl⟩|exact rfl) ?_
 exact hK
theorem ca_sbetter{w:World}{K:Kont}{s:Nat}{F:Nat→Prop}{buy:Bool}{l:List Od}{x y:Int}(h:SideQ w s F buy l)(hK:K (.bool (betterB buy x y)) w):Ca Tryz.prog 270 #[sptr s,.int .i64 x,.int .i64 y] w K:=by
 obtain⟨⟨sl,h1,h2,h3,h4⟩,h5,h6⟩:=h
 apply ca270
 unfold F270 sptr
 simp only[nilK_ptr]
 refine rvS (by simp[-Int.natCast_add,go_sem,h1]<;>first|exact⟨rfl,rfl⟩|exact rfl) ?_
 refine rvS (by simp[-Int.natCast_add,go_sem,h1]<;>first|exact⟨rfl,rfl⟩|exact rfl) ?_
 unfold betterB at hK
 cases buy with
 |true=>
  rw[ifB_bool,if_pos rfl]
  refine rvS (by simp[-Int.natCast_add,go_sem]<;>first|exact⟨rfl,rfl⟩|exact rfl) ?_
  simpa using hK
 |false=>
  rw[ifB_bool,if_neg Bool.false_ne_true]
  refine rvS (by simp[-Int.natCast_add,go_sem]<;>first|exact⟨rfl,rfl⟩|exact rfl) ?_
  simpa using hK
theorem ca_sat{w:World}{K:Kont}{s:Nat}{F:Nat→Prop}{buy:Bool}{l:List Od}{n:Int}(h:SideQ w s F buy l)
  (hK:∀w',Mod (λ_=>False) w w' →K (.int .i64 (idxI l λx=>decide (x.num=n))) w'):Ca Tryz.prog 310 #[sptr s,.int .u64 n] w K:=by
 obtain⟨⟨sl,h1,h2,h3,h4⟩,h5,h6⟩:=h
 apply ca310
 unfold F310 sptr
 have m1:Mod (λ_=>False) w (w.alloc (.cells #[.int .u64 n] 27)):=(Mod.refl _ w).alloc _
 obtain⟨p,hp0⟩:∃p,p=w.heap.size:=⟨_,rfl⟩
 refine rvS (v:=.pointer (some ⟨p,0,none⟩)) (w' :=w.alloc (.cells #[.int .u64 n] 27)) (by rw[hp0];simp[go_sem]) ?_
 have b1:hp (w.alloc (.cells #[.int .u64 n] 27)) p=some (.cells #[.int .u64 n] 27 (0,0)):=by rw[hp0];simp[go_sem]
 generalize w.alloc (.cells #[.int .u64 n] 27)=w1 at m1 b1⊢
 have h1' :=m1.hpk h1 id
 simp only[nilK_ptr]
 refine rvS (by simp[-Int.natCast_add,go_sem,h1']<;>first|exact⟨rfl,rfl⟩|exact rfl) ?_
 refine rvS (by simp[-Int.natCast_add,go_sem,h1']<;>first|exact⟨rfl,rfl⟩|exact rfl) ?_
 refine ca_indexOd (h2.mod m1 λ_ _ h=>h).rd (by omega) ⟨_,_,rfl,λx hx W mW K' hK' =>?_⟩ λw2 m2=>hK _ (m1.trans m2)
 apply ca350
 unfold F350
 obtain⟨W1,e1,c1,n1⟩:=boxOd x W
 refine rvS e1 ?_
 unfold odC at c1
 have b2:=n1.hpk (mW.hpk b1 id) id
 refine rvS (by simp[-Int.natCast_add,go_sem,c1]<;>first|exact⟨rfl,rfl⟩|exact rfl) ?_
 refine rvS (by simp[-Int.natCast_add,go_sem,c1]<;>first|exact⟨rfl,rfl⟩|exact rfl) ?_
 refine rvS (by simp[-Int.natCast_add,go_sem,b2]<;>first|exact⟨rfl,rfl⟩|exact rfl) ?_
 refine rvS (v:=.bool (decide (x.num=n))) (w' :=W1) (by simp[go_sem];rw[Bool.eq_iff_iff];simp) ?_
 exact hK' _ n1
theorem idx_some{α:Type}{l:List α}{p:α→Bool}{i:Nat}(h:l.findIdx? p=some i):∃hi:i<l.length,p l[i]=true∧l.find? p=some l[i]∧idxI l p=(i:Int):=by
 obtain⟨hi,h1,h2⟩:=List.findIdx?_eq_some_iff_getElem.1 h
 refine⟨hi,h1,?_,by unfold idxI;rw[h]⟩
 rw[List.find?_eq_some_iff_getElem]
 exact⟨h1,i,hi,rfl,λj hj=>by simpa using h2 j hj⟩
theorem idx_none{α:Type}{l:List α}{p:α→Bool}(h:l.findIdx? p=none):l.find? p=none∧idxI l p= -1:=by
 refine⟨?_,by unfold idxI;rw[h]⟩
 rw[List.findIdx?_eq_none_iff]at h
 rw[List.find?_eq_none]
 exact λx hx=>by rw[h x hx];simp
theorem ca_sfind{w:World}{K:Kont}{s:Nat}{F:Nat→Prop}{buy:Bool}{l:List Od}{n:Int}(h:SideQ w s F buy l)
  (hK:∀w',Mod (λ_=>False) w w' →K (.tuple #[.int .i64 ((l.findIdx? λx=>decide (x.num=n)).getD 0:Nat),.int .i64 (if(l.findIdx? λx=>decide (x.num=n)).isSome then 0 else 7)]) w'):Ca Tryz.prog 299 #[sptr s,.int .u64 n] w K:=by
 apply ca299
 unfold F299
 refine ca_sready h ?_
 refine rvS (v:=.bool false) (by simp[go_sem]<;>first|exact⟨rfl,rfl⟩|exact rfl) ?_
 rw[ifB_bool,if_neg Bool.false_ne_true]
 refine ca_sat h λw1 m1=>?_
 have hK:=hK _ m1
 cases hi:l.findIdx? λx=>decide (x.num=n)with
 |none=>
  rw[hi]at hK
  rw[(idx_none hi).2]
  refine rvS (v:=.bool false) (by simp[go_sem]<;>first|exact⟨rfl,rfl⟩|exact rfl) ?_
  rw[ifB_bool,if_neg Bool.false_ne_true]
  simpa using hK
 |some i=>
  rw[hi]at hK
  obtain⟨_,_,_,e⟩:=idx_some hi
  rw[e]
  refine rvS (v:=.bool true) (by simp[go_sem]<;>first|exact⟨rfl,rfl⟩|exact rfl) ?_
  rw[ifB_bool,if_pos rfl]
  simpa using hK
theorem stOd{W:World}{p off:Nat}{C:Array Value}{T:TypeId}{o:Od}(h:hp W p=some (.cells C T (0,0)))(hs:off+5≤C.size):
  (Instr.storeAt tOd (.pointer (some ⟨p,off,none⟩)) (odV o)).run Tryz.prog W=.ok () (W.setRow p (lay C.toList off (odC o)).toArray):=by
 have h1:=run_bigU (P:=Tryz.prog) (t:=tOd) (w:=W) (b:=p) (off:=off) (cs:=odC o) (n:=4) nOd rfl h hs (odC_one o)
 exact h1
theorem ldOd{W:World}{p off:Nat}{o:Od}(h:At W p off (odC o)):(Instr.loadAt tOd (.pointer (some ⟨p,off,none⟩))).run Tryz.prog W=.ok (odV o) W:=
 run_bigS (P:=Tryz.prog) (t:=tOd) (by kernel_rfl) nOd rfl h
theorem newOd(w:World):∃w1,(Instr.alloc tOd true (.tuple #[])).run Tryz.prog w=.ok (.pointer (some ⟨w.heap.size,0,none⟩)) w1∧hp w1 w.heap.size=some (.cells (odC zOd).toArray tOd (0,0))∧Mod (λ_=>False) w w1:=
 ⟨w.alloc (.cells (odC zOd).toArray tOd),by simp[go_sem,odC,zOd],by simp[go_sem],(Mod.refl _ w).alloc _⟩
theorem setOd{W:World}{p:Nat}{o o' :Od}{T:TypeId}(h:hp W p=some (.cells (odC o).toArray T (0,0))):
  ∃W',(Instr.storeAt tOd (.pointer (some ⟨p,0,none⟩)) (odV o')).run Tryz.prog W=.ok () W' ∧hp W' p=some (.cells (odC o').toArray T (0,0))∧Mod (λb=>b=p) W W' :=by
 refine⟨_,stOd h (Nat.le_refl _),?_,(Mod.refl (λb=>b=p) W).setRow (.inl rfl) _⟩
 show(W.setRow p _).heap[p]? =_
 have h' :W.heap[p]? =some (.cells (odC o).toArray T (0,0)):=h
 rw[heap_setRow,if_pos rfl,h',lay_all (by rfl)]
end Go.Proofs
namespace Go.Proofs
open Go Go.Vc
attribute [local congr] Ca_congV
theorem OdS.load{w:World}{sl:Value}{l:List Od}(h:OdS w sl l){i:Nat}(hi:i<l.length):
  ∃b cap,sl=.slice (some ⟨b,0,none⟩) l.length cap∧(∀k:IntKind,(Instr.indexAt tOds sl (.int k (i:Int))).run Tryz.prog w=.ok (.pointer (some ⟨b,i*5,none⟩)) w)∧(Instr.loadAt tOd (.pointer (some ⟨b,i*5,none⟩))).run Tryz.prog w=.ok (odV l[i]) w:=by
 obtain⟨b,cap,rest,rfl,hc,hb,hr⟩:=h.pos (by omega)
 have hA0:At w b 0 (l.flatMap odC++rest):=At.all (hp_of hb)
 have hl:=h.1
 have h1:=hA0.sub (i*5) 5 (by rw[List.length_append,hl];omega)
 rw[List.drop_append_of_le_length (by rw[hl];omega),List.take_append_of_le_length (by rw[List.length_drop,hl];omega),flat_get odC 5 l i (λx _=>odC_len x) hi,Nat.zero_add]at h1
 refine⟨b,cap,rfl,λk=>?_,ldOd h1⟩
 simp[go_sem,hi,addr_add,uOds]
theorem ca_sfind' {w:World}{K:Kont}{s:Nat}{F:Nat→Prop}{buy:Bool}{l:List Od}{n:Int}(h:SideQ w s F buy l)
  (hN:sdGet l n=none→l.findIdx? (λx=>decide (x.num=n))=none→∀w',Mod (λ_=>False) w w' →K (.tuple #[.int .i64 0,.int .i64 7]) w')
  (hS:∀i:Nat,∀hi:i<l.length,sdGet l n=some l[i]→l.findIdx? (λx=>decide (x.num=n))=some i→∀w',Mod (λ_=>False) w w' →K (.tuple #[.int .i64 (i:Int),.int .i64 0]) w'):Ca Tryz.prog 299 #[sptr s,.int .u64 n] w K:=by
 refine ca_sfind h λw1 m1=>?_
 cases hi:l.findIdx? λx=>decide (x.num=n)with
 |none=>exact hN (idx_none hi).1 hi _ m1
 |some i=>
  obtain⟨h1,h2,h3,h4⟩:=idx_some hi
  exact hS i h1 h3 hi _ m1
theorem ca_sget{w:World}{K:Kont}{s:Nat}{F:Nat→Prop}{buy:Bool}{l:List Od}{n:Int}(h:SideQ w s F buy l)
  (hK:∀w',Mod (λ_=>False) w w' →K (.tuple #[odV ((sdGet l n).getD zOd),.int .i64 (if(sdGet l n).isSome then 0 else 7)]) w'):Ca Tryz.prog 269 #[sptr s,.int .u64 n] w K:=by
 apply ca269
 unfold F269
 obtain⟨w1,e1,b1,m1⟩:=newOd w
 refine rvS e1 ?_
 obtain⟨p,hp0⟩:∃p,p=w.heap.size:=⟨_,rfl⟩
 rw[←hp0]at b1⊢
 have h1:=h.mod m1 λ_ _ h=>h
 refine ca_sfind' h1 (λhg _ w2 m2=>?_) λi hi hg _ w2 m2=>?_
 ·have b2:=m2.hpk b1 id
  rw[hg]at hK
  refine rvS (by simp[-Int.natCast_add,go_sem]<;>first|exact⟨rfl,rfl⟩|exact rfl) ?_
  refine rvS (by simp[-Int.natCast_add,go_sem]<;>first|exact⟨rfl,rfl⟩|exact rfl) ?_
  refine rvS (v:=.bool true) (by simp[go_sem]<;>first|exact⟨rfl,rfl⟩|exact rfl) ?_
  rw[ifB_bool,if_pos rfl]
  refine rvS (v:=odV zOd) (w' :=w2) (by simp[go_sem,odV,odC,zOd]) ?_
  obtain⟨w3,e3,b3,m3⟩:=setOd (o' :=zOd) b2
  refine ruS e3 ?_
  refine rdWS (ldOd (o:=zOd) (At.all b3)) ?_
  exact hK _ ((m1.trans m2).on m3 λb hb=>.inr (by omega))
 ·have b2:=m2.hpk b1 id
  have h2:=h1.mod m2 λ_ _ h=>h
  obtain⟨⟨sl,c1,c2,c3,c4⟩,c5,c6⟩:=h2
  obtain⟨b,cap,hsl,hix,hld⟩:=c2.load hi
  rw[hg]at hK
  refine rvS (by simp[-Int.natCast_add,go_sem]<;>first|exact⟨rfl,rfl⟩|exact rfl) ?_
  refine rvS (by simp[-Int.natCast_add,go_sem]<;>first|exact⟨rfl,rfl⟩|exact rfl) ?_
  refine rvS (v:=.bool false) (by simp[go_sem]<;>first|exact⟨rfl,rfl⟩|exact rfl) ?_
  rw[ifB_bool,if_neg Bool.false_ne_true]
  simp only[sptr,nilK_ptr]
  refine rvS (by simp[-Int.natCast_add,go_sem,c1]<;>first|exact⟨rfl,rfl⟩|exact rfl) ?_
  refine rvS (by simp[-Int.natCast_add,go_sem,c1]<;>first|exact⟨rfl,rfl⟩|exact rfl) ?_
  refine rvS (hix _) ?_
  refine rvS hld ?_
  obtain⟨w3,e3,b3,m3⟩:=setOd (o' :=l[i]) b2
  refine ruS e3 ?_
  refine rdWS (ldOd (o:=l[i]) (At.all b3)) ?_
  exact hK _ ((m1.trans m2).on m3 λb hb=>.inr (by omega))
theorem ca_sbest{w:World}{K:Kont}{s:Nat}{F:Nat→Prop}{buy:Bool}{l:List Od}(h:SideQ w s F buy l)
  (hK:∀w',Mod (λ_=>False) w w' →K (.tuple #[odV (l.head?.getD zOd),.bool l.head?.isSome]) w'):Ca Tryz.prog 271 #[sptr s] w K:=by
 apply ca271
 unfold F271
 obtain⟨w1,e1,b1,m1⟩:=newOd w
 refine rvS e1 ?_
 obtain⟨p,hp0⟩:∃p,p=w.heap.size:=⟨_,rfl⟩
 rw[←hp0]at b1⊢
 have h1:=h.mod m1 λ_ _ h=>h
 obtain⟨⟨sl,c1,c2,c3,c4⟩,c5,c6⟩:=id h1
 obtain⟨sa,sc,hsl,-⟩:=c2.isSl
 refine JoinW.at (λst W=>st=(.bool (decide (l.length=0)),())∧W=w1) ?_ ?_
 ·refine ca_sready h1 ?_
  refine rvS (v:=.bool false) (by simp[go_sem]<;>first|exact⟨rfl,rfl⟩|exact rfl) ?_
  rw[ifB_bool,if_neg Bool.false_ne_true]
  simp only[sptr,nilK_ptr]
  refine rvS (by simp[-Int.natCast_add,go_sem,c1]<;>first|exact⟨rfl,rfl⟩|exact rfl) ?_
  refine rvS (by simp[-Int.natCast_add,go_sem,c1]<;>first|exact⟨rfl,rfl⟩|exact rfl) ?_
  refine rnS (v:=.int .i64 (l.length:Int)) (w' :=w1) (by rw[hsl];simp[go_sem]) ?_
  refine rvS (v:=.bool (decide (l.length=0))) (w' :=w1) (by simp[go_sem];rw[Bool.eq_iff_iff];simp) ?_
  exact⟨rfl,rfl⟩
 rintro _ w1 ⟨rfl,rfl⟩
 unfold J271_0
 intro _
 cases l with
 |nil=>
  rw[ifB_bool,if_pos (by simp)]
  refine rvS (v:=odV zOd) (w' :=w1) (by simp[go_sem,odV,odC,zOd]) ?_
  obtain⟨w3,e3,b3,m3⟩:=setOd (o' :=zOd) b1
  refine ruS e3 ?_
  refine rdWS (ldOd (o:=zOd) (At.all b3)) ?_
  exact hK _ (m1.on m3 λb hb=>.inr (by omega))
 |cons o r=>
  rw[ifB_bool,if_neg (by simp)]
  obtain⟨b,cap,hsl',hix,hld⟩:=c2.load (i:=0) (by simp)
  simp only[sptr,nilK_ptr]
  refine rvS (by simp[-Int.natCast_add,go_sem,c1]<;>first|exact⟨rfl,rfl⟩|exact rfl) ?_
  refine rvS (by simp[-Int.natCast_add,go_sem,c1]<;>first|exact⟨rfl,rfl⟩|exact rfl) ?_
  refine rvS (hix .i64) ?_
  refine rvS hld ?_
  obtain⟨w3,e3,b3,m3⟩:=setOd (o' :=o) b1
  refine ruS e3 ?_
  refine rdWS (ldOd (o:=o) (At.all b3)) ?_
  exact hK _ (m1.on m3 λb hb=>.inr (by omega))
theorem ca_slen{w:World}{K:Kont}{s:Nat}{F:Nat→Prop}{buy:Bool}{l:List Od}(h:SideQ w s F buy l)(hK:K (.int .i64 (l.length:Int)) w):Ca Tryz.prog 227 #[sptr s] w K:=by
 obtain⟨⟨sl,c1,c2,c3,c4⟩,c5,c6⟩:=id h
 obtain⟨sa,sc,hsl,-⟩:=c2.isSl
 apply ca227
 unfold F227
 refine ca_sready h ?_
 refine rvS (v:=.bool false) (by simp[go_sem]<;>first|exact⟨rfl,rfl⟩|exact rfl) ?_
 rw[ifB_bool,if_neg Bool.false_ne_true]
 simp only[sptr,nilK_ptr]
 refine rvS (by simp[-Int.natCast_add,go_sem,c1]<;>first|exact⟨rfl,rfl⟩|exact rfl) ?_
 refine rvS (by simp[-Int.natCast_add,go_sem,c1]<;>first|exact⟨rfl,rfl⟩|exact rfl) ?_
 refine rnS (v:=.int .i64 (l.length:Int)) (w' :=w) (by rw[hsl];simp[go_sem]) ?_
 exact hK
theorem ca_scopy{w:World}{K:Kont}{s:Nat}{F:Nat→Prop}{buy:Bool}{l:List Od}(h:SideQ w s F buy l)
  (hK:∀s' F' w',SideQ w' s' F' buy l→Mod (λ_=>False) w w' →(∀b,F' b→w.heap.size≤b)→K (sptr s') w'):Ca Tryz.prog 193 #[sptr s] w K:=by
 obtain⟨⟨sl,c1,c2,c3,c4⟩,c5,c6⟩:=id h
 apply ca193
 unfold F193
 refine ca_sready h ?_
 refine rvS (v:=.bool false) (by simp[go_sem]<;>first|exact⟨rfl,rfl⟩|exact rfl) ?_
 rw[ifB_bool,if_neg Bool.false_ne_true]
 have md:Mod (λ_=>False) w w.drew:=(Mod.refl _ w).drew
 have d1:=md.hpk c1 id
 simp only[sptr,nilK_ptr]
 refine rdPS (λ_=>by simp[-Int.natCast_add,go_sem]<;>first|exact⟨rfl,rfl⟩|exact rfl) ?_
 refine rdWS (by simp[-Int.natCast_add,go_sem,d1]<;>first|exact⟨rfl,rfl⟩|exact rfl) ?_
 refine rdPS (λ_=>by simp[-Int.natCast_add,go_sem]<;>first|exact⟨rfl,rfl⟩|exact rfl) ?_
 refine rdWS (by simp[-Int.natCast_add,go_sem,d1]<;>first|exact⟨rfl,rfl⟩|exact rfl) ?_
 refine ca_cloneOd (l:=l) (c2.mod md λ_ _ h=>h).rd (by omega) λs2 w2 o2 m2 n2=>?_
 have M2:=md.trans m2
 have d2:=m2.hpk d1 id
 refine⟨by simp[go_sem,d2],?_⟩
 obtain⟨sa,sc,hs2,-⟩:=o2.isSl
 refine rdPS (v:=.agg #[.bool true,.bool buy,s2]) (λW=>by rw[hs2];simp[go_sem]) ?_
 have m3:Mod (λ_=>False) w2 (w2.alloc (.cells #[.bool true,.bool buy,s2] 320)):=(Mod.refl _ w2).alloc _
 refine rvS (v:=sptr w2.heap.size) (w' :=w2.alloc (.cells #[.bool true,.bool buy,s2] 320)) rfl ?_
 have hsz:=M2.size
 refine hK w2.heap.size (λb=>b=w2.heap.size∨inSl s2 b) _ ⟨⟨s2,by simp[go_sem],o2.mod m3 λ_ _ h=>h,λb=>Iff.rfl,λhb=>?_⟩,c5,c6⟩ (M2.trans m3) λb hb=>?_
 ·have:=o2.lt hb
  omega
 ·rcases hb with rfl|hb
  ·exact hsz
  ·exact n2 b hb
theorem stSide{W:World}{s:Nat}{x0 x1 x2 v:Value}(h:hp W s=some (.cells #[x0,x1,x2] 320 (0,0)))(hv:∃a n c,v=.slice a n c):
  ∃W',(Instr.storeAt tOds (.pointer (some ⟨s,2,none⟩)) v).run Tryz.prog W=.ok () W' ∧hp W' s=some (.cells #[x0,x1,v] 320 (0,0))∧Mod (λb=>b=s) W W' :=by
 obtain⟨a,n,c,rfl⟩:=hv
 refine⟨W.setCell ⟨s,2,none⟩ (.slice a n c),by simp[go_sem,h],by simp[go_sem,h],(Mod.refl (λb=>b=s) W).setCell (.inl rfl) _ _⟩
theorem sdDel_idx{l:List Od}{n:Int}{i:Nat}(h:l.findIdx? (λx=>decide (x.num=n))=some i):sdDel l n=l.take i++l.drop (i+1):=by
 unfold sdDel
 rw[List.eraseP_eq_eraseIdx,h]
 exact List.eraseIdx_eq_take_drop_succ l i
theorem sdDel_len(l:List Od)(n:Int):(sdDel l n).length≤l.length:=List.length_eraseP_le
theorem sdDel_mem{l:List Od}{n:Int}{o:Od}(h:o∈sdDel l n):o∈l:=List.mem_of_mem_eraseP h
theorem ca_sdrop{w:World}{K:Kont}{s:Nat}{F:Nat→Prop}{buy:Bool}{l:List Od}{n:Int}(h:SideQ w s F buy l)
  (hK:∀F' w',SideQ w' s F' buy (sdDel l n)→Mod F w w' →(∀b,F' b→F b∨w.heap.size≤b)→K (.tuple #[odV ((sdGet l n).getD zOd),.int .i64 (if(sdGet l n).isSome then 0 else 7)]) w'):Ca Tryz.prog 259 #[sptr s,.int .u64 n] w K:=by
 apply ca259
 unfold F259
 obtain⟨w1,e1,b1,m1⟩:=newOd w
 refine rvS e1 ?_
 obtain⟨p,hp0⟩:∃p,p=w.heap.size:=⟨_,rfl⟩
 rw[←hp0]at b1⊢
 have h1:=h.mod m1 λ_ _ h=>h
 have toF:∀{W W' :World},Mod (λ_=>False) W W' →Mod F W W' :=λm=>m.mono λ_ _ h=>h.elim
 have pF:∀{b},F b→b<p:=λhb=>by rw[hp0];exact h.lt hb
 refine ca_sfind' h1 (λhg hix w2 m2=>?_) λi hi hg hidx w2 m2=>?_
 ·have b2:=m2.hpk b1 id
  have hde:sdDel l n=l:=by
   unfold sdDel
   rw[List.eraseP_eq_eraseIdx,hix]
  rw[hg,hde]at hK
  refine rvS (by simp[-Int.natCast_add,go_sem]<;>first|exact⟨rfl,rfl⟩|exact rfl) ?_
  refine rvS (by simp[-Int.natCast_add,go_sem]<;>first|exact⟨rfl,rfl⟩|exact rfl) ?_
  refine rvS (v:=.bool true) (by simp[go_sem]<;>first|exact⟨rfl,rfl⟩|exact rfl) ?_
  rw[ifB_bool,if_pos rfl]
  refine rvS (v:=odV zOd) (w' :=w2) (by simp[go_sem,odV,odC,zOd]) ?_
  obtain⟨w3,e3,b3,m3⟩:=setOd (o' :=zOd) b2
  refine ruS e3 ?_
  refine rdWS (ldOd (o:=zOd) (At.all b3)) ?_
  have M2:=m1.trans m2
  exact hK F _ ((h.mod M2 λ_ _ h=>h).mod m3 λb hb e=>by have:=pF hb;omega) ((toF M2).on m3 λb hb=>.inr (by omega)) λb hb=>.inl hb
 ·have b2:=m2.hpk b1 id
  have h2:=h1.mod m2 λ_ _ h=>h
  obtain⟨⟨sl,c1,c2,c3,c4⟩,c5,c6⟩:=id h2
  obtain⟨b,cap,hsl,hix,hld⟩:=c2.load hi
  rw[hg,sdDel_idx hidx]at hK
  refine rvS (by simp[-Int.natCast_add,go_sem]<;>first|exact⟨rfl,rfl⟩|exact rfl) ?_
  refine rvS (by simp[-Int.natCast_add,go_sem]<;>first|exact⟨rfl,rfl⟩|exact rfl) ?_
  refine rvS (v:=.bool false) (by simp[go_sem]<;>first|exact⟨rfl,rfl⟩|exact rfl) ?_
  rw[ifB_bool,if_neg Bool.false_ne_true]
  simp only[sptr,nilK_ptr]
  refine rvS (by simp[-Int.natCast_add,go_sem,c1]<;>first|exact⟨rfl,rfl⟩|exact rfl) ?_
  refine rvS (by simp[-Int.natCast_add,go_sem,c1]<;>first|exact⟨rfl,rfl⟩|exact rfl) ?_
  refine rvS (hix _) ?_
  refine rvS hld ?_
  obtain⟨w3,e3,b3,m3⟩:=newOd w2
  refine rvS e3 ?_
  obtain⟨q,hq0⟩:∃q,q=w2.heap.size:=⟨_,rfl⟩
  rw[←hq0]at b3⊢
  obtain⟨w4,e4,b4,m4⟩:=setOd (o' :=l[i]) b3
  refine ruS e4 ?_
  have M4:Mod (λ_=>False) w2 w4:=m3.on m4 λb hb=>.inr (by omega)
  have c1' :=M4.hpk c1 id
  have b4' :=M4.hpk b2 id
  have c2' :=c2.mod M4 λ_ _ h=>h
  refine rvS (by simp[-Int.natCast_add,go_sem,c1']<;>first|exact⟨rfl,rfl⟩|exact rfl) ?_
  refine rvS (by simp[-Int.natCast_add,go_sem,c1']<;>first|exact⟨rfl,rfl⟩|exact rfl) ?_
  refine rvS (v:=.int .i64 ((i+1:Nat):Int)) (w' :=w4) (by simp[go_sem];rw[wrapI (by omega) (by omega)]) ?_
  refine ca_deleteOd c2' (Nat.lt_succ_self i) hi (by omega) λs5 w5 o5 m5 n5=>?_
  obtain⟨sa,sc,hs5,-⟩:=o5.isSl
  have hsn:¬inSl sl s:=c4
  have hpn:¬inSl sl p:=λhb=>by have:=pF ((c3 p).2 (.inr hb));omega
  have hqn:¬inSl sl q:=λhb=>by have:=c2.lt hb;omega
  have c5' :=m5.hpk c1' hsn
  have p5:=m5.hpk b4' hpn
  have q5:=m5.hpk b4 hqn
  refine rvS (by simp[-Int.natCast_add,go_sem,c5']<;>first|exact⟨rfl,rfl⟩|exact rfl) ?_
  obtain⟨w6,e6,b6,m6⟩:=stSide (v:=s5) c5' ⟨_,_,_,hs5⟩
  refine ruS e6 ?_
  have hsp:s<p:=pF h.self
  have hpq:p<q:=by have:=lt_of_heap b2;omega
  have q6:=m6.hpk q5 (by omega)
  have p6:=m6.hpk p5 (by omega)
  refine rvS (ldOd (o:=l[i]) (At.all q6)) ?_
  obtain⟨w7,e7,b7,m7⟩:=setOd (o' :=l[i]) p6
  refine ruS e7 ?_
  refine rdWS (ldOd (o:=l[i]) (At.all b7)) ?_
  have s7:=m7.hpk b6 (by omega)
  have o6:OdS w6 s5 (l.take i++l.drop (i+1)):=o5.mod m6 λb hb e=>c4 (by rw[←e];exact n5 b hb)
  have o7:OdS w7 s5 (l.take i++l.drop (i+1)):=o6.mod m7 λb hb e=>hpn (by rw[←e];exact n5 b hb)
  have MF:Mod F w w7:=by
   have a1:=toF ((m1.trans m2).trans M4)
   have a2:Mod F w w5:=a1.on m5 λb hb=>.inl ((c3 b).2 (.inr hb))
   have a3:Mod F w w6:=a2.on m6 λb hb=>.inl (by rw[hb];exact h.self)
   exact a3.on m7 λb hb=>.inr (by omega)
  refine hK (λb=>b=s∨inSl s5 b) w7 ⟨⟨s5,s7,o7,λb=>Iff.rfl,λhb=>c4 (n5 s hb)⟩,?_,?_⟩ MF λb hb=>?_
  ·rw[←sdDel_idx hidx]
   exact Nat.le_trans (sdDel_len l n) c5
  ·intro o ho
   rw[←sdDel_idx hidx]at ho
   exact c6 o (sdDel_mem ho)
  ·rcases hb with rfl|hb
   ·exact .inl h.self
   ·exact .inl ((c3 b).2 (.inr (n5 b hb)))
end Go.Proofs
