import Derived.Test.YtcbkmmhkccnamaaGreatRf7
import Derived.Shelf.SlicesE.Clone
import Derived.Laws.CopyOwn
import Derived.LoopN
import Derived.WalkKit
import Derived.RegionTactic
import Derived.ChangeAlike
import Derived.Lib.Bytealg
import Derived.Lib.SplitLaws
import Derived.LaidLaws
import Derived.Lay
import Derived.Shelf.Strings.OnBuilder
import Derived.Shelf.Strconv.Itoa3
import Derived.Lib.AppendIntMem
import Derived.Lib.LaidTab
import Derived.Shelf.Lay
import Derived.Shelf.SlSortCmp.NoneTotal
import Derived.Shelf.SlicesE.Delete
import Derived.Lib.ItoaNum
set_option linter.all false
open Array renaming getElem?_eq_some_iff → Rb3
open Bool renaming and_eq_true → Obz, false_eq_true → Ob9, not_eq_true' → Pbs, or_eq_true → Qbb, not_true → Qbz, false_or → Qb6, true_and → Rbh, and_true → Rbz
open List renaming getElem?_eq_getElem → Ob5, mem_cons → Ob8, getD_eq_getElem?_getD → Pba, mem_cons_of_mem → Pbb, mem_cons_self → Pbf, map_cons → Pbn, replicate → Pbp, getElem?_map → Pbr, length_map → Pbt, all_eq_true → Pbv, length_cons → Pb9, getElem?_eq_none → Qbr, drop_eq_getElem_cons → Qby, pairwise_cons → Qb1, any_eq_true → Qb3, getElem_mem → Rbg, all_cons → Rbn, mem_range → Rbr, map_append → Rbs, getElem_of_mem → Rbt, range → Rbx, all_nil → Sbb
open Nat renaming le_refl → Pbj, add_assoc → Pbm, lt_or_ge → Pbo, add_zero → Pby, le_trans → Pb8, zero_le → Qbn
open Option renaming bind_some → Ob6, map_eq_some_iff → Pbc, map_some → Pb6
open Option.some renaming injEq → Ob0, inj → Pbu
namespace Go.Proofs.YtcbkmmhkccnamaaGreat.Rf
open Go.Proofs Go.Shelf Go.RowKit Go.Lib
section
variable {P:Program} {ρ:Ren}
set_option maxHeartbeats 2000000 in
set_option maxRecDepth 100000 in
theorem Oaz (L:SlLaysE0.n41 P ρ)(i0:TypeInfo)(z:Value)(size bytes:Nat)(hi:P.info? (ρ.t 23)=some i0)(wo:i0.zero=some z)(ql:i0.size=size)(p4:i0.bytes=bytes)(xj:z.cells.size=size)(dm:0<size)
  (z23:∀ w,(Go.sizeOf (ρ.t 23)).run P w=.ok size w) (a:Addr) (c:Nat) (w:World) :
  Calls P (ρ.f 41) #[.slice (some a) 0 c] w fun e w'=>∃ v',e=.returned v'/\w'.ownsRow w.heap.size (ρ.t 23) size v' 0 []/\Below w.heap.size w w':=by
 have mixed:=L.mixed;have t4:=L.t4;have a4:=L.a4;have z4:=L.z4;have v4:=L.v4;have t22:=L.t22;have a22:=L.a22;have z22:=L.z22;have v22:=L.v22
 have q22:∀ (w:World) (a:Option Addr) (n c n' c':Nat),(binOp .eql (ρ.t 22) (.slice a n c) (.slice none n' c')).run P w=.ok (.bool a.isNone) w:=fun w a n c n' c'=>Lib.run_eql_slice_nil w _ _ a n c n' c' L.t22
 have u22:∀ w,Sem.run P (underlying (ρ.t 22)) w=.ok (TypeDesc.slice (ρ.t 23)) w:=run_underlying t22;obtain⟨_,_,FG⟩:=L.f41
 go_enter FG,SlBodyN.n41_ntmps ρ
 go_wp2_with (at_builtin;refine wpList_append_own _ rfl _ _ (ρ.t 22) rfl w.heap.size (ρ.t 23) i0 z size bytes t22 hi wo ql p4 xj dm _ _ _ rfl (World.ownsRow_made w #[] 0 (Pbj _) (Qbn _) (by simp)) a 0 c [] rfl ?qc1 ?qc2 ?qc3 ?qc4 ?qc5 ?qc6 ?_)
 case qc1=>simp
 case qc2=>intro j u hj;simp at hj
 case qc3=>intro u hu;cases hu
 case qc4=>exact Qbn _
 case qc5=>simp
 case qc6=>simp
 intro v' w1 a7 zg fL
 go_wp2
 go_ret
 exact⟨v',rfl,by simpa using a7,((Below.refl _ w).alloc (Pbj _) _).grown zg (by simp) (by intro k hk;simp[Value.ownBlock]at hk;omega)⟩
theorem Mab {s:Sig}{G:Gh}{w:World}{vals:List Value}{ds:List D}(h:War s vals w G ds)(hb:s.boxes=[]):kW (nE s G w) G w :=
 ⟨rfl,rfl,rfl,Pbj _,fun b _ _=>⟨rfl,rfl⟩,fun b j hj he=>by
  obtain⟨h1,-⟩:=h.cells b j hj he;rw[hb]at h1;exact absurd h1 (Nat.not_lt_zero _),h.fresh⟩
theorem zW {s:Sig}{G:Gh}{w w':World}{vals:List Value}{ds:List D}{own':Nat->Ow}(h:War s vals w G ds)(hb:s.boxes=[])(rq:Below w.heap.size w w')(h1:∀ b,b<w.heap.size->own' b=G.own b)(h2:∀ b,w'.heap.size<=b->own' b=.frz) :
  kW (nE s G w) { G with own:=own' } w' :=
 ⟨rq.os,rq.tape,rq.output,rq.size,fun b aq _=>⟨rq.block b aq,h1 b aq⟩,fun b j hj he=>by
  obtain⟨h1,-⟩:=h.cells b j hj he;rw[hb]at h1;exact absurd h1 (Nat.not_lt_zero _),h2⟩
theorem Zan (L:SlLaysE0.n41 P ρ){i0:TypeInfo}{z:Value}{size bytes m key:Nat}{T1:Nat->Ent}(hi:P.info? (ρ.t 23)=some i0)(wo:i0.zero=some z)(ql:i0.size=size)(p4:i0.bytes=bytes)(xj:z.cells.size=size)(dm:0<size)
  (z23:∀ w,(Go.sizeOf (ρ.t 23)).run P w=.ok size w) (hK:∀ n,rH P T1 n key ⟨ρ.f 41,[(false,[.fz false])],[],[(false,[.ow (m+1)])]⟩) :
  Cbs P ⟨ρ.f 41,[(false,[.fz false])],[],[(false,[.ow (m+1)])]⟩ (fun ds=>match ds with
   |[.rows _ []]=>some [.rows size []]
   |ds=>Fun T1 key ds):=by
 intro vals w G ds gq ew he;by_cases ni:∃ sz,ds=[.rows sz []]
 ·obtain⟨sz,rfl⟩:=ni
  simp only[Ob0]at he;subst he;obtain⟨u,us,vs,rfl,⟨v,ui,rfl,⟨gA,-⟩,rfl⟩,uv,fL⟩:=ew.params;simp only[Ob9,if_false]at uv;obtain rfl:v=u:=by simpa using uv
  simp only[lD]at fL;subst fL;have a3m:Rd (fun b=>G.own b=.frz) w v (.rows sz []):=gA;obtain⟨A,a,n,c,vs,rfl,hn,hc,-,-⟩:=a3m.inv;obtain rfl:n=0:=hn.symm;obtain⟨nm,qS,hfn⟩:=L.f41;refine .inl ⟨kY hfn qS rfl _ _,?_⟩
  cases A with
  | none =>
   refine Calls.mono (AnyE.slices_Clone_nil L 0 c w) fun e w' ⟨h1,h2⟩=>?_
   subst h1;subst h2
   refine⟨G,[.slice none 0 0],rfl,Mab ew rfl,⟨_,_,_,rfl,⟨_,_,rfl,?_,rfl⟩,rfl,rfl⟩,trivial,trivial⟩;exact .sl none ⟨0,0,none⟩ 0 0 _ [] (fun _ _=>undef) rfl (Pbj _) (.inr ⟨rfl,rfl⟩) (by simp) (fun e=>by cases e) (by simp) (by simp)
  | some a' =>
   refine Calls.mono (Oaz L i0 z size bytes hi wo ql p4 xj dm z23 a' c w) fun e w' ⟨v',h1,h2,h3⟩=>?_
   subst h1
   rcases h2.2 with ⟨rfl,-⟩|⟨g,cap,cur,rfl,hg,bc,-,-,hcur,-⟩
   ·refine⟨{ G with own:=G.own },[.slice none 0 0],rfl,zW ew rfl h3 (fun _ _=>rfl) (fun b hb=>ew.fresh b (Pb8 h3.size hb)),⟨_,_,_,rfl,⟨_,_,rfl,?_,rfl⟩,rfl,rfl⟩,trivial,trivial⟩
    exact .sl none ⟨0,0,none⟩ 0 0 _ [] (fun _ _=>undef) rfl (Pbj _) (.inr ⟨rfl,rfl⟩) (by simp) (fun e=>by cases e) (by simp) (by simp)
   ·have aq:g<w'.heap.size:=(Rb3.1 bc).1
    refine⟨{ G with own:=fun b=>if b=g then .slc 0 [] else G.own b },[.slice (some ⟨g,0,none⟩) 0 cap],rfl,zW ew rfl h3 (fun b hb=>if_neg (by omega)) (fun b hb=>?_),⟨_,_,_,rfl,⟨_,_,rfl,?_,rfl⟩,rfl,rfl⟩,trivial,trivial⟩
    ·show (if b=g then _ else _)=_
     rw[if_neg (by omega)];exact ew.fresh b (Pb8 h3.size hb)
    ·refine .sl (some ⟨g,0,none⟩) ⟨g,0,none⟩ 0 cap _ [] (fun _ _=>undef) rfl (Qbn _) (.inl rfl) (by simp) (fun _=>⟨rfl,if_pos rfl,fun k hk=>?_⟩) (by simp) (by simp)
     have jh:k<cur.size:=by omega
     refine⟨cur[k],?_,?_⟩
     ·have hb:((⟨g,0,none⟩:Addr).add k).block=g:=add_block _ _
      have ho:((⟨g,0,none⟩:Addr).add k)=⟨g,k,none⟩:=by unfold Addr.add;split<;>simp_all
      rw[ho];simp[World.cell?,bc,jh]
     ·have ho:((⟨g,0,none⟩:Addr).add k)=⟨g,k,none⟩:=by unfold Addr.add;split<;>simp_all
      rw[ho];simp[World.frozen?,bc]
 ·have zf:Fun T1 key ds=some gq:=by
   dsimp only at he;split at he
   ·rename_i sz
    exact absurd ⟨sz,rfl⟩ ni
   ·exact he
  obtain⟨n,hn⟩:=Dap.1 zf;exact hK n vals w G ds gq ew hn
def Ma2 (P:Program)(t:TypeId):Option Nat:=match P.info? t with
 | some i => match i.zero with
  |some z=>if z.cells.size=i.size/\0<i.size then some i.size else none
  |none=>none
 |none=>none
noncomputable def Abi (size:Nat)(T1:Nat->Ent)(key:Nat):List D->Option (List D):=fun ds=>match ds with
 |[.rows _ []]=>some [.rows size []]
 |ds=>Fun T1 key ds
theorem Va5 (L:SlLaysE0.n41 P ρ){size m key f:Nat}{T T1:Nat->Ent}{ti:Nat->Option TI}{sigs:List (Nat×Sig)}(hf:ρ.f 41=f)(h:Ma2 P (ρ.t 23)=some size)(z23:∀ w,(Go.sizeOf (ρ.t 23)).run P w=.ok size w)
  (hK:∀ n,rH P T1 n key ⟨f,[(false,[.fz false])],[],[(false,[.ow (m+1)])]⟩) (hT:T key=.ext (Abi size T1 key)) :
  Sa6 P T ti sigs key ⟨f,[(false,[.fz false])],[],[(false,[.ow (m+1)])]⟩:=by
 subst hf;unfold Ma2 at h;split at h
 ·rename_i i hi
  split at h
  ·rename_i z hz
   split at h
   ·rename_i h1
    cases h;exact .inr ⟨_,hT,Zan L hi hz rfl rfl h1.1 h1.2 z23 hK⟩
   ·cases h
  ·cases h
 ·cases h
end
end Go.Proofs.YtcbkmmhkccnamaaGreat.Rf
namespace Go.Proofs.YtcbkmmhkccnamaaGreat.Rf
open Go.RowKit
section
variable {P:Program}
end
end Go.Proofs.YtcbkmmhkccnamaaGreat.Rf
namespace Go.Proofs.YtcbkmmhkccnamaaGreat.Rf
section
variable {P:Program}
end
open Go.Proofs Go.Shelf Go.RowKit Go.Lib
section
variable {P:Program} {ρ:Ren}
end
end Go.Proofs.YtcbkmmhkccnamaaGreat.Rf
namespace Go.Proofs.YtcbkmmhkccnamaaGreat.Rf
def ltQ (p q:Int×Int):Bool:=decide (p.1<q.1)||(p.1==q.1&&decide (p.2<q.2))
theorem Ia7 {p q:Int×Int}:ltQ p q=true↔p.1<q.1\/(p.1=q.1/\p.2<q.2):=by
 unfold ltQ;simp only[Qbb,Obz,decide_eq_true_eq,beq_iff_eq]
theorem tY {p q:Int×Int}:ltQ p q=false↔q.1<p.1\/(p.1=q.1/\q.2<=p.2):=by
 rw[<- Bool.not_eq_true,Ia7];omega
theorem Pa4 {p q:Int×Int}(h:ltQ p q=false)(h':ltQ q p=false):p=q:=by
 rw[tY]at h h';apply Prod.ext<;>omega
def Bbu {β:Type}(k:β->Int×Int)(x:β):List β->List β
 |[]=>[x]
 |y::r=>if ltQ (k x) (k y) then x::y::r else y::Bbu k x r
def wB {β:Type}(k:β->Int×Int):List β->List β
 |[]=>[]
 |x::r=>Bbu k x (wB k r)
theorem Ea6 {β:Type}(k:β->Int×Int)(x:β):∀ l:List β,(Bbu k x l).Perm (x::l)
 |[]=>.refl _
 | y :: r => by
  unfold Bbu;split
  ·exact .refl _
  ·exact ((Ea6 k x r).cons y).trans (.swap x y r)
theorem oM {β:Type}(k:β->Int×Int):∀ l:List β,(wB k l).Perm l
 |[]=>.refl _
 |x::r=>(Ea6 k x _).trans ((oM k r).cons x)
def Fa4 {β:Type}(k:β->Int×Int)(l:List β):Prop:=l.Pairwise fun x y=>ltQ (k y) (k x)=false
theorem Ea5 {β:Type}(k:β->Int×Int)(x:β):∀ {l:List β},Fa4 k l->Fa4 k (Bbu k x l)
 |[],_=>by unfold Bbu Fa4;simp
 | y :: r, h => by
  obtain⟨h1,h2⟩:=Qb1.1 h;unfold Bbu;split
  ·rename_i hx
   refine Qb1.2 ⟨fun z hz=>?_,h⟩;rw[Ia7]at hx
   rcases Ob8.1 hz with rfl|hz
   ·rw[tY];omega
   ·have:=h1 z hz
    rw[tY]at this ⊢;omega
  ·rename_i hx
   refine Qb1.2 ⟨fun z hz=>?_,Ea5 k x h2⟩
   rcases Ob8.1 ((Ea6 k x r).mem_iff.1 hz) with rfl|hz
   ·simpa using hx
   ·exact h1 z hz
theorem sU {β:Type}(k:β->Int×Int):∀ l:List β,Fa4 k (wB k l)
 |[]=>List.Pairwise.nil
 |x::r=>Ea5 k x (sU k r)
theorem Kaz {β:Type}(k:β->Int×Int){l l':List β}(hp:l'.Perm l)(hs:Fa4 k l')(hi:∀ x∈l,∀ y∈l,k x=k y->x=y):l'=wB k l :=
 List.Perm.eq_of_pairwise (le:=fun x y=>ltQ (k y) (k x)=false) (fun a b ha hb h1 h2=>hi a (hp.mem_iff.1 ha) b ((oM k l).mem_iff.1 hb) (Pa4 h2 h1)) hs (sU k l) (hp.trans (oM k l).symm)
def Oay (p q:Int×Int):Int:=if ltQ p q then -1 else if ltQ q p then 1 else 0
theorem Cbc {p q:Int×Int}:decide (Oay p q<0)=ltQ p q:=by
 unfold Oay
 cases h:ltQ p q with
 |true=>rfl
 | false =>
  simp only[Ob9,if_false];split<;>rfl
def Ear (p:Int×Int):D:=.rows 1 [[.int .i64 p.1],[.int .i64 p.2]]
def Hai:List (List D)->Option (List (Int×Int))
 |[]=>some []
 |[.rows 1 [[.int .i64 a],[.int .i64 b]]]::r=>(Hai r).map ((a,b)::·)
 |_=>none
theorem Hah:∀ {rs:List (List D)} {l:List (Int×Int)},Hai rs=some l->rs=l.map fun p=>[Ear p]
 |[],l,h=>by obtain rfl:=Pbu h;rfl
 | r :: rs, l, h => by
  unfold Hai at h;split at h
  ·rename_i he;cases he
  ·rename_i a b r' he
   obtain⟨rfl,rfl⟩:=List.cons.inj he;rw[Pbc]at h;obtain⟨l',h1,rfl⟩:=h;rw[Hah h1];rfl
  ·cases h
theorem Hag:∀ l:List (Int×Int),Hai (l.map fun p=>[Ear p])=some l
 |[]=>rfl
 | p :: r => by
  show (Hai (r.map fun p=>[Ear p])).map ((p.1,p.2)::·)=_
  rw[Hag r];rfl
def Eai:Nat:=1000000
def Eah:List D->Option (List D)
 |[.rows 1 rs]=>(Hai rs).bind fun l=>if l.length<=Eai then some [.rows 1 ((wB id l).map fun p=>[Ear p])] else none
 |_=>none
section
open Go.Proofs Go.Shelf Go.Sort
variable {P:Program} {ρ:Ren} {own:Nat->Ow} {w:World}
theorem Rp.zero1 {r:Nat}{p:List Nat}{v:Value}{d:D}(h:Rp own w r p 0 v d):Rd (fun b=>own b=.frz) w v d:=by
 cases h with
 |sc h=>exact .sc h
 |hole v h1=>exact .hole v h1
 |fz h=>exact h
theorem xO {ds:List D}{bx:Nat->Addr}:∀ {b i q:Nat} {bs:List (Bool×List (BS×BO))},(bs.all (·.1))=true->kK own w ds bx b i q bs
 |b,i,q,[],_=>trivial
 | b, i, q, (ro, cs) :: bs, h => by
  simp only[Rbn,Obz]at h;simp only[kK];rw[if_pos h.1];exact xO h.2
theorem Iah {α:Type}[Inhabited α](enc:α->Value)(gv off m:Nat)(dk:Array α)(os:Array Obj){b:Nat}(hb:b<w.heap.size)(ct:b≠gv):(sortWorld enc w gv off m dk os).heap[b]?=w.heap[b]?:=by
 unfold sortWorld;rw[heap_grow_old _ _ (by simpa using hb)];simp[putRow,mapBlock,Array.getElem?_modify,Ne.symm ct]
theorem Tak {α:Type}[Inhabited α](enc:α->Value)(gv off m:Nat)(dk:Array α)(os:Array Obj):w.heap.size<=(sortWorld enc w gv off m dk os).heap.size:=by
 unfold sortWorld;rw[size_grow];simp
theorem Bbi {α:Type}{lt:α->α->Prop}:∀ {l:List α},(∀ i j (hi:i<l.length) (hj:j<l.length),i<j->lt l[i] l[j])->l.Pairwise lt:=fun h=>List.pairwise_iff_getElem.2 fun i j hi hj tA=>h i j hi hj tA
theorem Zax {a:Addr}(h:a.spot=none)(k:Nat):a.add k=⟨a.block,a.off+k,none⟩:=by
 cases a with
 | mk b o s =>
  obtain rfl:s=none:=h;unfold Addr.add;split
  ·rename_i h0;subst h0;rfl
  ·rfl
theorem Taq (L:SlLaysF.n6 P ρ){α β:Type}[Inhabited α](enc:α->Value)(b:α->β)(vc:β->D)(tf:β->Int×Int)(cf:α->α->Int)(s8:∀ x y,ltOf cf x y=ltQ (tf (b x)) (tf (b y)))
  {g:Nat} {cs:List LS} {bxs:List (Bool×List (BS×BO))} {vals:List Value} {G:Gh} {ds:List D} (ew:War ⟨ρ.f 6,[(false,[.mu 1]),(false,[.clo g cs])],bxs,[]⟩ vals w G ds)
  (pT:(bxs.all (·.1))=true) (eg:∀ args w,(callFunc g args).run P w=.ok (.enter g args) w)
  {v:Value} (hv:v=G.hdr 0) (cb:List Value) (a09:vals=[v,.func (.func g) #[] cb.toArray])
  (pr:∀ gv off size,G.own gv=.slc 0 []->CmpLays1 P g cb.toArray enc cf gv off size w) (a1i:∀ x,Rd (fun b=>G.own b=.frz) w (enc x) (vc (b x)))
  {a:Addr} {n c:Nat} (ev:v=.slice (some a) n c) (gC:a.spot=none) (a7:G.own a.block=.slc 0 []) (cJ:∀ k,k<c->∃ u,w.cell? (a.add k)=some u/\w.frozen? (a.add k)=false)
  (hnc:n<=c) (hn:n<=Eai) (lP:0<n) (xs:List α) (qu:xs.length=n) (oY:∀ i x,xs[i]?=some x->w.cell? (a.add i)=some (enc x)) (a3e:∀ x∈xs.map b,∀ y∈xs.map b,tf x=tf y->x=y) :
  Calls P (ρ.f 6) vals.toArray w fun e w'=>∃ u,e=.returned u/\Ja7 ⟨ρ.f 6,[(false,[.mu 1]),(false,[.clo g cs])],bxs,[]⟩ (nE ⟨ρ.f 6,[(false,[.mu 1]),(false,[.clo g cs])],bxs,[]⟩ G w) G.bx u w' [.rows 1 ((wB tf (xs.map b)).map fun p=>[vc p])]:=by
 have tB:=Zax gC;have h1:OneCell enc:=fun x=>(a1i x).one
 have hblk:a.block<w.heap.size:=by
  obtain⟨u,hu,-⟩:=cJ 0 (by omega);have:=Jav hu;rwa[add_block]at this
 have dm:xs.toArray.size=n:=by simpa using qu
 have hH:Holds enc w a.block a.off xs.toArray:=by
  intro j hj;rw[dm]at hj;have hjx:j<xs.length:=by omega
  have hx:=oY j xs[j] (by rw[Ob5 hjx]);obtain⟨u,hu,hf⟩:=cJ j (by omega);rw[tB]at hx hf;refine⟨?_,hf⟩;rw[hx,getElem!_pos xs.toArray j (by simpa using hjx)];simp
 have hO:SWO (ltOf cf):=by
  refine⟨fun x=>?_,fun x y z h h'=>?_,fun x y z h h'=>?_⟩
  ·rw[s8,tY];omega
  ·rw[s8,Ia7]at *;omega
  ·rw[s8,tY]at *;omega
 have hS:=Any.slices_SortFunc L enc h1 cf hO g cb.toArray a.block a.off c xs.toArray w eg (pr _ _ _ a7) hH hblk (by rw[dm];unfold Eai at hn;omega)
 have ea:(⟨a.block,a.off,none⟩:Addr)=a:=by
  cases a with
  | mk b o s =>
   obtain rfl:s=none:=gC;rfl
 rw[dm,ea,<- ev]at hS;rw[a09];refine hS.mono ?_
 rintro e w' ⟨rfl,d',m,os,hP,hSo,rfl⟩
 refine⟨_,rfl,?_⟩;obtain⟨ni,-,vu⟩:=hP;rw[dm]at ni;have e1:d'.extract 0 n=d':=by rw[<- ni];exact Array.extract_size
 have e2:xs.toArray.extract 0 n=xs.toArray:=by rw[<- dm];exact Array.extract_size
 rw[e1,e2]at vu
 have tl:d'.toList.map b=wB tf (xs.map b):=by
  refine Kaz tf (by simpa using vu.map b) ?_ a3e;refine Bbi fun i j hi hj tA=>?_
  have fb:i<d'.size:=by simpa using hi
  have gn:j<d'.size:=by simpa using hj
  have:=hSo i j (Qbn _) tA (by omega);rw[s8,getElem!_pos d' i fb,getElem!_pos d' j gn]at this;simpa using this
 have hlen:(wB tf (xs.map b)).length=n:=by rw[(oM tf _).length_eq,Pbt,qu]
 have hH':Holds enc (sortWorld enc w a.block a.off m d' os) a.block a.off d':=by
  unfold sortWorld;refine holds_grow _ _ _ _ _ _ (by simpa using hblk) (holds_putRow enc _ _ _ xs.toArray d' hH (by rw[dm,ni]))
 refine⟨{ G with own:=fun b=>if b=a.block then .slc 1 [] else G.own b },[],rfl,?_,rfl,⟨?_,trivial⟩,xO pT⟩
 ·refine⟨rfl,rfl,rfl,Tak enc _ _ _ _ _,fun b hb ho=>?_,fun b j hb ho=>?_,fun b hb=>?_⟩
  ·have ct:b≠a.block:=by rintro rfl;change G.own a.block=_\/G.own a.block=_ at ho;rw[a7]at ho;rcases ho with h|h<;>cases h
   exact⟨Iah enc _ _ _ _ _ hb ct,if_neg ct⟩
  ·have ct:b≠a.block:=by rintro rfl;change G.own a.block=_ at ho;rw[a7]at ho;cases ho
   obtain⟨-,c0,e0,fr,xr⟩:=ew.cells b j hb ho;refine⟨(if_neg ct).trans ho,c0,c0,e0,fr,xr,(Iah enc _ _ _ _ _ hb ct).trans xr,rfl,fun _ _=>rfl⟩
  ·have h0:=Pb8 (Tak enc a.block a.off m d' os) hb
   show (if b=a.block then _ else _)=_
   rw[if_neg (by omega)];exact ew.fresh b h0
 ·show Rp _ _ _ _ _ (G.hdr 0) _
  rw[<- hv,ev]
  have kb:∀ i p,(wB tf (xs.map b))[i]?=some p->∃ x,d'[i]?=some x/\b x=p/\i<d'.size:=by
   intro i p hi;rw[<- tl,Pbr,Pbc]at hi;obtain⟨x,hx,rfl⟩:=hi;rw[Array.getElem?_toList]at hx;exact⟨x,hx,rfl,(Rb3.1 hx).1⟩
  refine .sl (some a) a n c 1 _ (fun i _=>enc d'[i]!) (by rw[Pbt,hlen]) hnc (.inl rfl) (by simp) (fun _=>⟨gC,if_pos rfl,fun k hk=>?_⟩) (fun i row hi j d hj=>?_) (fun i row hi j d hj=>?_)
  ·rw[Nat.mul_one]at hk
   rcases Pbo k n with sB|sB
   ·obtain⟨h3,h4⟩:=hH' k (by omega)
    rw[tB];exact⟨_,h3,h4⟩
   ·obtain⟨u,hu,hf⟩:=cJ k hk
    rw[tB]at hu hf ⊢;refine⟨u,?_,?_⟩
    ·unfold sortWorld
     rw[cell?_grow _ _ _ (by simpa using hblk),cell?_putRow_other _ _ _ _ _ _ (.inr (.inr (by simp only[ni];omega)))];exact hu
    ·unfold sortWorld
     rw[frozen?_grow _ _ _ (by simpa using hblk),frozen?_putRow];exact hf
  ·rw[Pbr,Pbc]at hi
   obtain⟨p,hp,rfl⟩:=hi;obtain⟨x,hx,-,aq⟩:=kb i p hp
   cases j with
   |succ j=>simp at hj
   | zero =>
    rw[Nat.mul_one,Pby,tB];exact (hH' i aq).1
  ·rw[Pbr,Pbc]at hi
   obtain⟨p,hp,rfl⟩:=hi;obtain⟨x,hx,hb,aq⟩:=kb i p hp
   cases j with
   |succ j=>simp at hj
   | zero =>
    simp only[List.getElem?_cons_zero,Ob0]at hj;subst hj
    have ex:d'[i]! = x:=by
     rw[getElem!_pos d' i aq];exact (Rb3.1 hx).2
    rw[ex,<- hb];refine .fz ((a1i x).mono' fun b hb aq=>?_);have ct:b≠a.block:=by rintro rfl;rw[a7]at hb;cases hb
    exact⟨(if_neg ct).trans hb,Iah enc _ _ _ _ _ aq ct⟩
end
section
open Go.Proofs Go.Shelf Go.Sort
variable {P:Program} {ρ:Ren} {own:Nat->Ow} {w:World}
theorem Bbm {f g:Nat}{cs:List LS}{bxs:List (Bool×List (BS×BO))}{vals:List Value}{G:Gh}{ds:List D}(ew:War ⟨f,[(false,[.mu 1]),(false,[.clo g cs])],bxs,[]⟩ vals w G ds)
  (pT:(bxs.all (·.1))=true) {d:D} (h:Rp G.own w 0 [] 1 (G.hdr 0) d) :
  Ja7 ⟨f,[(false,[.mu 1]),(false,[.clo g cs])],bxs,[]⟩ (nE ⟨f,[(false,[.mu 1]),(false,[.clo g cs])],bxs,[]⟩ G w) G.bx (.tuple #[]) w [d]:=by
 let iw:Nat->Ow:=fun b=>match G.own b with
  |.slc s p=>if s=0 then (if p.length<1 then .slc 1 p else .frz) else .slc s p
  |o=>o
 refine⟨{ G with own:=iw },[],rfl,⟨rfl,rfl,rfl,Pbj _,fun b hb ho=>⟨rfl,?_⟩,fun b j hb ho=>?_,fun b hb=>?_⟩,rfl,⟨?_,trivial⟩,xO pT⟩
 ·change G.own b=_\/G.own b=_ at ho
  show iw b=G.own b
  rcases ho with ho|ho<;>simp only[iw,ho]
 ·change G.own b=_ at ho
  obtain⟨-,c0,e0,fr,xr⟩:=ew.cells b j hb ho;refine⟨?_,c0,c0,e0,fr,xr,xr,rfl,fun _ _=>rfl⟩;show iw b=_
  simp only[iw,ho]
 ·show iw b=_
  simp only[iw,ew.fresh b hb]
 ·show Rp iw w 1 [] 1 (G.hdr 0) d
  refine h.move (fun b hb _=>⟨by simp only[iw,hb],rfl⟩) [] 1 (Pbj _) fun b t hb=>⟨?_,rfl⟩
  simp only[List.nil_append]at hb ⊢;simp only[iw,hb,if_true]
def Ja1 (P:Program)(g:Nat):Prop :=
 ∀ (a b:Addr) (ca cb:Nat) (x y:Int×Int) (w:World),w.cell? a=some (.int .i64 x.1)->w.cell? (a.add 1)=some (.int .i64 x.2)->w.cell? b=some (.int .i64 y.1)->w.cell? (b.add 1)=some (.int .i64 y.2) ->
  Calls P g #[.slice (some a) 2 ca,.slice (some b) 2 cb] w fun e w'=>e=.returned (.int .i64 (Oay x y))/\∃ q os,w'=grow (w.drewN q) os
def Qax (own:Nat->Ow)(w:World)(v:Value)(p:Int×Int):Prop :=
 ∃ a c,v=.slice (some a) 2 c/\2<=c/\own a.block=.frz/\w.cell? a=some (.int .i64 p.1)/\w.cell? (a.add 1)=some (.int .i64 p.2)
theorem Ua0 {v:Value}{p:Int×Int}(h:Rd (fun b=>own b=.frz) w v (Ear p)):Qax own w v p:=by
 obtain⟨A,a,n,c,vs,rfl,hn,hc,hA,dm,bc,b5⟩:=h.inv;obtain rfl:n=2:=hn.symm;obtain rfl:A=some a:=hA.resolve_left (by omega);obtain⟨h1,h2⟩:=bc 0 _ rfl 0 _ rfl;obtain⟨-,h3⟩:=bc 1 _ rfl 0 _ rfl;have h4:=b5 0 _ rfl 0 _ rfl;have h5:=b5 1 _ rfl 0 _ rfl;have e0:a.add 0=a:=if_pos rfl;simp only[Nat.zero_mul,Pby,Nat.one_mul,e0]at h2 h3;generalize vs 0 0=u0 at h2 h4;generalize vs 1 0=u1 at h3 h5;obtain rfl:u0=.int .i64 p.1:=by cases h4 with|sc h=>cases h;rfl
 obtain rfl:u1=.int .i64 p.2:=by cases h5 with|sc h=>cases h;rfl
 exact⟨a,c,rfl,hc,h1,h2,h3⟩
theorem Qax.rd {v:Value}{p:Int×Int}(h:Qax own w v p):Rd (fun b=>own b=.frz) w v (Ear p):=by
 obtain⟨a,c,rfl,hc,ho,h1,h2⟩:=h;have e0:a.add 0=a:=if_pos rfl;refine .rows (some a) a 2 c 1 _ (fun i _=>if i=0 then .int .i64 p.1 else .int .i64 p.2) rfl hc (.inr rfl) (by simp) (fun i r hi j d hj=>?_) (fun i r hi j d hj=>?_)
 ·match i,j with
  |0,0=>exact⟨ho,by simpa[e0] using h1⟩
  |1,0=>exact⟨ho,by simpa using h2⟩
  |0,j+1=>simp at hi;subst hi;simp at hj
  |1,j+1=>simp at hi;subst hi;simp at hj
  |i+2,_=>simp at hi
 ·match i,j with
  |0,0=>simp at hi;subst hi;simp at hj;subst hj;exact .sc (.int _ _)
  |1,0=>simp at hi;subst hi;simp at hj;subst hj;exact .sc (.int _ _)
  |0,j+1=>simp at hi;subst hi;simp at hj
  |1,j+1=>simp at hi;subst hi;simp at hj
  |i+2,_=>simp at hi
theorem Rp.sl1 {v:Value}{sz:Nat}{rs:List (List D)}(h:Rp own w 0 [] 1 v (.rows sz rs)):∃ (A:Option Addr) (a:Addr) (n c:Nat) (vs:Nat->Nat->Value),v=.slice A n c/\rs.length=n/\n<=c/\(A=some a\/(A=none/\c=0))/\(∀ r∈rs,r.length=sz) /\
  (A=some a->a.spot=none/\own a.block=.slc 0 []/\∀ k,k<c*sz->∃ u,w.cell? (a.add k)=some u/\w.frozen? (a.add k)=false) /\
  (∀ i row,rs[i]?=some row->∀ j d,row[j]?=some d->w.cell? (a.add (i*sz+j))=some (vs i j))/\∀ i row,rs[i]?=some row->∀ j d,row[j]?=some d->Rd (fun b=>own b=.frz) w (vs i j) d:=by
 obtain⟨A,a,n,c,vs,e1,e2,e3,e4,e5,e6,e7,e8⟩:=h.sl_inv;exact⟨A,a,n,c,vs,e1,e2,e3,e4,e5,e6,e7,fun i row hi j d hj=>(e8 i row hi j d hj).zero1⟩
theorem Xa7 (L : SlLaysF.n6 P ρ) {g : Nat} {fn : Func} {c : Code} (hg : P.funcs[g]? = some fn) (hname : (fn.name == "runtime.NumGoroutine") = false) (hb : fn.body = some c) (W : Ja1 P g) :
  Cbs P ⟨ρ.f 6,[(false,[.mu 1]),(false,[.clo g []])],[],[]⟩ Eah:=by
 intro vals w G ds gq ew hr;unfold Eah at hr;split at hr
 case h_2=>cases hr
 rename_i rs;rw[Option.bind_eq_some_iff]at hr;obtain⟨l,hl,hr⟩:=hr;split at hr
 case isFalse=>cases hr
 rename_i hlen;obtain rfl:=Pbu hr;obtain⟨u,us,vs,rfl,⟨v,ui,rfl,⟨hv,fa⟩,rfl⟩,uv,u2,us2,vs2,rfl,⟨v2,vs3,rfl,⟨cb,rfl,yr⟩,rfl⟩,hsh2,fL⟩:=ew.params;simp only[Ob9,if_false]at uv hsh2;obtain rfl:v=u:=by simpa using uv
 obtain rfl:Value.func (.func g) #[] cb.toArray=u2:=by simpa using hsh2
 simp only[lD]at fL;subst fL;simp only[xY]at yr;subst yr;have a0d:Rp G.own w 0 [] 1 v (.rows 1 rs):=fa;obtain⟨A,a,n,c,cv,dt,hn,z7,hA,dm,a7,bc,b5⟩:=a0d.sl1;obtain rfl:=Hah hl;rw[Pbt]at hn;obtain⟨nm,qS,hfn⟩:=L.f6;refine .inl ⟨kY hfn qS rfl _ _,?_⟩
 rcases Nat.eq_zero_or_pos n with h0|lP
 ·subst h0
  obtain rfl:l=[]:=List.eq_nil_of_length_eq_zero hn;have h:=AnyF.slices_SortFunc_none (P:=P) (ρ:=ρ) { L with } A c (.func (.func g) #[] #[]) w;rw[dt];refine h.mono ?_
  rintro e w' ⟨rfl,rfl⟩
  exact Bbm ew rfl (hv▸a0d)
 ·obtain rfl:A=some a:=by
   rcases hA with h|⟨-,h⟩
   ·exact h
   ·omega
  obtain⟨gC,oz,cJ⟩:=a7 rfl
  let α:={ x:Value×(Int×Int) // Qax G.own w x.1 x.2 }
  have hex:∀ i,i<n->∃ x:α,l[i]?=some x.1.2/\cv i 0=x.1.1:=by
   intro i hi;have fb:l[i]?=some (l[i]'(by omega)):=Ob5 (by omega);have hr:=b5 i [Ear (l[i]'(by omega))] (by rw[Pbr,fb];rfl) 0 _ rfl;exact⟨⟨(cv i 0,l[i]'(by omega)),Ua0 hr⟩,fb,rfl⟩
  obtain⟨xs,qu,oY⟩:=Oaj n hex
  haveI:Inhabited α:=⟨(hex 0 lP).choose⟩
  have a5f:xs.map (fun x:α=>x.1.2)=l:=by
   apply List.ext_getElem?;intro i;rw[Pbr]
   rcases Pbo i n with hi|hi
   ·have hx:xs[i]?=some (xs[i]'(by omega)):=Ob5 (by omega)
    rw[hx];exact (oY i _ hx).1.symm
   ·rw[Qbr (by omega),Qbr (by omega)]
    rfl
  have oi:=Taq (w:=w) (G:=G) L (α:=α) (fun x=>x.1.1) (fun x=>x.1.2) Ear id (fun x y=>Oay x.1.2 y.1.2) (fun x y=>Cbc) (g:=g) ew rfl (fun args w=>kY hg hname hb args w) hv [] rfl
   (fun gv off size np m os dk hs x y=>?_) (fun x=>x.2.rd) dt gC oz (fun k hk=>cJ k (by omega)) z7 (by omega) lP xs qu (fun i x hx=>?_) (fun x _ y _ h=>h)
  ·rw[a5f]at oi
   refine oi.mono ?_
   rintro e w' ⟨u,rfl,h⟩
   exact h
  ·obtain⟨ax,cx,hxv,hcx,tW,nx,nc⟩:=x.2
   obtain⟨ay,cy,xu,hcy,tG,yy,hy2⟩:=y.2
   have ja:∀ (b:Addr) (u:Value),G.own b.block=.frz->w.cell? b=some u->(sortWorld (fun x:α=>x.1.1) w gv off m dk os).cell? b=some u:=by
    intro b u ho hc;refine (eY (Iah _ _ _ _ _ _ (Jav hc) ?_)).trans hc;intro e;rw[e,np]at ho;cases ho
   show Calls P g #[x.1.1,y.1.1] _ _
   rw[hxv,xu];exact (W ax ay cx cy x.1.2 y.1.2 _ (ja _ _ tW nx) (ja _ _ (by rw[add_block];exact tW) nc) (ja _ _ tG yy) (ja _ _ (by rw[add_block];exact tG) hy2))
  ·obtain⟨h1,h2⟩:=oY i x hx
   have:=bc i [Ear x.1.2] (by rw[Pbr,h1];rfl) 0 _ rfl;rw[Nat.mul_one,Pby,h2]at this;exact this
theorem Tar (L : SlLaysF.n6 P ρ) {f g key : Nat} {fn : Func} {c : Code} {T : Nat -> Ent} {ti : Nat -> Option TI} {sigs : List (Nat × Sig)} (hf : ρ.f 6 = f) (hg : P.funcs[g]? = some fn) (hname : (fn.name == "runtime.NumGoroutine") = false) (hb : fn.body = some c) (W : Ja1 P g)
  (hT:T key=.ext Eah):Sa6 P T ti sigs key ⟨f,[(false,[.mu 1]),(false,[.clo g []])],[],[]⟩:=by
 subst hf;exact .inr ⟨_,hT,Xa7 L hg hname hb W⟩
end
section
open Go.Proofs Go.Shelf Go.Sort
variable {P:Program} {ρ:Ren} {own:Nat->Ow} {w:World}
end
section
open Go.Proofs Go.Shelf Go.RowKit Go.Lib Go.Sort
variable {P:Program} {ρ:Ren}
set_option maxHeartbeats 4000000 in
set_option maxRecDepth 1000000 in
theorem Cba (L:SlLaysE0.n45 P ρ){K:Nat}{i0:TypeInfo}{z:Value}(nk:P.info? (ρ.t 23)=some i0)(wo:i0.zero=some z)(ql:i0.size=K)(xj:z.cells.size=K)(hK:0<K)(hzo:∀ u∈z.cells.toList,u.oneCell'=true)
  (z23:∀ w,(Go.sizeOf (ρ.t 23)).run P w=.ok K w) (gv off n cap i j:Nat) (w:World) (olds:List Value) (qh:olds.length=n*K) (tq:∀ k u,olds[k]?=some u->w.cell? ⟨gv,off+k,none⟩=some u) (ho1:∀ u∈olds,u.oneCell'=true)
  (cE:∀ k,k<cap*K->∃ u,w.cell? ⟨gv,off+k,none⟩=some u/\w.frozen? ⟨gv,off+k,none⟩=false) (z7:n<=cap) (hn:n<=4611686018427387904) (tA:i<=j) (hj:j<=n) :
  Calls P (ρ.f 45) #[.slice (some ⟨gv,off,none⟩) n cap,.int .i64 i,.int .i64 j] w fun e w'=>e=.returned (.slice (some ⟨gv,off,none⟩) (n-(j-i)) cap) /\
   ((i=j/\w'=w)\/(i<j/\w'=(w.drew.setCells gv (off+i*K) (olds.drop (j*K))).setCells gv (off+(i+(n-j))*K) (Builtin.zeroCells z.cells (n-(i+(n-j)))).toList)):=by
 have mixed:=L.mixed;have t0:=L.t0;have a0:=L.a0;have z0:=L.z0;have v0:=L.v0;have t3:=L.t3;have a3:=L.a3;have z3:=L.z3;have v3:=L.v3;have t4:=L.t4;have a4:=L.a4;have z4:=L.z4;have v4:=L.v4;have t22:=L.t22;have a22:=L.a22;have z22:=L.z22;have v22:=L.v22
 by_cases heq:i=j
 ·subst heq
  have h0:Calls P (ρ.f 45) #[.slice (some ⟨gv,off,none⟩) n cap,.int .i64 i,.int .i64 i] w fun e w'=>e=.returned (.slice (some ⟨gv,off,none⟩) n cap)/\w'=w:=by
   clear tq ho1 cE qh;obtain⟨_,_,FG⟩:=L.f45
   go_enter FG,SlBodyN.n45_ntmps ρ
   go_wp2
   all_goals (go_ret;exact⟨rfl,rfl⟩)
  refine h0.mono ?_
  rintro e w' ⟨rfl,rfl⟩
  exact⟨by rw[Nat.sub_self,Nat.sub_zero],.inl ⟨rfl,rfl⟩⟩
 ·have aq:i<j:=by omega
  obtain⟨news,od⟩:∃ news,news=olds.drop (j*K):=⟨_,rfl⟩;have hlen:news.length=(n-j)*K:=by rw[od,List.length_drop,qh,Nat.sub_mul]
  have hjc:cap≠j->j<cap:=by omega
  have hmul:∀ a b:Nat,a<=b->a*K<=b*K:=fun a b h=>Nat.mul_le_mul_right K h
  obtain⟨A,hA,pg⟩:∃ A:Addr,(if cap=j then (some (⟨gv,off,none⟩:Addr)) else some ⟨gv,off+j*K,none⟩)=some A/\Hid (∀ t u,news[t]?=some u->w.drew.cell? (A.add t)=some u):=by
   by_cases h:cap=j
   ·refine⟨⟨gv,off,none⟩,by simp[h],fun t u hu=>?_⟩
    have h0:news.length=0:=by rw[hlen,show n-j=0 by omega,Nat.zero_mul]
    rw[List.length_eq_zero_iff.1 h0]at hu;simp at hu
   ·refine⟨⟨gv,off+j*K,none⟩,by simp[h],fun t u hu=>?_⟩
    rw[od,List.getElem?_drop]at hu;have:=tq _ u hu;rw[Addr.add_lit,show off+j*K+t=off+(j*K+t) by omega];exact this
  have s1:Hid (news.length=(n-j)*K):=hlen;have s2:Hid (∀ u∈news,u.oneCell'=true):=fun u hu=>ho1 u (List.mem_of_mem_drop (od▸hu))
  have nz:i*K+(n-j)*K<=cap*K:=by rw[<- Nat.add_mul];exact hmul _ _ (by omega)
  have s3:Hid (∀ t,t<news.length->(w.drew.cell? ⟨gv,off+i*K+t,none⟩).isSome=true/\w.drew.frozen? ⟨gv,off+i*K+t,none⟩=false):=by
   intro t ht;rw[hlen]at ht;obtain⟨u,h1,h2⟩:=cE (i*K+t) (by omega);rw[Pbm];exact⟨by show (w.cell? _).isSome=true;rw[h1];rfl,h2⟩
  obtain⟨W1,hW1⟩:∃ W1,W1=w.drew.setCells gv (off+i*K) news:=⟨_,rfl⟩
  have vq:∀ k,k<cap*K->∃ u,W1.cell? ⟨gv,off+k,none⟩=some u/\W1.frozen? ⟨gv,off+k,none⟩=false:=by
   intro k hk;obtain⟨u,h1,h2⟩:=cE k hk;rw[hW1];obtain⟨u',h3⟩:=lT (w:=w.drew) (B:=gv) (o:=off+i*K) (vs:=news) (b:=⟨gv,off+k,none⟩) (fun _=>rfl) (fun t ht=>(s3.out t ht).1) h1;exact⟨u',h3,by rw[World.frozen?_setCells];exact h2⟩
  generalize hZ:(Builtin.zeroCells z.cells (n-(i+(n-j)))).toList=Z;have hZl:Z.length=(n-(i+(n-j)))*K:=by rw[<- hZ];simp[Builtin.zeroCells,xj]
  have hZ1:∀ u∈Z,u.oneCell'=true:=by
   intro u hu;rw[<- hZ,Builtin.zeroCells,Array.mem_toList_iff,Array.mem_map]at hu;obtain⟨q,hq,rfl⟩:=hu;have aq:q % z.cells.size<z.cells.size:=Nat.mod_lt _ (by omega);rw[getElem!_pos z.cells _ aq];exact hzo _ (Array.getElem_mem_toList aq)
  have jx:∀ ty,(Builtin.clear_ #[ρ.t 22] ty #[.slice (some ⟨gv,off+(i+(n-j))*K,none⟩) (n-(i+(n-j))) (cap-(i+(n-j)))]).run P W1=.ok (.tuple #[]) (W1.setCells gv (off+(i+(n-j))*K) Z):=by
   intro ty
   have cJ:∀ t,t<Z.length->∃ u,W1.cell? ⟨gv,off+(i+(n-j))*K+t,none⟩=some u/\W1.frozen? ⟨gv,off+(i+(n-j))*K+t,none⟩=false:=fun t ht=>by
    have h1:(i+(n-j))*K+(n-(i+(n-j)))*K<=cap*K:=by rw[<- Nat.add_mul];exact hmul _ _ (by omega)
    have:=vq ((i+(n-j))*K+t) (by omega);rwa[<- Pbm]at this
   have ba:=run_storeCells_cells (P:=P) gv (off+(i+(n-j))*K) Z 0 W1 (fun t ht=>by obtain⟨u,h1,-⟩:=cJ t ht;rw[Pby,h1];rfl) (fun t ht=>by rw[Pby];exact (cJ t ht).choose_spec.2) hZ1;obtain⟨q,hq⟩:∃ q,n-(i+(n-j))=q+1:=⟨n-(i+(n-j))-1,by omega⟩;rw[hq]at hZ ⊢;simp only[Pby]at ba;simp[Builtin.clear_,run_underlying t22,jZ nk wo,hZ,ba]
  have hW:Hid (W1=w.drew.setCells gv (off+i*K) news):=hW1;have hn':Hid (news=olds.drop (j*K)):=od;have hic:i<=cap:=by omega
  have hjc:j<=cap:=by omega
  have hK0:Hid (0<K):=hK;clear hW1 od hlen vq cE tq ho1 qh hmul nz hZ hZl hZ1 hK;obtain⟨_,_,FG⟩:=L.f45
  go_enter FG,SlBodyN.n45_ntmps ρ
  go_wp2_with fail
  go_region_law_o (refine step_append_room rfl (.tmp 22) (.tmp 25) (ρ.t 22) rfl (ρ.t 23) i0 K t22 nk ql gv off i cap (by simp[Act.eval,Act.put]) A (n-j) (cap-j) news (by simp[Act.eval,Act.put]) s1.out pg.out s2.out (by omega) s3.out ?_;rw[<- hW.out])
  go_wp2
  go_ret
  refine⟨by rw[show n-(j-i)=i+(n-j) by omega];rfl,.inr ⟨aq,?_⟩⟩;rw[hW.out,hn'.out]
end
section
open Go.Proofs Go.Shelf
variable {P:Program} {ρ:Ren}
end
class Enc (α:Type) where
 sz:Nat
 enc:α->List D
 len:∀ a,(enc a).length=sz
instance:Enc Int:=⟨1,fun n=>[i64 n],fun _=>rfl⟩
instance:Enc Bool:=⟨1,fun b=>[.bool b],fun _=>rfl⟩
instance:Enc (List UInt8):=⟨1,fun s=>[.str s],fun _=>rfl⟩
def rL {α:Type}[Enc α](xs:List α):D:=.rows (Enc.sz α) (xs.map Enc.enc)
instance {α:Type} [Enc α]:Enc (List α):=⟨1,fun xs=>[rL xs],fun _=>rfl⟩
def InB {α:Type}(xs:List α)(k:Int):Prop:=0<=k/\k<xs.length
def atI {α:Type}[Inhabited α](xs:List α)(k:Int):α:=xs.getD k.toNat default
def lK {α:Type}(xs:List α)(k:Int)(a:α):List α:=xs.set k.toNat a
theorem aO {α:Type}{xs:List α}{i:Nat}:InB xs (i:Int)↔i<xs.length:=by unfold InB;omega
theorem Oa2 {α:Type}[Inhabited α]{xs:List α}{i:Nat}:atI xs (i:Int)=xs.getD i default:=rfl
theorem cK {α:Type}[Inhabited α]{xs:List α}{i:Nat}(h:i<xs.length):atI xs (i:Int)=xs[i]:=by
 rw[Oa2,Pba,Ob5 h];rfl
theorem InB.lt {α:Type}{xs:List α}{k:Int}(h:InB xs k):k.toNat<xs.length:=by unfold InB at h;omega
def tick:Nat:=0
def Mbv:Nat:=0
def iH {γ:Type}(c:Bool)(a b:γ):γ:=match c with
 |true=>a
 |false=>b
theorem Sac {γ:Type}{a b:γ}:iH true a b=a:=rfl
theorem Oao {γ:Type}{a b:γ}:iH false a b=b:=rfl
@[congr] theorem Bb6 {γ:Type} {c c':Bool} {a b:γ} (h:c=c') {dd:Nat} (hd:tick=dd):iH c a b=iH c' a b:=by rw[h]
theorem aC {γ:Type}{c:Bool}{a b r:γ}(h1:c=true->a=r)(h2:c=false->b=r):iH c a b=r:=by
 cases c with
 |true=>exact h1 rfl
 |false=>exact h2 rfl
section
variable {T:Nat->Ent} {β:Type}
@[congr] theorem Ibu {t:Tm β} {ρ fw:List D} (h:ρ=fw) {dd:Nat} (hd:tick=dd):Er T t ρ=Er T t fw:=by rw[h]
@[congr] theorem Ab1 {k:Tm β} {ρ fw:List D} {n:Nat} {a a':Option (List D)} (h:ρ=fw) (h2:a=a') {dd:Nat} (hd:tick=dd):stepT T k ρ n a=stepT T k fw n a':=by rw[h,h2]
@[congr] theorem Abu {i:Nat} {k:Tm β} {ρ fw:List D} {r r':Option (Kind×List D)} (h:ρ=fw) (h2:r=r') {dd:Nat} (hd:tick=dd):lQ T i k ρ r=lQ T i k fw r':=by rw[h,h2]
@[congr] theorem Ebq {p:aY} {xs xs':List D} (h:xs=xs') {dd:Nat} (hd:tick=dd):p.run xs=p.run xs':=by rw[h]
def nth:List D->Nat->D
 |[],_=>.undef
 |a::_,0=>a
 |_::r,n+1=>nth r n
theorem Jbd {a:D}{r:List D}:nth (a::r) 0=a:=rfl
theorem Jbc {a:D}{r:List D}{n:Nat}:nth (a::r) (n+1)=nth r n:=rfl
theorem Pa2 (r:List D)(n:Nat):r.getD n .undef=nth r n:=by
 induction r generalizing n with
 |nil=>rfl
 | cons a r ih => cases n with
  |zero=>rfl
  |succ n=>exact ih n
def vals (ρ:List D):List aI->List D
 |[]=>[]
 |.v i::r=>nth ρ i::vals ρ r
 |.c d::r=>d::vals ρ r
@[congr] theorem Cb3 {ρ fw:List D} {xs:List aI} (h:ρ=fw) {dd:Nat} (hd:tick=dd):vals ρ xs=vals fw xs:=by rw[h]
theorem vB (ρ:List D)(xs:List aI):xs.map (·.val ρ)=vals ρ xs:=by
 induction xs with
 |nil=>rfl
 | cons x xs ih =>
  rw[Pbn,ih]
  cases x with
  |v i=>show ρ.getD i .undef::_=_;rw[Pa2];rfl
  |c d=>rfl
theorem Dbd {ρ:List D}:vals ρ []=[]:=rfl
theorem Dbc {ρ:List D}{i:Nat}{r:List aI}:vals ρ (.v i::r)=nth ρ i::vals ρ r:=rfl
theorem Dbe {ρ:List D}{d:D}{r:List aI}:vals ρ (.c d::r)=d::vals ρ r:=rfl
def Qa0 (ρ:List D):aI->D
 |.v i=>nth ρ i
 |.c d=>d
theorem Dbf {ρ:List D}{i:Nat}:Qa0 ρ (.v i)=nth ρ i:=rfl
theorem Dbg {ρ:List D}{d:D}:Qa0 ρ (.c d)=d:=rfl
theorem Iac (ρ:List D)(a:aI):a.val ρ=Qa0 ρ a:=by
 cases a with
 |v i=>exact Pa2 ρ i
 |c d=>rfl
@[congr] theorem Cb4 {ρ fw:List D} {a:aI} (h:ρ=fw) {dd:Nat} (hd:tick=dd):Qa0 ρ a=Qa0 fw a:=by rw[h]
theorem Cbz (k:Kind)(xs:List aI)(e:β)(ρ:List D):Er T (.leaf k xs e) ρ=some (k,vals ρ xs):=by rw[Cbx,vB]
theorem Jbw (p:aY)(xs:List aI)(n:Nat)(k:Tm β)(ρ:List D):Er T (.lt none p xs n k) ρ=stepT T k ρ n (p.run (vals ρ xs)):=by rw[Fbr,vB]
theorem Cb0 (f:Nat)(xs:List aI)(n:Nat)(os:List aI)(k:Tm β)(ρ:List D):Er T (.call none f xs n os k) ρ=stepT T k ρ n (Fun T f (vals ρ xs)):=by rw[Za2,vB]
def xN (w:Bool)(a b:Option (Kind×List D))(c:D):Option (Kind×List D):=if gdR c w=true then a else b
@[congr] theorem Bb1 {w:Bool} {a b:Option (Kind×List D)} {c c':D} (h:c=c') {dd:Nat} (hd:tick=dd):xN w a b c=xN w a b c':=by rw[h]
theorem Bbz {a b:Option (Kind×List D)}{c:Bool}:xN true a b (.bool c)=iH c a b:=by cases c<;>rfl
theorem Bb0 {a b:Option (Kind×List D)}{c:Bool}:xN false a b (.bool c)=iH c b a:=by cases c<;>rfl
theorem Bby {w:Bool}{a b:Option (Kind×List D)}:xN w a b .undef=b:=by simp[xN,gdR]
theorem Fbt (a:aI)(w:Bool)(p:aY)(xs:List aI)(n:Nat)(k:Tm β)(ρ:List D) :
  Er T (.lt (some (a,w)) p xs n k) ρ=xN w (stepT T k ρ n (p.run (vals ρ xs))) (Er T k (ρ++Pbp n .undef)) (Qa0 ρ a):=by
 rw[Fbq,ltT,xN,vB,Iac]
theorem Za3 (a:aI)(w:Bool)(f:Nat)(xs:List aI)(n:Nat)(os:List aI)(k:Tm β)(ρ:List D) :
  Er T (.call (some (a,w)) f xs n os k) ρ=xN w (stepT T k ρ n (Fun T f (vals ρ xs))) (Er T k (ρ++(Pbp (n-os.length) .undef++vals ρ os))) (Qa0 ρ a):=by
 rw[Za1,Cbf,xN,vB,vB,Iac]
def Naj {γ:Type}(a b:Option γ)(c:D):Option γ:=Mbq c a b
@[congr] theorem Abv {γ:Type} {a b:Option γ} {c c':D} (h:c=c') {dd:Nat} (hd:tick=dd):Naj a b c=Naj a b c':=by rw[h]
theorem Abw {γ:Type}{a b:Option γ}{c:Bool}:Naj a b (.bool c)=iH c a b:=by cases c<;>rfl
theorem Fbu (c:aI)(t e:Tm β)(ρ:List D):Er T (.ite c t e) ρ=Naj (Er T t ρ) (Er T e ρ) (Qa0 ρ c):=by rw[Fbs,Jbh,Naj,Iac]
theorem Cb1 (i:Nat)(t k:Tm β)(ρ:List D):Er T (.bind i t k) ρ=lQ T i k ρ (Er T t ρ):=Cby i t k ρ
theorem Qa3 {i:Nat}{k:Tm β}{ρ:List D}{c:Bool}{a b:Option (Kind×List D)}:lQ T i k ρ (iH c a b)=iH c (lQ T i k ρ a) (lQ T i k ρ b):=by cases c<;>rfl
theorem Nai {i j:Nat}{k:Tm β}{ρ ds:List D}:lQ T i k ρ (some (.yield j,ds))=if j=i then Er T k (ρ++ds) else some (.yield j,ds):=by
 by_cases h:j=i
 ·subst h;rw[Qa2,if_pos rfl]
 ·rw[Xa3 h,if_neg h]
noncomputable def fin (o:Option (Kind×List D)):Option (List D):=o.bind Mbm
theorem Yay {c:Bool}{a b:Option (Kind×List D)}:fin (iH c a b)=iH c (fin a) (fin b):=by cases c<;>rfl
theorem Bb7 {ds:List D}:fin (some (.ret,ds))=some ds:=rfl
theorem aR {f:Nat}{t:Tm Unit}(h:T f=.tm t)(args:List D):Fun T f args=fin (Er T t args):=Jbv h args
theorem Jbq {ρ:List D}:ρ++[]=ρ:=List.append_nil ρ
theorem Jbr {a:D}{r s:List D}:(a::r)++s=a::(r++s):=rfl
theorem Jbs {s:List D}:[]++s=s:=rfl
theorem Ab0 {k:Tm β}{ρ ds:List D}{n:Nat}:stepT T k ρ n (some ds)=if ds.length=n then Er T k (ρ++ds) else none:=rfl
end
section
variable {α:Type} [Enc α]
theorem Ebu {xs:List α}:aY.len.run [rL xs]=some [i64 xs.length]:=by simp[rL,aY.run]
theorem Ebv {xs:List α}{k:Int}(h:InB xs k):aY.inb.run [rL xs,i64 k]=some []:=by
 unfold InB at h;simp only[rL,aY.run,Pbt];rw[if_pos ⟨h.1,h.2⟩]
def rowOf (off:Nat)(ks:List Bool)(r:List D):Option (List D):=if off+ks.length<=r.length/\Bad ks (r.drop off)=true then some ((r.drop off).take ks.length) else none
theorem oP [Inhabited α]{xs:List α}{k:Int}{sz off:Nat}{ks:List Bool}(hs:Enc.sz α=sz)(h:InB xs k):(aY.row sz off ks).run [rL xs,i64 k]=rowOf off ks (Enc.enc (atI xs k)):=by
 have h2:=h.lt;unfold InB at h;subst hs
 have e:xs[k.toNat]?=some (atI xs k):=by
  rw[Ob5 h2,atI,Pba,Ob5 h2];rfl
 simp only[rL,aY.run,Pbr,e,Pb6];simp only[true_and];rw[if_pos h.1];rfl
theorem wO [Inhabited α]{xs:List α}{k:Int}{sz off n:Nat}{vs:List D}{a:α}(hs:Enc.sz α=sz)(hl:vs.length=n)(ho:off+n<=sz)(ha:Enc.enc a=(Enc.enc (atI xs k)).take off++vs++(Enc.enc (atI xs k)).drop (off+n))(h:InB xs k) :
  (aY.set sz off n).run (rL xs::i64 k::vs)=some [rL (lK xs k a)]:=by
 have h2:=h.lt;unfold InB at h;subst hs
 have e:xs[k.toNat]?=some (atI xs k):=by
  rw[Ob5 h2,atI,Pba,Ob5 h2];rfl
 simp only[rL,aY.run,Pbr,e,Pb6];simp only[true_and];rw[if_pos h.1,if_pos ⟨by rw[Enc.len];exact ho,hl⟩,<- ha,lK,List.map_set]
theorem xH {b:Nat}{n:Int}{zero:List D}{a:α}(ha:Enc.enc a=zero)(h:0<=n)(h2:n.toNat*b<=iF):(aY.make b zero).run [i64 n]=some [rL (Pbp n.toNat a)]:=by
 simp only[aY.run];rw[if_pos ⟨h,h2⟩,rL,List.map_replicate,ha,<- Enc.len a,ha]
theorem Lae {sz b:Nat}{fl:Bool}{xs ys:List α}(hs:Enc.sz α=sz)(hf:fl=true->∀ a:α,(Enc.enc a).all D.isSc=true)(h:(xs.length+ys.length)*b<=iF):(aY.app sz b fl).run [rL xs,rL ys]=some [rL (xs++ys)]:=by
 subst hs
 have cE:(!fl||(xs.map Enc.enc++ys.map Enc.enc).all fun r=>r.all D.isSc)=true:=by
  cases fl with
  |false=>rfl
  | true =>
   rw[Qbz,Qb6,<- Rbs,List.all_map,Pbv];exact fun a _=>hf rfl a
 simp only[rL,aY.run,Pbt];rw[if_pos ⟨trivial,trivial,cE,h⟩,<- Rbs]
theorem Iaw {sz b:Nat}{fl:Bool}{ys:List α}(hs:Enc.sz α=sz)(hf:fl=true->∀ a:α,(Enc.enc a).all D.isSc=true)(h:ys.length*b<=iF):(aY.app sz b fl).run [.rows sz [],rL ys]=some [rL ys]:=by
 have:=Lae (xs:=[]) (ys:=ys) (b:=b) hs hf (by simpa using h);subst hs;exact this
theorem Ebt {sz:Nat}{fl:Bool}{xs:List α}{lo hi:Int}(hs:Enc.sz α=sz)(hf:fl=true->∀ a:α,(Enc.enc a).all D.isSc=true)(h0:0<=lo)(h1:lo<=hi)(h2:hi<=xs.length):(aY.sub sz fl).run [rL xs,i64 lo,i64 hi]=some [rL ((xs.take hi.toNat).drop lo.toNat)]:=by
 subst hs
 have cE:(!fl||(xs.map Enc.enc).all fun r=>r.all D.isSc)=true:=by
  cases fl with
  |false=>rfl
  | true =>
   rw[Qbz,Qb6,List.all_map,Pbv];exact fun a _=>hf rfl a
 simp only[rL,aY.run,Pbt];rw[if_pos ⟨trivial,cE,h0,h1,h2⟩,<- List.map_take,<- List.map_drop]
theorem Ebw {xs:List α}:aY.emp.run [rL xs]=some [.bool xs.isEmpty]:=by simp[rL,aY.run]
theorem Jba {x:α}{xs:List α}:aY.ne.run [rL (x::xs)]=some []:=by simp[rL,aY.run]
class Fits (α:Type) [Enc α] (m:Nat):Prop where
 fits:∀ a:α,(Enc.enc a).all (mY m)=true
theorem Ebx {m:Nat}[Fits α m]{xs:List α}:(aY.dep (m+1)).run [rL xs]=some []:=by
 have:mY (m+1) (rL xs)=true:=by
  unfold rL;simp only[mY,List.all_map,Pbv];intro a _;exact Fits.fits a
 simp only[aY.run,this,if_true]
end
instance {m:Nat}:Fits Int m:=⟨fun a=>by cases m<;>rfl⟩
instance {m:Nat}:Fits Bool m:=⟨fun a=>by cases m<;>rfl⟩
instance {m:Nat}:Fits (List UInt8) m:=⟨fun a=>by cases m<;>rfl⟩
theorem uI {α:Type}[Enc α]{m:Nat}[Fits α m](xs:List α):mY (m+1) (rL xs)=true:=by
 unfold rL;simp only[mY,List.all_map,Pbv];intro a _;exact Fits.fits a
instance {α:Type} [Enc α] {m:Nat} [Fits α m]:Fits (List α) (m+1):=⟨fun xs=>by
 show [rL xs].all (mY (m+1))=true
 simp[uI]⟩
theorem Yac {a b:Int}:aY.min.run [i64 a,i64 b]=some [i64 (min a b)]:=by
 simp only[aY.run,Jam,Eb0,if_true,Ob6,Pb6];congr 3;by_cases h:b<a
 ·rw[if_pos (by simpa using h)];omega
 ·rw[if_neg (by simpa using h)];omega
theorem Yae {a b:Int}:aY.max.run [i64 a,i64 b]=some [i64 (max a b)]:=by
 simp only[aY.run,Jam,Eb0,if_true,Ob6,Pb6];congr 3;by_cases h:b>a
 ·rw[if_pos (by simpa using h)];omega
 ·rw[if_neg (by simpa using h)];omega
theorem Qa5 {a b:Int}(ha:-9223372036854775808<=a)(ha':a<=9223372036854775807)(hb:0<b):-9223372036854775808<=a.tdiv b/\a.tdiv b<=9223372036854775807:=by
 rcases Int.le_total 0 a with h|h
 ·have h1:=Int.tdiv_nonneg h (Int.le_of_lt hb)
  have h2:=Int.tdiv_le_self b h;omega
 ·have h1:(-a).tdiv b=-(a.tdiv b):=Int.neg_tdiv ..
  have h2:=Int.tdiv_nonneg (show 0<=-a by omega) (Int.le_of_lt hb);have h3:=Int.tdiv_le_self b (show 0<=-a by omega);omega
theorem Yab {a b:Int}(ha:0<=a)(ha':a<=9223372036854775807)(hb:0<b):(aY.bin .quo).run [i64 a,i64 b]=some [i64 (a / b)]:=by
 have h:=Qa5 (by omega) ha' hb;have cI:¬ b=0:=by omega
 rw[<- Int.tdiv_eq_ediv_of_nonneg ha];simp only[aY.run,Ma8,zU,if_true,if_neg cI,Pb6,wrap_i64 h.1 h.2]
theorem Yaa {a b:Int}(ha:0<=a)(hb:0<b):(aY.bin .rem).run [i64 a,i64 b]=some [i64 (a % b)]:=by
 have cI:¬ b=0:=by omega
 simp only[aY.run,Ma8,zU,if_true,if_neg cI,Pb6,Int.tmod_eq_emod_of_nonneg ha]
theorem Mal:∀ xs ys:List Int,xs.length=ys.length->Nad (Pbp xs.length 0) (xs.map i64) (ys.map i64)=some (decide (xs=ys))
 |[],[],_=>rfl
 | x :: xs, y :: ys, h => by
  have ih:=Mal xs ys (by simpa using h);simp only[Pb9,List.replicate_succ,Pbn,Nad,eqD,if_true,Ob6,ih,List.cons.injEq,Bool.decide_and];by_cases e:x=y
  ·simp[e]
  ·simp[e]
theorem Ya2 {p:Prop}[Decidable p](xs ys:List Int)(h:xs.length=ys.length)(hp:p↔xs=ys):(Nad (Pbp xs.length 0) (xs.map i64) (ys.map i64)).map (fun b=>[D.bool b])=some [.bool (decide p)]:=by
 rw[Mal xs ys h,Pb6,decide_eq_decide.2 hp]
theorem Fbe (i:Nat):((i+1:Nat):Int)=(i:Int)+1:=rfl
theorem SA:(∀ {T β} (k:Kind) (xs:List aI) (e:β) (ρ:List D),Er T (.leaf k xs e) ρ=some (k,vals ρ xs)) /\
  (∀ {T} {β:Type} (p:aY) (xs:List aI) (n:Nat) (k:Tm β) (ρ:List D),Er T (.lt none p xs n k) ρ=stepT T k ρ n (p.run (vals ρ xs))) /\
  (∀ {T} {β:Type} (f:Nat) (xs:List aI) (n:Nat) (os:List aI) (k:Tm β) (ρ:List D),Er T (.call none f xs n os k) ρ=stepT T k ρ n (Fun T f (vals ρ xs))) /\
  (∀ {T} {β:Type} (c:aI) (t e:Tm β) (ρ:List D),Er T (.ite c t e) ρ=Naj (Er T t ρ) (Er T e ρ) (Qa0 ρ c)) /\
  (∀ {T} {β:Type} (i:Nat) (t k:Tm β) (ρ:List D),Er T (.bind i t k) ρ=lQ T i k ρ (Er T t ρ)) /\
  (∀ {T} {β:Type} (a:aI) (w:Bool) (p:aY) (xs:List aI) (n:Nat) (k:Tm β) (ρ:List D),
   Er T (.lt (some (a,w)) p xs n k) ρ=xN w (stepT T k ρ n (p.run (vals ρ xs))) (Er T k (ρ++Pbp n .undef)) (Qa0 ρ a)) /\
  (∀ {T} {β:Type} (a:aI) (w:Bool) (f:Nat) (xs:List aI) (n:Nat) (os:List aI) (k:Tm β) (ρ:List D),
   Er T (.call (some (a,w)) f xs n os k) ρ=xN w (stepT T k ρ n (Fun T f (vals ρ xs))) (Er T k (ρ++(Pbp (n-os.length) .undef++vals ρ os))) (Qa0 ρ a)) :=
 ⟨Cbz,Jbw,Cb0,Fbu,Cb1,Fbt,Za3⟩
theorem SB:(tick=Mbv)/\(∀ {γ:Type} {c:Bool} {a b:γ},iH (!c) a b=iH c b a)/\(∀ {a b:Option (Kind×List D)} {c:Bool},xN true a b (.bool c)=iH c a b)/\(∀ {a b:Option (Kind×List D)} {c:Bool},xN false a b (.bool c)=iH c b a) /\
  (∀ {w:Bool} {a b:Option (Kind×List D)},xN w a b .undef=b)/\(∀ {γ:Type} {a b:Option γ} {c:Bool},Naj a b (.bool c)=iH c a b) /\
  (∀ {T} {β:Type} {i:Nat} {k:Tm β} {ρ:List D} {c:Bool} {a b:Option (Kind×List D)},lQ T i k ρ (iH c a b)=iH c (lQ T i k ρ a) (lQ T i k ρ b)) /\
  (∀ {T} {β:Type} {i j:Nat} {k:Tm β} {ρ ds:List D},lQ T i k ρ (some (.yield j,ds))=if j=i then Er T k (ρ++ds) else some (.yield j,ds)) /\
  (∀ {T} {β:Type} {i:Nat} {k:Tm β} {ρ ds:List D},lQ T i k ρ (some (.ret,ds))=some (.ret,ds))/\(∀ {T} {β:Type} {i:Nat} {k:Tm β} {ρ ds:List D},lQ T i k ρ (some (.cont,ds))=some (.cont,ds)) /\
  (∀ {c:Bool} {a b:Option (Kind×List D)},fin (iH c a b)=iH c (fin a) (fin b))/\(∀ {ds:List D},fin (some (.ret,ds))=some ds) /\
  (∀ {γ:Type} {a b:γ},iH true a b=a)/\(∀ {γ:Type} {a b:γ},iH false a b=b) :=
 ⟨rfl,by intro γ c a b;cases c<;>rfl,Bbz,Bb0,Bby,Abw,Qa3,Nai,Tae,Qa4,Yay,Bb7,Sac,Oao⟩
theorem SC:(∀ {a:D} {r:List D},nth (a::r) 0=a)/\(∀ {a:D} {r:List D} {n:Nat},nth (a::r) (n+1)=nth r n) /\
  (∀ {ρ:List D},vals ρ []=[])/\(∀ {ρ:List D} {i:Nat} {r:List aI},vals ρ (.v i::r)=nth ρ i::vals ρ r)/\(∀ {ρ:List D} {d:D} {r:List aI},vals ρ (.c d::r)=d::vals ρ r) /\
  (∀ {ρ:List D} {i:Nat},Qa0 ρ (.v i)=nth ρ i)/\(∀ {ρ:List D} {d:D},Qa0 ρ (.c d)=d) /\
  (∀ {ρ:List D},ρ++[]=ρ)/\(∀ {a:D} {r s:List D},(a::r)++s=a::(r++s))/\(∀ {s:List D},[]++s=s) /\
  (∀ {T} {β:Type} {k:Tm β} {ρ ds:List D} {n:Nat},stepT T k ρ n (some ds)=if ds.length=n then Er T k (ρ++ds) else none) /\
  (∀ {α:Type} {a:α} {l:List α},(a::l).length=l.length+1)/\(∀ {α:Type},([]:List α).length=0)/\(∀ {α:Type} {x:α} {n:Nat},Pbp (n+1) x=x::Pbp n x)/\(∀ {α:Type} {x:α},Pbp 0 x=[]) :=
 ⟨Jbd,Jbc,Dbd,Dbc,Dbe,Dbf,Dbg,Jbq,Jbr,Jbs,Ab0,Pb9,List.length_nil,List.replicate_succ,List.replicate_zero⟩
theorem SP:(∀ {a b:Int},(aY.bin .lss).run [i64 a,i64 b]=some [.bool (decide (a<b))])/\(∀ {a b:Int},(aY.bin .gtr).run [i64 a,i64 b]=some [.bool (decide (b<a))]) /\
  (∀ {a b:Int},(aY.bin .leq).run [i64 a,i64 b]=some [.bool (decide (a<=b))])/\(∀ {a b:Int},(aY.bin .geq).run [i64 a,i64 b]=some [.bool (decide (b<=a))]) /\
  (∀ {a b:Int},(aY.bin .neq).run [i64 a,i64 b]=some [.bool (!(a==b))])/\(∀ {a b:Int},(aY.bin .eql).run [i64 a,i64 b]=some [.bool (a==b)]) /\
  (∀ {b:Bool},aY.not.run [.bool b]=some [.bool (!b)])/\(∀ {c:Bool} {a b:D},aY.pick.run [.bool c,a,b]=some [iH c a b])/\(∀ {a b:Bool},(aY.eqb true).run [.bool a,.bool b]=some [.bool (!(a==b))])/\(∀ {a b:Bool},(aY.eqb false).run [.bool a,.bool b]=some [.bool (a==b)]) /\
  (∀ {d:D},aY.id.run [d]=some [d])/\(∀ {α:Type} [Enc α] {xs:List α},aY.len.run [rL xs]=some [i64 xs.length]) /\
  (∀ {α:Type} [Enc α] {xs:List α} {k:Int},InB xs k->aY.inb.run [rL xs,i64 k]=some []) /\
  (∀ {a b:Int},aY.min.run [i64 a,i64 b]=some [i64 (min a b)])/\(∀ {a b:Int},aY.max.run [i64 a,i64 b]=some [i64 (max a b)]) /\
  (∀ {α:Type} [Enc α] {m:Nat} [Fits α m] {xs:List α},(aY.dep (m+1)).run [rL xs]=some []) :=
 ⟨Ab6,Ab8,Ab7,Ab9,Ab5,Bba,Ab4,by intro c a b;cases c<;>rfl,Bbb,rfl,Ebp,Ebu,Ebv,Yac,Yae,Ebx⟩
set_option maxRecDepth 4000
structure Cat where
 kind:Int
 id:Int
 src:Int
 dst:Int
 amt:Int
 deriving DecidableEq
instance:Inhabited Cat:=⟨⟨0,0,0,0,0⟩⟩
instance:Enc Cat:=⟨5,fun x=>[i64 x.kind,i64 x.id,i64 x.src,i64 x.dst,i64 x.amt],fun _=>rfl⟩
instance {m:Nat}:Fits Cat m:=⟨fun x=>by cases m<;>rfl⟩
structure eZ where
 seq:Int
 deps:(List Int)
 deriving DecidableEq
instance:Inhabited eZ:=⟨⟨0,[]⟩⟩
instance:Enc eZ:=⟨2,fun x=>[i64 x.seq,rL x.deps],fun _=>rfl⟩
theorem Vau (x:eZ):Enc.enc x=[i64 x.seq,rL x.deps]:=rfl
instance {m:Nat}:Fits eZ (m+1):=⟨fun x=>by
 rw[Vau];simp only[Rbn,Sbb,Rbz,Obz];refine⟨?_,?_⟩
 all_goals first|rfl|exact uI _⟩
structure dQ where
 ballot:Int
 vote:Int
 state:Int
 cmd:Cat
 attr:eZ
 deriving DecidableEq
instance:Inhabited dQ:=⟨⟨0,0,0,default,default⟩⟩
instance:Enc dQ:=⟨10,fun x=>[i64 x.ballot,i64 x.vote,i64 x.state,i64 x.cmd.kind,i64 x.cmd.id,i64 x.cmd.src,i64 x.cmd.dst,i64 x.cmd.amt,i64 x.attr.seq,rL x.attr.deps],fun _=>rfl⟩
theorem Ya6 (x:dQ):Enc.enc x=[i64 x.ballot,i64 x.vote,i64 x.state,i64 x.cmd.kind,i64 x.cmd.id,i64 x.cmd.src,i64 x.cmd.dst,i64 x.cmd.amt,i64 x.attr.seq,rL x.attr.deps]:=rfl
instance {m:Nat}:Fits dQ (m+1):=⟨fun x=>by
 rw[Ya6];simp only[Rbn,Sbb,Rbz,Obz];refine⟨?_,?_,?_,?_,?_,?_,?_,?_,?_,?_⟩
 all_goals first|rfl|exact uI _⟩
structure aU where
 n:Int
 rows:(List (List dQ))
 deriving DecidableEq
instance:Inhabited aU:=⟨⟨0,[]⟩⟩
instance:Enc aU:=⟨2,fun x=>[i64 x.n,rL x.rows],fun _=>rfl⟩
theorem Sak (x:aU):Enc.enc x=[i64 x.n,rL x.rows]:=rfl
instance {m:Nat}:Fits aU (m+3):=⟨fun x=>by
 rw[Sak];simp only[Rbn,Sbb,Rbz,Obz];refine⟨?_,?_⟩
 all_goals first|rfl|exact uI _⟩
structure gT where
 rep:Int
 no:Int
 ballot:Int
 phase:Int
 cmd:Cat
 first:eZ
 attr:eZ
 same:Bool
 who:(List Int)
 seen:(List dQ)
 deriving DecidableEq
instance:Inhabited gT:=⟨⟨0,0,0,0,default,default,default,false,[],[]⟩⟩
instance:Enc gT:=⟨16,fun x=>[i64 x.rep,i64 x.no,i64 x.ballot,i64 x.phase,i64 x.cmd.kind,i64 x.cmd.id,i64 x.cmd.src,i64 x.cmd.dst,i64 x.cmd.amt,i64 x.first.seq,rL x.first.deps,i64 x.attr.seq,rL x.attr.deps,.bool x.same,rL x.who,rL x.seen],fun _=>rfl⟩
theorem Vat (x:gT):Enc.enc x=[i64 x.rep,i64 x.no,i64 x.ballot,i64 x.phase,i64 x.cmd.kind,i64 x.cmd.id,i64 x.cmd.src,i64 x.cmd.dst,i64 x.cmd.amt,i64 x.first.seq,rL x.first.deps,i64 x.attr.seq,rL x.attr.deps,.bool x.same,rL x.who,rL x.seen]:=rfl
instance {m:Nat}:Fits gT (m+2):=⟨fun x=>by
 rw[Vat];simp only[Rbn,Sbb,Rbz,Obz];refine⟨?_,?_,?_,?_,?_,?_,?_,?_,?_,?_,?_,?_,?_,?_,?_,?_⟩
 all_goals first|rfl|exact uI _⟩
structure lJ where
 me:Int
 table:aU
 leads:(List gT)
 deriving DecidableEq
instance:Inhabited lJ:=⟨⟨0,default,[]⟩⟩
instance:Enc lJ:=⟨4,fun x=>[i64 x.me,i64 x.table.n,rL x.table.rows,rL x.leads],fun _=>rfl⟩
theorem Ya7 (x:lJ):Enc.enc x=[i64 x.me,i64 x.table.n,rL x.table.rows,rL x.leads]:=rfl
instance {m:Nat}:Fits lJ (m+3):=⟨fun x=>by
 rw[Ya7];simp only[Rbn,Sbb,Rbz,Obz];refine⟨?_,?_,?_,?_⟩
 all_goals first|rfl|exact uI _⟩
structure mE where
 kind:Int
 src:Int
 dst:Int
 rep:Int
 no:Int
 ballot:Int
 vote:Int
 state:Int
 cmd:Cat
 attr:eZ
 deriving DecidableEq
instance:Inhabited mE:=⟨⟨0,0,0,0,0,0,0,0,default,default⟩⟩
instance:Enc mE:=⟨15,fun x=>[i64 x.kind,i64 x.src,i64 x.dst,i64 x.rep,i64 x.no,i64 x.ballot,i64 x.vote,i64 x.state,i64 x.cmd.kind,i64 x.cmd.id,i64 x.cmd.src,i64 x.cmd.dst,i64 x.cmd.amt,i64 x.attr.seq,rL x.attr.deps],fun _=>rfl⟩
theorem Ya9 (x:mE):Enc.enc x=[i64 x.kind,i64 x.src,i64 x.dst,i64 x.rep,i64 x.no,i64 x.ballot,i64 x.vote,i64 x.state,i64 x.cmd.kind,i64 x.cmd.id,i64 x.cmd.src,i64 x.cmd.dst,i64 x.cmd.amt,i64 x.attr.seq,rL x.attr.deps]:=rfl
instance {m:Nat}:Fits mE (m+1):=⟨fun x=>by
 rw[Ya9];simp only[Rbn,Sbb,Rbz,Obz];refine⟨?_,?_,?_,?_,?_,?_,?_,?_,?_,?_,?_,?_,?_,?_,?_⟩
 all_goals first|rfl|exact uI _⟩
structure bN where
 rep:Int
 no:Int
 cmd:Cat
 deriving DecidableEq
instance:Inhabited bN:=⟨⟨0,0,default⟩⟩
instance:Enc bN:=⟨7,fun x=>[i64 x.rep,i64 x.no,i64 x.cmd.kind,i64 x.cmd.id,i64 x.cmd.src,i64 x.cmd.dst,i64 x.cmd.amt],fun _=>rfl⟩
instance {m:Nat}:Fits bN m:=⟨fun x=>by cases m<;>rfl⟩
structure xX where
 reps:(List lJ)
 bag:(List mE)
 asked:(List bN)
 deriving DecidableEq
instance:Inhabited xX:=⟨⟨[],[],[]⟩⟩
instance:Enc xX:=⟨3,fun x=>[rL x.reps,rL x.bag,rL x.asked],fun _=>rfl⟩
theorem Ya8 (x:xX):Enc.enc x=[rL x.reps,rL x.bag,rL x.asked]:=rfl
instance {m:Nat}:Fits xX (m+4):=⟨fun x=>by
 rw[Ya8];simp only[Rbn,Sbb,Rbz,Obz];refine⟨?_,?_,?_⟩
 all_goals first|rfl|exact uI _⟩
theorem Fbi:(∀ x:Cat,Cat.mk x.kind x.id x.src x.dst x.amt=x) /\
  (∀ x:eZ,eZ.mk x.seq x.deps=x) /\
  (∀ x:dQ,dQ.mk x.ballot x.vote x.state x.cmd x.attr=x) /\
  (∀ x:aU,aU.mk x.n x.rows=x) /\
  (∀ x:gT,gT.mk x.rep x.no x.ballot x.phase x.cmd x.first x.attr x.same x.who x.seen=x) /\
  (∀ x:lJ,lJ.mk x.me x.table x.leads=x) /\
  (∀ x:mE,mE.mk x.kind x.src x.dst x.rep x.no x.ballot x.vote x.state x.cmd x.attr=x) /\
  (∀ x:bN,bN.mk x.rep x.no x.cmd=x) /\
  (∀ x:xX,xX.mk x.reps x.bag x.asked=x) :=
 ⟨fun _=>rfl,
  fun _=>rfl,
  fun _=>rfl,
  fun _=>rfl,
  fun _=>rfl,
  fun _=>rfl,
  fun _=>rfl,
  fun _=>rfl,
  fun _=>rfl⟩
theorem aQ:(∀ {xs:List Int} {k:Int},InB xs k->(aY.row 1 0 [true]).run [rL xs,i64 k]=some [i64 (atI xs k)]) /\
  (∀ {xs:List (List UInt8)} {k:Int},InB xs k->(aY.row 1 0 [true]).run [rL xs,i64 k]=some [.str (atI xs k)]) /\
  (∀ {xs:List (List Int)} {k:Int},InB xs k->(aY.row 1 0 [false]).run [rL xs,i64 k]=some [rL (atI xs k)]) /\
  (∀ {xs:List (List dQ)} {k:Int},InB xs k->(aY.row 1 0 [false]).run [rL xs,i64 k]=some [rL (atI xs k)]) /\
  (∀ {xs:List (List (List Int))} {k:Int},InB xs k->(aY.row 1 0 [false]).run [rL xs,i64 k]=some [rL (atI xs k)]) /\
  (∀ {xs:List dQ} {k:Int},InB xs k->(aY.row 10 0 [true,true,true,true,true,true,true,true,true,false]).run [rL xs,i64 k]=some [i64 (atI xs k).ballot,i64 (atI xs k).vote,i64 (atI xs k).state,i64 (atI xs k).cmd.kind,i64 (atI xs k).cmd.id,i64 (atI xs k).cmd.src,i64 (atI xs k).cmd.dst,i64 (atI xs k).cmd.amt,i64 (atI xs k).attr.seq,rL (atI xs k).attr.deps]) /\
  (∀ {xs:List gT} {k:Int},InB xs k->(aY.row 16 0 [true,true,true,true,true,true,true,true,true,true,false,true,false,true,false,false]).run [rL xs,i64 k]=some [i64 (atI xs k).rep,i64 (atI xs k).no,i64 (atI xs k).ballot,i64 (atI xs k).phase,i64 (atI xs k).cmd.kind,i64 (atI xs k).cmd.id,i64 (atI xs k).cmd.src,i64 (atI xs k).cmd.dst,i64 (atI xs k).cmd.amt,i64 (atI xs k).first.seq,rL (atI xs k).first.deps,i64 (atI xs k).attr.seq,rL (atI xs k).attr.deps,.bool (atI xs k).same,rL (atI xs k).who,rL (atI xs k).seen]) /\
  (∀ {xs:List gT} {k:Int},InB xs k->(aY.row 16 0 [true]).run [rL xs,i64 k]=some [i64 (atI xs k).rep]) /\
  (∀ {xs:List gT} {k:Int},InB xs k->(aY.row 16 1 [true]).run [rL xs,i64 k]=some [i64 (atI xs k).no]) /\
  (∀ {xs:List lJ} {k:Int},InB xs k->(aY.row 4 0 [true,true,false,false]).run [rL xs,i64 k]=some [i64 (atI xs k).me,i64 (atI xs k).table.n,rL (atI xs k).table.rows,rL (atI xs k).leads]) /\
  (∀ {xs:List lJ} {k:Int},InB xs k->(aY.row 4 1 [true,false]).run [rL xs,i64 k]=some [i64 (atI xs k).table.n,rL (atI xs k).table.rows]) /\
  (∀ {xs:List mE} {k:Int},InB xs k->(aY.row 15 0 [true,true,true,true,true,true,true,true,true,true,true,true,true,true,false]).run [rL xs,i64 k]=some [i64 (atI xs k).kind,i64 (atI xs k).src,i64 (atI xs k).dst,i64 (atI xs k).rep,i64 (atI xs k).no,i64 (atI xs k).ballot,i64 (atI xs k).vote,i64 (atI xs k).state,i64 (atI xs k).cmd.kind,i64 (atI xs k).cmd.id,i64 (atI xs k).cmd.src,i64 (atI xs k).cmd.dst,i64 (atI xs k).cmd.amt,i64 (atI xs k).attr.seq,rL (atI xs k).attr.deps]) /\
  (∀ {xs:List bN} {k:Int},InB xs k->(aY.row 7 0 [true,true,true,true,true,true,true]).run [rL xs,i64 k]=some [i64 (atI xs k).rep,i64 (atI xs k).no,i64 (atI xs k).cmd.kind,i64 (atI xs k).cmd.id,i64 (atI xs k).cmd.src,i64 (atI xs k).cmd.dst,i64 (atI xs k).cmd.amt]) :=
 ⟨fun h=>(oP rfl h),
  fun h=>(oP rfl h),
  fun h=>(oP rfl h),
  fun h=>(oP rfl h),
  fun h=>(oP rfl h),
  fun h=>(oP rfl h),
  fun h=>(oP rfl h),
  fun h=>(oP rfl h),
  fun h=>(oP rfl h),
  fun h=>(oP rfl h),
  fun h=>(oP rfl h),
  fun h=>(oP rfl h),
  fun h=>(oP rfl h)⟩
theorem Ja0:(∀ {xs:List Int} {k:Int} {v:Int},InB xs k->(aY.set 1 0 1).run [rL xs,i64 k,i64 v]=some [rL (lK xs k v)]) /\
  (∀ {xs:List (List UInt8)} {k:Int} {v:(List UInt8)},InB xs k->(aY.set 1 0 1).run [rL xs,i64 k,.str v]=some [rL (lK xs k v)]) /\
  (∀ {xs:List (List Int)} {k:Int} {v:(List Int)},InB xs k->(aY.set 1 0 1).run [rL xs,i64 k,rL v]=some [rL (lK xs k v)]) /\
  (∀ {xs:List (List dQ)} {k:Int} {v:(List dQ)},InB xs k->(aY.set 1 0 1).run [rL xs,i64 k,rL v]=some [rL (lK xs k v)]) /\
  (∀ {xs:List (List (List Int))} {k:Int} {v:(List (List Int))},InB xs k->(aY.set 1 0 1).run [rL xs,i64 k,rL v]=some [rL (lK xs k v)]) /\
  (∀ {xs:List dQ} {k:Int} {fe lv jj cj ej cT cY cX du:Int} {da:(List Int)},InB xs k->(aY.set 10 0 10).run [rL xs,i64 k,i64 fe,i64 lv,i64 jj,i64 cj,i64 ej,i64 cT,i64 cY,i64 cX,i64 du,rL da]=some [rL (lK xs k ⟨fe,lv,jj,⟨cj,ej,cT,cY,cX⟩,⟨du,da⟩⟩)]) /\
  (∀ {xs:List gT} {k:Int} {kf n5 fe pP cj ej cT cY cX kn:Int} {jt:(List Int)} {du:Int} {da:(List Int)} {re:Bool} {vm:(List Int)} {rk:(List dQ)},InB xs k->(aY.set 16 0 16).run [rL xs,i64 k,i64 kf,i64 n5,i64 fe,i64 pP,i64 cj,i64 ej,i64 cT,i64 cY,i64 cX,i64 kn,rL jt,i64 du,rL da,.bool re,rL vm,rL rk]=some [rL (lK xs k ⟨kf,n5,fe,pP,⟨cj,ej,cT,cY,cX⟩,⟨kn,jt⟩,⟨du,da⟩,re,vm,rk⟩)]) /\
  (∀ {xs:List lJ} {k:Int} {a0c mh:Int} {jm:(List (List dQ))} {pD:(List gT)},InB xs k->(aY.set 4 0 4).run [rL xs,i64 k,i64 a0c,i64 mh,rL jm,rL pD]=some [rL (lK xs k ⟨a0c,⟨mh,jm⟩,pD⟩)]) /\
  (∀ {xs:List mE} {k:Int} {sk ve u6 kf n5 fe lv jj cj ej cT cY cX du:Int} {da:(List Int)},InB xs k->(aY.set 15 0 15).run [rL xs,i64 k,i64 sk,i64 ve,i64 u6,i64 kf,i64 n5,i64 fe,i64 lv,i64 jj,i64 cj,i64 ej,i64 cT,i64 cY,i64 cX,i64 du,rL da]=some [rL (lK xs k ⟨sk,ve,u6,kf,n5,fe,lv,jj,⟨cj,ej,cT,cY,cX⟩,⟨du,da⟩⟩)]) /\
  (∀ {xs:List bN} {k:Int} {kf n5 cj ej cT cY cX:Int},InB xs k->(aY.set 7 0 7).run [rL xs,i64 k,i64 kf,i64 n5,i64 cj,i64 ej,i64 cT,i64 cY,i64 cX]=some [rL (lK xs k ⟨kf,n5,⟨cj,ej,cT,cY,cX⟩⟩)]) :=
 ⟨fun h=>(wO rfl rfl (by decide) rfl h),
  fun h=>(wO rfl rfl (by decide) rfl h),
  fun h=>(wO rfl rfl (by decide) rfl h),
  fun h=>(wO rfl rfl (by decide) rfl h),
  fun h=>(wO rfl rfl (by decide) rfl h),
  fun h=>(wO rfl rfl (by decide) rfl h),
  fun h=>(wO rfl rfl (by decide) rfl h),
  fun h=>(wO rfl rfl (by decide) rfl h),
  fun h=>(wO rfl rfl (by decide) rfl h),
  fun h=>(wO rfl rfl (by decide) rfl h)⟩
theorem Obw:(∀ {v0:Int},(aY.mk 1 1).run [i64 v0]=some [rL [v0]]) /\
  (∀ {v0 v1:Int},(aY.mk 1 2).run [i64 v0,i64 v1]=some [rL [v0,v1]]) /\
  aY.ne.run []=none /\
  aY.ne.run []=none /\
  aY.ne.run []=none /\
  aY.ne.run []=none /\
  aY.ne.run []=none /\
  aY.ne.run []=none /\
  (∀ {v0:(List UInt8)},(aY.mk 1 1).run [.str v0]=some [rL [v0]]) /\
  (∀ {v0 v1:(List UInt8)},(aY.mk 1 2).run [.str v0,.str v1]=some [rL [v0,v1]]) /\
  aY.ne.run []=none /\
  aY.ne.run []=none /\
  aY.ne.run []=none /\
  aY.ne.run []=none /\
  aY.ne.run []=none /\
  aY.ne.run []=none /\
  (∀ {v0:(List Int)},(aY.mk 1 1).run [rL v0]=some [rL [v0]]) /\
  (∀ {v0:(List dQ)},(aY.mk 1 1).run [rL v0]=some [rL [v0]]) /\
  (∀ {v0:(List (List Int))},(aY.mk 1 1).run [rL v0]=some [rL [v0]]) /\
  aY.ne.run []=none :=
 ⟨rfl,
  rfl,
  rfl,
  rfl,
  rfl,
  rfl,
  rfl,
  rfl,
  rfl,
  rfl,
  rfl,
  rfl,
  rfl,
  rfl,
  rfl,
  rfl,
  rfl,
  rfl,
  rfl,
  rfl⟩
theorem wZ:(∀ {n:Int},0<=n->n<=100000000000->(aY.make 8 [(.int .i64 0)]).run [i64 n]=some [rL (Pbp n.toNat (0:Int))]) /\
  aY.ne.run []=none /\
  aY.ne.run []=none /\
  (∀ {n:Int},0<=n->n<=100000000000->(aY.make 24 [(.rows 10 [])]).run [i64 n]=some [rL (Pbp n.toNat ([]:(List dQ)))]) /\
  aY.ne.run []=none /\
  aY.ne.run []=none /\
  (∀ {n:Int},0<=n->n<=100000000000->(aY.make 96 [(.int .i64 0),(.int .i64 0),(.int .i64 0),(.int .i64 0),(.int .i64 0),(.int .i64 0),(.int .i64 0),(.int .i64 0),(.int .i64 0),(.rows 1 [])]).run [i64 n]=some [rL (Pbp n.toNat (default:dQ))]) /\
  aY.ne.run []=none /\
  (∀ {n:Int},0<=n->n<=100000000000->(aY.make 192 [(.int .i64 0),(.int .i64 0),(.int .i64 0),(.int .i64 0),(.int .i64 0),(.int .i64 0),(.int .i64 0),(.int .i64 0),(.int .i64 0),(.int .i64 0),(.rows 1 []),(.int .i64 0),(.rows 1 []),(.bool false),(.rows 1 []),(.rows 10 [])]).run [i64 n]=some [rL (Pbp n.toNat (default:gT))]) /\
  (∀ {n:Int},0<=n->n<=100000000000->(aY.make 64 [(.int .i64 0),(.int .i64 0),(.rows 1 []),(.rows 16 [])]).run [i64 n]=some [rL (Pbp n.toNat (default:lJ))]) /\
  (∀ {n:Int},0<=n->n<=100000000000->(aY.make 136 [(.int .i64 0),(.int .i64 0),(.int .i64 0),(.int .i64 0),(.int .i64 0),(.int .i64 0),(.int .i64 0),(.int .i64 0),(.int .i64 0),(.int .i64 0),(.int .i64 0),(.int .i64 0),(.int .i64 0),(.int .i64 0),(.rows 1 [])]).run [i64 n]=some [rL (Pbp n.toNat (default:mE))]) /\
  (∀ {n:Int},0<=n->n<=100000000000->(aY.make 56 [(.int .i64 0),(.int .i64 0),(.int .i64 0),(.int .i64 0),(.int .i64 0),(.int .i64 0),(.int .i64 0)]).run [i64 n]=some [rL (Pbp n.toNat (default:bN))]) /\
  aY.ne.run []=none :=
 ⟨fun h h2=>(xH rfl h (by unfold iF;omega)),
  rfl,
  rfl,
  fun h h2=>(xH rfl h (by unfold iF;omega)),
  rfl,
  rfl,
  fun h h2=>(xH rfl h (by unfold iF;omega)),
  rfl,
  fun h h2=>(xH rfl h (by unfold iF;omega)),
  fun h h2=>(xH rfl h (by unfold iF;omega)),
  fun h h2=>(xH rfl h (by unfold iF;omega)),
  fun h h2=>(xH rfl h (by unfold iF;omega)),
  rfl⟩
theorem Waj:(∀ {xs ys:List Int},xs.length+ys.length<=100000000000->(aY.app 1 8 true).run [rL xs,rL ys]=some [rL (xs++ys)]) /\
  (∀ {ys:List Int},ys.length<=100000000000->(aY.app 1 8 true).run [.rows 1 [],rL ys]=some [rL ys]) /\
  (∀ {xs ys:List (List Int)},xs.length+ys.length<=100000000000->(aY.app 1 24 false).run [rL xs,rL ys]=some [rL (xs++ys)]) /\
  (∀ {ys:List (List Int)},ys.length<=100000000000->(aY.app 1 24 false).run [.rows 1 [],rL ys]=some [rL ys]) /\
  (∀ {xs ys:List (List dQ)},xs.length+ys.length<=100000000000->(aY.app 1 24 false).run [rL xs,rL ys]=some [rL (xs++ys)]) /\
  (∀ {ys:List (List dQ)},ys.length<=100000000000->(aY.app 1 24 false).run [.rows 1 [],rL ys]=some [rL ys]) /\
  (∀ {xs ys:List (List (List Int))},xs.length+ys.length<=100000000000->(aY.app 1 24 false).run [rL xs,rL ys]=some [rL (xs++ys)]) /\
  (∀ {ys:List (List (List Int))},ys.length<=100000000000->(aY.app 1 24 false).run [.rows 1 [],rL ys]=some [rL ys]) :=
 ⟨fun h=>(Lae rfl (fun _ _=>rfl) (by unfold iF;omega)),
  fun h=>(Iaw rfl (fun _ _=>rfl) (by unfold iF;omega)),
  fun h=>(Lae rfl (fun h=>by cases h) (by unfold iF;omega)),
  fun h=>(Iaw rfl (fun h=>by cases h) (by unfold iF;omega)),
  fun h=>(Lae rfl (fun h=>by cases h) (by unfold iF;omega)),
  fun h=>(Iaw rfl (fun h=>by cases h) (by unfold iF;omega)),
  fun h=>(Lae rfl (fun h=>by cases h) (by unfold iF;omega)),
  fun h=>(Iaw rfl (fun h=>by cases h) (by unfold iF;omega))⟩
theorem Fbh:aY.ne.run []=none /\
  aY.ne.run []=none /\
  aY.ne.run []=none /\
  aY.ne.run []=none /\
  aY.ne.run []=none /\
  aY.ne.run []=none /\
  aY.ne.run []=none /\
  aY.ne.run []=none /\
  aY.ne.run []=none /\
  aY.ne.run []=none /\
  aY.ne.run []=none /\
  aY.ne.run []=none /\
  aY.ne.run []=none /\
  aY.ne.run []=none /\
  aY.ne.run []=none /\
  (∀ {xs:List bN} {lo hi:Int},0<=lo->lo<=hi->hi<=xs.length->(aY.sub 7 false).run [rL xs,i64 lo,i64 hi]=some [rL ((xs.take hi.toNat).drop lo.toNat)]) /\
  aY.ne.run []=none :=
 ⟨rfl,
  rfl,
  rfl,
  rfl,
  rfl,
  rfl,
  rfl,
  rfl,
  rfl,
  rfl,
  rfl,
  rfl,
  rfl,
  rfl,
  rfl,
  fun h0 h1 h2=>(Ebt rfl (fun h=>by cases h) h0 h1 h2),
  rfl⟩
theorem Bat:(∀ {mB tu qb pA qa mq tI pz p8 pZ:Int},(aY.eqs [0,0,0,0,0]).run [i64 mB,i64 tu,i64 qb,i64 pA,i64 qa,i64 mq,i64 tI,i64 pz,i64 p8,i64 pZ]=some [.bool (decide ((⟨mB,tu,qb,pA,qa⟩:Cat)=⟨mq,tI,pz,p8,pZ⟩))]) /\
  aY.ne.run []=none :=
 ⟨(fun {mB tu qb pA qa mq tI pz p8 pZ}=>Ya2 [mB,tu,qb,pA,qa] [mq,tI,pz,p8,pZ] rfl (by simp[Cat.mk.injEq])),
  rfl⟩
section
variable {T:Nat->Ent} {β:Type} {α:Type} [Inhabited α]
inductive Rd1 (σ:Type) where
 |go (s:σ)
 |out (r:Kind×List D)
def zX {σ:Type}(f:Nat->α->σ->Rd1 σ):Nat->List α->σ->Rd1 σ
 |_,[],s=>.go s
 | i, x :: xs, s => match f i x s with
  |.go s'=>zX f (i+1) xs s'
  |.out r=>.out r
def Nbk {σ:Type}(vs:Int->σ->List D)(i:Int):Rd1 σ->Kind×List D
 |.go s=>(.cont,vs (i+1) s)
 |.out r=>r
theorem Eb2 {σ:Type}{body:Tm β}{ρ:List D}{init:List aI}(xs:List α)(vs:Int->σ->List D)(s0:σ)(f:Nat->α->σ->Rd1 σ)(inv:Nat->σ->Prop)(fin:σ->Kind×List D)
  (h0:init.map (·.val ρ)=vs 0 s0) (hi:inv 0 s0)
  (h1:∀ (i:Nat) s,i<xs.length->inv i s->Er T body (ρ++vs i s)=some (Nbk vs i (f i (atI xs i) s))/\(∀ s',f i (atI xs i) s=.go s'->inv (i+1) s')/\∀ r,f i (atI xs i) s=.out r->r.1≠.cont)
  (h2:∀ s,inv xs.length s->Er T body (ρ++vs xs.length s)=some (fin s)/\(fin s).1≠.cont) :
  ∃ r,Er T (.loop init body) ρ=some r/\((∃ s,zX f 0 xs s0=.go s/\inv xs.length s/\r=fin s)\/zX f 0 xs s0=.out r):=by
 have key:=Oah (T:=T) (body:=body) (ρ:=ρ) (γ:=Nat×σ) (fun c=>xs.length-c.1) (fun c=>c.1<=xs.length/\inv c.1 c.2/\zX f c.1 (xs.drop c.1) c.2=zX f 0 xs s0) (fun c=>vs (c.1:Int) c.2)
  (fun r=>(∃ s,zX f 0 xs s0=.go s/\inv xs.length s/\r=fin s)\/zX f 0 xs s0=.out r)
  (fun ⟨i,s⟩ ⟨hle,hv,hf⟩=>by
   simp only at hle hv hf ⊢
   rcases Pbo i xs.length with aq|mf
   ·obtain⟨h3,h4,h5⟩:=h1 i s aq hv
    have hd:xs.drop i=atI xs i::xs.drop (i+1):=by
     rw[Qby aq,cK aq]
    rw[hd,zX]at hf;refine⟨_,h3,?_⟩
    cases e:f i (atI xs i) s with
    | go s' =>
     rw[e]at hf;exact .inl ⟨rfl,(i+1,s'),⟨by simp only;omega,h4 s' e,hf⟩,by simp only;omega,rfl⟩
    | out r =>
     rw[e]at hf;exact .inr ⟨h5 r e,.inr hf.symm⟩
   ·obtain rfl:i=xs.length:=by omega
    obtain⟨h3,h4⟩:=h2 s hv;rw[List.drop_length,zX]at hf;exact⟨_,h3,.inr ⟨h4,.inl ⟨s,hf.symm,hv,rfl⟩⟩⟩)
  xs.length (0,s0) (by simp) ⟨by simp,hi,by simp⟩ init h0
 exact key
theorem Eak {body:Tm β}{ρ:List D}(j:Nat)(n:Nat)(p:Nat->Bool)(r:List D)
  (h1:∀ i:Nat,i<n->p i=true->Er T body (ρ++[i64 i])=some (.cont,[i64 ((i:Int)+1)]))
  (h2:∀ i:Nat,i<n->p i=false->Er T body (ρ++[i64 i])=some (.ret,r))
  (h3:Er T body (ρ++[i64 n])=some (.yield j,[])) :
  Er T (.loop [.c (i64 0)] body) ρ=iH (sK p n) (some (.yield j,[])) (some (.ret,r)):=by
 have key:=Oah (T:=T) (body:=body) (ρ:=ρ) (fun i=>n-i) (fun i=>i<=n/\∀ j,j<i->p j=true) (fun i=>[i64 (i:Nat)])
  (fun q=>(∀ j,j<n->p j=true)/\q=(.yield j,[])\/(∃ j,j<n/\p j=false)/\q=(.ret,r))
  (fun i ⟨hi,cE⟩=>by
   rcases Pbo i n with aq|mf
   ·cases e:p i with
    | true => exact ⟨_, h1 i aq e, .inl ⟨rfl, i + 1, ⟨by omega, fun j hj => by
      rcases Pbo j i with h|h
      ·exact cE j h
      ·obtain rfl:j=i:=by omega
       exact e⟩,by omega,rfl⟩⟩
    |false=>exact⟨_,h2 i aq e,.inr ⟨by simp,.inr ⟨⟨i,aq,e⟩,rfl⟩⟩⟩
   ·obtain rfl:i=n:=by omega
    exact⟨_,h3,.inr ⟨by simp,.inl ⟨cE,rfl⟩⟩⟩)
  n 0 (by omega) ⟨by omega,fun j hj=>by omega⟩ [.c (i64 0)] (by simp[aI.val])
 obtain⟨q,h4,h5⟩:=key;rw[h4]
 rcases h5 with ⟨h6,rfl⟩|⟨h6,rfl⟩
 ·rw[jH.2 h6];rfl
 ·rw[Bar.2 h6];rfl
theorem Qau (xs:List α)(p:α->Bool):sK (fun i=>p (atI xs i)) xs.length=xs.all p:=by
 cases e:xs.all p with
 | true =>
  rw[Pbv]at e;rw[jH];intro i hi;rw[cK hi];exact e _ (Rbg hi)
 | false =>
  rw[List.all_eq_false]at e;obtain⟨x,hx,hp⟩:=e;obtain⟨i,hi,rfl⟩:=Rbt hx;exact Bar.2 ⟨i,hi,by rw[cK hi];simpa using hp⟩
theorem rF [DecidableEq α]{xs ys:List α}(hl:xs.length=ys.length):sK (fun i=>decide (atI xs i=atI ys i)) xs.length=decide (xs=ys):=by
 by_cases e:xs=ys
 ·subst e
  rw[decide_eq_true rfl,jH];exact fun i _=>decide_eq_true rfl
 ·rw[decide_eq_false e]
  cases h:sK (fun i=>decide (atI xs i=atI ys i)) xs.length with
  |false=>rfl
  | true =>
   rw[jH]at h;refine absurd (List.ext_getElem hl fun i h1 h2=>?_) e;have:=of_decide_eq_true (h i h1);rwa[cK h1,cK h2]at this
theorem Aae {xs ys:List α}[DecidableEq α](h:¬ xs.length=ys.length):decide (xs=ys)=false:=decide_eq_false fun e=>h (by rw[e])
theorem Mbt {body:Tm β}{ρ:List D}(j:Nat)(xs:List α)(p:α->Bool)(r:List D)
  (h1:∀ i:Nat,i<xs.length->InB xs (i:Int)->decide ((i:Int)<xs.length)=true->p (atI xs i)=true->Er T body (ρ++[i64 i])=some (.cont,[i64 ((i:Int)+1)]))
  (h2:∀ i:Nat,i<xs.length->InB xs (i:Int)->decide ((i:Int)<xs.length)=true->p (atI xs i)=false->Er T body (ρ++[i64 i])=some (.ret,r))
  (h3:decide ((xs.length:Int)<xs.length)=false->Er T body (ρ++[i64 xs.length])=some (.yield j,[])) :
  Er T (.loop [.c (i64 0)] body) ρ=iH (xs.all p) (some (.yield j,[])) (some (.ret,r)):=by
 rw[Eak j xs.length (fun i=>p (atI xs i)) r (fun i hi hp=>h1 i hi (aO.2 hi) (by simp;omega) hp) (fun i hi hp=>h2 i hi (aO.2 hi) (by simp;omega) hp) (h3 (by simp)),Qau]
omit [Inhabited α] in
theorem Na2 {body:Tm β}{ρ:List D}(j:Nat)(n:Nat)(p:Nat->Bool)(r:List D)
  (h1:∀ i:Nat,i<n->decide ((i:Int)<n)=true->Er T body (ρ++[i64 i])=iH (p i) (some (.cont,[i64 ((i:Int)+1)])) (some (.ret,r)))
  (h3:decide ((n:Int)<n)=false->Er T body (ρ++[i64 n])=some (.yield j,[])) :
  Er T (.loop [.c (i64 0)] body) ρ=iH (sK p n) (some (.yield j,[])) (some (.ret,r)) :=
 Eak j n p r (fun i hi hp=>by rw[h1 i hi (by simp;omega),hp];rfl) (fun i hi hp=>by rw[h1 i hi (by simp;omega),hp];rfl) (h3 (by simp))
theorem Fbg {body:Tm β}{ρ:List D}(j:Nat)(xs:List α)(p:α->Bool)(r:List D)
  (h1:∀ i:Nat,i<xs.length->InB xs (i:Int)->decide ((i:Int)<xs.length)=true->atI xs (i:Int)∈xs->Er T body (ρ++[i64 i])=iH (p (atI xs i)) (some (.cont,[i64 ((i:Int)+1)])) (some (.ret,r)))
  (h3:decide ((xs.length:Int)<xs.length)=false->Er T body (ρ++[i64 xs.length])=some (.yield j,[])) :
  Er T (.loop [.c (i64 0)] body) ρ=iH (xs.all p) (some (.yield j,[])) (some (.ret,r)) :=
 Mbt j xs p r (fun i hi hb hl hp=>by rw[h1 i hi hb hl (by rw[cK hi];exact Rbg hi),hp];rfl) (fun i hi hb hl hp=>by rw[h1 i hi hb hl (by rw[cK hi];exact Rbg hi),hp];rfl) h3
def ixF (p:α->Bool)(xs:List α):Int:=match xs.findIdx? p with
 |some i=>i
 |none=>-1
omit [Inhabited α] in
theorem dO (p:α->Bool)(xs:List α):decide (0<=ixF p xs)=xs.any p:=by
 unfold ixF
 cases h:xs.findIdx? p with
 | none =>
  rw[List.findIdx?_eq_none_iff]at h
  have:xs.any p=false:=by
   rw[List.any_eq_false];exact fun x hx=>by simp[h x hx]
  rw[this];rfl
 | some i =>
  have:xs.any p=true:=by
   rw[List.findIdx?_eq_some_iff_getElem]at h;obtain⟨hi,hp,-⟩:=h;rw[Qb3];exact⟨_,Rbg hi,hp⟩
  rw[this];simp
theorem uJ {body:Tm β}{ρ:List D}(j:Nat)(xs:List α)(p:α->Bool)(rf:Int->List D)
  (h1:∀ i:Nat,i<xs.length->InB xs (i:Int)->decide ((i:Int)<xs.length)=true->p (atI xs i)=true->Er T body (ρ++[i64 i])=some (.ret,rf i))
  (h2:∀ i:Nat,i<xs.length->InB xs (i:Int)->decide ((i:Int)<xs.length)=true->p (atI xs i)=false->Er T body (ρ++[i64 i])=some (.cont,[i64 ((i:Int)+1)]))
  (h3:decide ((xs.length:Int)<xs.length)=false->Er T body (ρ++[i64 xs.length])=some (.yield j,[])) :
  Er T (.loop [.c (i64 0)] body) ρ=iH (xs.any p) (some (.ret,rf (ixF p xs))) (some (.yield j,[])):=by
 have cE:∀ (i:Nat) (ys:List α),zX (fun (i:Nat) x (_:Unit)=>if p x then Rd1.out (.ret,rf i) else .go ()) i ys ()=match ys.findIdx? p with|some k=>.out (.ret,rf ((i+k:Nat):Int))|none=>.go ():=by
  intro i ys
  induction ys generalizing i with
  |nil=>rfl
  | cons y ys ih =>
   rw[zX,List.findIdx?_cons]
   cases p y with
   |true=>simp
   | false =>
    simp only[Ob9,if_false];rw[ih (i+1)]
    cases ys.findIdx? p with
    |none=>rfl
    |some k=>simp only[Pb6];congr 4;omega
 obtain⟨q,h4,h5⟩:=Eb2 (T:=T) (body:=body) (ρ:=ρ) (init:=[.c (i64 0)]) xs (fun i (_:Unit)=>[i64 i]) () (fun i x _=>if p x then .out (.ret,rf i) else .go ()) (fun _ _=>True) (fun _=>(.yield j,[])) rfl trivial
  (fun i _ hi _=>by
   cases e:p (atI xs i) with
   |true=>exact⟨by rw[h1 i hi (aO.2 hi) (by simp;omega) e];rfl,fun _ _=>trivial,fun r h=>by simp at h;rw[<- h];simp⟩
   |false=>exact⟨by rw[h2 i hi (aO.2 hi) (by simp;omega) e];rfl,fun _ _=>trivial,fun r h=>by simp at h⟩)
  (fun _ _=>⟨h3 (by simp),by simp⟩)
 rw[h4,<- dO];rw[cE]at h5;unfold ixF
 cases e:xs.findIdx? p with
 | none =>
  rw[e]at h5
  rcases h5 with ⟨s,-,-,rfl⟩|h5
  ·rfl
  ·simp at h5
 | some k =>
  rw[e]at h5
  rcases h5 with ⟨s,h5,-⟩|h5
  ·simp at h5
  ·simp only[Nat.zero_add,Rd1.out.injEq]at h5
   rw[<- h5];simp[iH]
theorem at_mem {xs:List α}{i:Nat}(h:i<xs.length):atI xs (i:Int)∈xs:=by rw[cK h];exact Rbg h
omit [Inhabited α] in
theorem Oai {body:Tm β}{ρ:List D}{init:List aI}(n:Nat)(vs:Nat->List D)(r:Kind×List D)(h0:init.map (·.val ρ)=vs 0)(hr:r.1≠.cont)
  (h1:∀ i:Nat,i<n->decide ((i:Int)<n)=true->Er T body (ρ++vs i)=some (.cont,vs (i+1)))
  (h2:decide ((n:Int)<n)=false->Er T body (ρ++vs n)=some r):Er T (.loop init body) ρ=some r:=by
 obtain⟨q,h3,rfl⟩:=Oah (T:=T) (body:=body) (ρ:=ρ) (fun i=>n-i) (fun i=>i<=n) vs (fun q=>q=r)
  (fun i hi=>by
   rcases Pbo i n with aq|mf
   ·exact⟨_,h1 i aq (by simp;omega),.inl ⟨rfl,i+1,by omega,by omega,rfl⟩⟩
   ·obtain rfl:i=n:=by omega
    exact⟨_,h2 (by simp),.inr ⟨hr,rfl⟩⟩) n 0 (by omega) (by omega) init h0
 exact h3
omit [Inhabited α] in
theorem Dba {γ:Type}{body:Tm β}{ρ:List D}{init:List aI}(r:Kind×List D)(m:γ->Nat)(inv:γ->Prop)(vs:γ->List D)(c0:γ)(h0:init.map (·.val ρ)=vs c0)(hi:inv c0)(hr:r.1≠.cont)
  (h:∀ c,inv c->(∃ c',Er T body (ρ++vs c)=some (.cont,vs c')/\inv c'/\m c'<m c)\/Er T body (ρ++vs c)=some r):Er T (.loop init body) ρ=some r:=by
 obtain⟨q,h1,rfl⟩:=Oah (T:=T) (body:=body) (ρ:=ρ) m inv vs (fun q=>q=r)
  (fun c hc=>by
   rcases h c hc with ⟨c',h2,h3,h4⟩|h2
   ·exact⟨_,h2,.inl ⟨rfl,c',h3,h4,rfl⟩⟩
   ·exact⟨_,h2,.inr ⟨hr,rfl⟩⟩) (m c0) c0 (Pbj _) hi init h0
 exact h1
end
theorem take_at {α:Type}[Inhabited α]{xs:List α}{i:Nat}(h:i<xs.length):xs.take i++[atI xs (i:Int)]=xs.take (i+1):=by rw[List.take_succ_eq_append_getElem h,cK h]
theorem SQ:(∀ {a b:Int},-9223372036854775808<=a+b->a+b<=9223372036854775807->(aY.bin .add).run [i64 a,i64 b]=some [i64 (a+b)]) /\
  (∀ {a b:Int},-9223372036854775808<=a-b->a-b<=9223372036854775807->(aY.bin .sub).run [i64 a,i64 b]=some [i64 (a-b)]) /\
  (∀ {a b:Int},0<=a->a<=9223372036854775807->0<b->(aY.bin .quo).run [i64 a,i64 b]=some [i64 (a / b)])/\(∀ {a b:Int},0<=a->0<b->(aY.bin .rem).run [i64 a,i64 b]=some [i64 (a % b)]) :=
 ⟨Bbd,Ab3,Yab,Yaa⟩
theorem Cbn:(∀ {α:Type} [Inhabited α] {xs:List α} {k:Int} {a:α},InB xs k->atI (lK xs k a) k=a)/\(∀ {α:Type} {xs:List α} {k:Int} {a b:α},lK (lK xs k a) k b=lK xs k b) /\
  (∀ {α:Type} {xs:List α} {j k:Int} {a:α},InB (lK xs j a) k=InB xs k)/\(∀ {α:Type} {xs:List α} {j:Int} {a:α},(lK xs j a).length=xs.length):=by
 refine⟨?_,?_,?_,?_⟩
 ·intro α _ xs k a h
  have:=h.lt;rw[lK,atI,Pba,List.getElem?_set_self this];rfl
 ·intro α xs k a b
  rw[lK,lK,lK,List.set_set]
 ·intro α xs j k a
  unfold InB lK;rw[List.length_set]
 ·intro α xs j a
  exact List.length_set ..
def szL {α:Type}(f:α->Nat)(xs:List α):Nat:=xs.length+(xs.map f).sum
def szR (l:Int)(n:Nat):Int:=if (n:Int)<=l then l-n else -1
theorem Pac {α:Type}{f:α->Nat}{x:α}{xs:List α}:szL f (x::xs)=1+f x+szL f xs:=by simp[szL];omega
theorem fZ {α:Type}{f:α->Nat}:∀ {xs:List α} {x:α},x∈xs->1+f x<=szL f xs
 |[],x,h=>by cases h
 | y :: ys, x, h => by
  rw[Pac]
  rcases Ob8.1 h with rfl|h
  ·omega
  ·have:=fZ (f:=f) h
   omega
theorem dG {α:Type}{xs:List α}:szL (fun _=>0) xs=xs.length:=by
 have:∀ xs:List α,(xs.map fun _=>0).sum=0:=fun xs=>by
  induction xs with
  |nil=>rfl
  |cons x xs ih=>simp only[Pbn,List.sum_cons,ih]
 rw[szL,this];rfl
theorem gH {α:Type}{f:α->Nat}{xs:List α}:xs.length<=szL f xs:=by unfold szL;omega
section
variable {T:Nat->Ent} {β:Type} {α:Type} [Inhabited α]
theorem Kak {body:Tm β}{ρ:List D}{a:aI}(xs:List α)(f:α->Nat)(l:Int)(h0:a.val ρ=i64 l)(hl:0<=l)(eW:l<=1048576)
  (h1:∀ (i:Nat) (m:Int),i<xs.length->InB xs (i:Int)->decide ((i:Int)<xs.length)=true->0<=m->m<=1048576->(f (atI xs i):Int)<=m->szR m (f (atI xs i))=m-f (atI xs i)->decide (m-(f (atI xs i):Int)<0)=false->Er T body (ρ++[i64 m,i64 i])=some (.cont,[i64 (m-f (atI xs i)),i64 ((i:Int)+1)]))
  (h2:∀ (i:Nat) (m:Int),i<xs.length->InB xs (i:Int)->decide ((i:Int)<xs.length)=true->0<=m->m<=1048576->m<f (atI xs i)->szR m (f (atI xs i))=-1->decide ((-1:Int)<0)=true->Er T body (ρ++[i64 m,i64 i])=some (.ret,[i64 (-1)]))
  (h3:∀ m:Int,decide ((xs.length:Int)<xs.length)=false->Er T body (ρ++[i64 m,i64 xs.length])=some (.yield 1,[i64 m])) :
  Er T (.loop [a,.c (i64 0)] body) ρ=iH (decide (((xs.map f).sum:Int)<=l)) (some (.yield 1,[i64 (l-(xs.map f).sum)])) (some (.ret,[i64 (-1)])):=by
 have cE:∀ (ys:List α) (i:Nat) (m:Int),0<=m->zX (fun (_:Nat) x (m:Int)=>if (f x:Int)<=m then Rd1.go (m-f x) else .out (.ret,[i64 (-1)])) i ys m=if ((ys.map f).sum:Int)<=m then .go (m-(ys.map f).sum) else .out (.ret,[i64 (-1)]):=by
  intro ys
  induction ys with
  | nil =>
   intro i m hm;simp only[zX,List.map_nil,List.sum_nil];rw[if_pos (by simpa using hm)];simp
  | cons y ys ih =>
   intro i m hm;simp only[zX,Pbn,List.sum_cons];by_cases h:(f y:Int)<=m
   ·rw[if_pos h]
    simp only;rw[ih (i+1) _ (by omega)];by_cases h4:((ys.map f).sum:Int)<=m-f y
    ·rw[if_pos h4,if_pos (by omega)]
     congr 1;omega
    ·rw[if_neg h4,if_neg (by omega)]
   ·rw[if_neg h]
    simp only;rw[if_neg (by omega)]
 obtain⟨q,h4,h5⟩:=Eb2 (T:=T) (body:=body) (ρ:=ρ) (init:=[a,.c (i64 0)]) xs (fun i (m:Int)=>[i64 m,i64 i]) l (fun _ x m=>if (f x:Int)<=m then .go (m-f x) else .out (.ret,[i64 (-1)])) (fun _ m=>0<=m/\m<=1048576) (fun m=>(.yield 1,[i64 m])) (by show [a.val ρ,_]=_;rw[h0];rfl) ⟨hl,eW⟩
  (fun i m hi hm=>by
   by_cases e:(f (atI xs i):Int)<=m
   ·rw[if_pos e]
    refine⟨h1 i m hi (aO.2 hi) (by simp;omega) hm.1 hm.2 e (by rw[szR,if_pos e]) (by simp;omega),fun s' h=>?_,fun r h=>by cases h⟩;simp only[Rd1.go.injEq]at h;omega
   ·rw[if_neg e]
    refine⟨h2 i m hi (aO.2 hi) (by simp;omega) hm.1 hm.2 (by omega) (by rw[szR,if_neg e]) rfl,fun s' h=>by simp at h,fun r h=>?_⟩;simp only[Rd1.out.injEq]at h;rw[<- h];simp)
  (fun m hm=>⟨h3 m (by simp),by simp⟩)
 rw[h4];rw[cE xs 0 l hl]at h5;by_cases h:((xs.map f).sum:Int)<=l
 ·rw[if_pos h]at h5
  rw[decide_eq_true h]
  rcases h5 with ⟨s,h5,-,rfl⟩|h5
  ·simp only[Rd1.go.injEq]at h5
   rw[<- h5];rfl
  ·cases h5
 ·rw[if_neg h]at h5
  rw[decide_eq_false h]
  rcases h5 with ⟨s,h5,-⟩|h5
  ·cases h5
  ·simp only[Rd1.out.injEq]at h5
   rw[<- h5];rfl
theorem Da0 {body:Tm β}{ρ:List D}{a:aI}[Enc α](xs:List α)(h0:a.val ρ=rL (Pbp xs.length (default:α)))
  (h1:∀ (i:Nat) (ys:List α),i<xs.length->InB xs (i:Int)->InB ys (i:Int)->decide ((i:Int)<xs.length)=true->Er T body (ρ++[rL ys,i64 i])=some (.cont,[rL (lK ys i (atI xs i)),i64 ((i:Int)+1)]))
  (h2:∀ ys:List α,decide ((xs.length:Int)<xs.length)=false->Er T body (ρ++[rL ys,i64 xs.length])=some (.yield 1,[rL ys])) :
  Er T (.loop [a,.c (i64 0)] body) ρ=some (.yield 1,[rL xs]):=by
 have key:=Oah (T:=T) (body:=body) (ρ:=ρ) (fun i=>xs.length-i) (fun i=>i<=xs.length) (fun i=>[rL (upto default xs i),i64 (i:Nat)]) (fun q=>q=(.yield 1,[rL xs]))
  (fun i hi=>by
   rcases Pbo i xs.length with aq|mf
   ·refine⟨_,h1 i (upto default xs i) aq (aO.2 aq) (aO.2 (by rw[Waz _ _ hi];exact aq)) (by simp;omega),.inl ⟨rfl,i+1,by omega,by omega,?_⟩⟩
    have:lK (upto default xs i) (i:Int) (atI xs i)=upto default xs (i+1):=by
     rw[lK];exact Wax default xs (by rw[cK aq];exact Ob5 aq)
    rw[this];simp
   ·obtain rfl:i=xs.length:=by omega
    refine⟨_,h2 _ (by simp),.inr ⟨by simp,?_⟩⟩;rw[Wa0])
  xs.length 0 (by omega) (by omega) [a,.c (i64 0)] (by show [a.val ρ,_]=_;rw[h0,Sa8];rfl)
 obtain⟨q,h4,rfl⟩:=key;exact h4
def ctL {α:Type}(c:α->Nat)(xs:List α):Nat:=(xs.map c).sum
end
theorem nU {α:Type}{c f:α->Nat}{m:Nat}(hm:1<=m)(h:∀ x,c x<=m+m*f x):∀ xs:List α,ctL c xs<=m*szL f xs
 |[]=>by simp[ctL]
 | x :: xs => by
  have ih:=nU hm h xs;have h1:=h x;rw[Pac];simp only[ctL,Pbn,List.sum_cons]at ih ⊢;rw[Nat.mul_add,Nat.mul_add];omega
theorem lt0 {k:Int}(h:0<=k):decide (k<0)=false:=by simp;omega
theorem Jbg:decide ((-1:Int)<0)=true:=rfl
theorem Bas {α:Type}[Enc α]{fY:List Ty}{bytes:Nat}{P:α->Prop}{d:D}(hs:fY.length=Enc.sz α)(hd:∀ ds,WTs fY ds->∃ a:α,ds=Enc.enc a/\P a)(h:WT (.sl bytes fY) d):∃ xs:List α,d=rL xs/\xs.length*bytes<=reachBytes/\∀ x∈xs,P x:=by
 simp only[WT]at h;obtain⟨rs,rfl,h1,h2⟩:=h
 have key:∀ rs:List (List D),(∀ r∈rs,WTs fY r)->∃ xs:List α,rs=xs.map Enc.enc/\∀ x∈xs,P x:=by
  intro rs
  induction rs with
  |nil=>exact fun _=>⟨[],rfl,by simp⟩
  | cons r rs ih =>
   intro h;obtain⟨xs,hx,hp⟩:=ih fun r hr=>h r (Pbb _ hr)
   obtain⟨a,ha,hpa⟩:=hd r (h r Pbf);exact⟨a::xs,by rw[hx,ha];rfl,by simpa using ⟨hpa,hp⟩⟩
 obtain⟨xs,rfl,hp⟩:=key rs h2;exact⟨xs,by rw[hs];rfl,by simpa using h1,hp⟩
theorem bW {d:D}(h:WT (.int .i64) d):∃ n:Int,d=i64 n/\-9223372036854775808<=n/\n<=9223372036854775807:=by
 obtain⟨n,rfl,h1,h2⟩:=h;exact⟨n,rfl,h1,h2⟩
theorem Cbm {d:D}(h:WT .bool d):∃ b:Bool,d=.bool b:=h
theorem gK {n b:Nat}(h:n*b<=reachBytes)(hb:0<b):n<=reachBytes:=Pb8 (Nat.le_mul_of_pos_right n hb) h
theorem Bak (ds:List D)(h:WTs [.int .i64] ds):∃ x:Int,ds=Enc.enc x/\True:=by
 simp only[WTs]at h;obtain⟨d,r,rfl,w,rfl⟩:=h;obtain⟨x,rfl,-,-⟩:=bW w;exact⟨x,rfl,trivial⟩
theorem Fbd (ds:List D)(h:WTs [.sl 8 [.int .i64]] ds):∃ x:(List Int),ds=Enc.enc x/\x.length<=140737488351232:=by
 simp only[WTs]at h;obtain⟨d,r,rfl,w,rfl⟩:=h;obtain⟨x,rfl,l,p⟩:=Bas (α:=Int) (P:=fun _=>True) rfl Bak w;exact⟨x,rfl,gK l (by decide)⟩
def Bal (x:Cat):Nat:=1+1+1+1+1
theorem Dal (x:Cat):Bal x=5:=by
 unfold Bal
 try omega
def aK (x:eZ):Nat:=szL (fun _=>0) x.deps
def uZ (x:eZ):Prop:=(x.deps.length<=140737488351232)
def vZ (x:eZ):Nat:=1+ctL (fun _=>1) x.deps
theorem Fan (x:eZ):vZ x=1+ctL (fun _=>1) x.deps:=by
 unfold vZ
 try omega
theorem Da3 (x:eZ):aK x=x.deps.length:=by
 unfold aK;simp only[dG]
 try omega
def aL (x:dQ):Nat:=aK x.attr
def mH (x:dQ):Prop:=(uZ x.attr)
def nA (x:dQ):Nat:=1+1+1+Bal x.cmd+vZ x.attr
theorem Zaf (x:dQ):nA x=9+ctL (fun _=>1) x.attr.deps:=by
 unfold nA;simp only[Dal];simp only[Fan]
 try omega
theorem Xa4 (x:dQ):aL x=x.attr.deps.length:=by
 unfold aL;simp only[dG,Da3]
 try omega
theorem Qar (x:dQ):nA x<=16+16*aL x:=by
 have h0:=nU (c:=(fun _=>1)) (f:=(fun _=>0)) (m:=16) (by omega) (fun _=>by simp) x.attr.deps;rw[Zaf,Xa4]
 try simp only[dG]at *
 omega
theorem Qaq (ds:List D)(h:WTs [.int .i64,.int .i64,.int .i64,.int .i64,.int .i64,.int .i64,.int .i64,.int .i64,.int .i64,.sl 8 [.int .i64]] ds):∃ x:dQ,ds=Enc.enc x/\mH x:=by
 simp only[WTs]at h;obtain⟨d0,r0,rfl,w0,d1,r1,rfl,w1,d2,r2,rfl,w2,d3,r3,rfl,w3,d4,r4,rfl,w4,d5,r5,rfl,w5,d6,r6,rfl,w6,d7,r7,rfl,w7,d8,r8,rfl,w8,d9,r9,rfl,w9,rfl⟩:=h;obtain⟨x0,rfl,-,-⟩:=bW w0;obtain⟨x1,rfl,-,-⟩:=bW w1;obtain⟨x2,rfl,-,-⟩:=bW w2;obtain⟨x3,rfl,-,-⟩:=bW w3;obtain⟨x4,rfl,-,-⟩:=bW w4;obtain⟨x5,rfl,-,-⟩:=bW w5;obtain⟨x6,rfl,-,-⟩:=bW w6;obtain⟨x7,rfl,-,-⟩:=bW w7;obtain⟨x8,rfl,-,-⟩:=bW w8;obtain⟨x9,rfl,l9,p9⟩:=Bas (α:=Int) (P:=fun _=>True) rfl Bak w9;exact⟨⟨x0,x1,x2,⟨x3,x4,x5,x6,x7⟩,⟨x8,x9⟩⟩,rfl,gK l9 (by decide)⟩
theorem Vax (ds:List D)(h:WTs [.sl 96 [.int .i64,.int .i64,.int .i64,.int .i64,.int .i64,.int .i64,.int .i64,.int .i64,.int .i64,.sl 8 [.int .i64]]] ds):∃ x:(List dQ),ds=Enc.enc x/\x.length<=140737488351232/\∀ y0∈x,mH y0:=by
 simp only[WTs]at h;obtain⟨d,r,rfl,w,rfl⟩:=h;obtain⟨x,rfl,l,p⟩:=Bas (α:=dQ) (P:=fun y=>mH y) rfl Qaq w;exact⟨x,rfl,⟨gK l (by decide),p⟩⟩
def bH (x:aU):Nat:=szL (szL aL) x.rows
def Das (x:aU):Prop:=(x.rows.length<=140737488351232/\∀ y0∈x.rows,y0.length<=140737488351232/\∀ y1∈y0,mH y1)
def Fap (x:aU):Nat:=1+ctL (ctL nA) x.rows
theorem San (x:aU):Fap x=1+ctL (ctL nA) x.rows:=by
 unfold Fap
 try omega
theorem Raa (x:aU):bH x=szL (szL aL) x.rows:=by
 unfold bH;simp only[dG]
 try omega
def aS (x:gT):Nat:=aK x.first+aK x.attr+szL (fun _=>0) x.who+szL aL x.seen
def uY (x:gT):Prop:=(uZ x.first)/\(uZ x.attr)/\(x.who.length<=140737488351232)/\(x.seen.length<=140737488351232/\∀ y0∈x.seen,mH y0)
def vY (x:gT):Nat:=1+1+1+1+Bal x.cmd+vZ x.first+vZ x.attr+1+ctL (fun _=>1) x.who+ctL nA x.seen
theorem Vay (x:gT):vY x=12+ctL (fun _=>1) x.first.deps+ctL (fun _=>1) x.attr.deps+ctL (fun _=>1) x.who+ctL nA x.seen:=by
 unfold vY;simp only[Dal];simp only[Fan]
 try omega
theorem Kaj (x:gT):aS x=x.first.deps.length+x.attr.deps.length+x.who.length+szL aL x.seen:=by
 unfold aS;simp only[dG,Da3]
 try omega
theorem Vaz (x:gT):vY x<=16+16*aS x:=by
 have h0:=nU (c:=(fun _=>1)) (f:=(fun _=>0)) (m:=16) (by omega) (fun _=>by simp) x.first.deps
 have h1:=nU (c:=(fun _=>1)) (f:=(fun _=>0)) (m:=16) (by omega) (fun _=>by simp) x.attr.deps;have h2:=nU (c:=(fun _=>1)) (f:=(fun _=>0)) (m:=16) (by omega) (fun _=>by simp) x.who;have h3:=nU (c:=nA) (f:=aL) (m:=16) (by omega) Qar x.seen;rw[Vay,Kaj]
 try simp only[dG]at *
 omega
theorem Vaw (ds:List D)(h:WTs [.int .i64,.int .i64,.int .i64,.int .i64,.int .i64,.int .i64,.int .i64,.int .i64,.int .i64,.int .i64,.sl 8 [.int .i64],.int .i64,.sl 8 [.int .i64],.bool,.sl 8 [.int .i64],.sl 96 [.int .i64,.int .i64,.int .i64,.int .i64,.int .i64,.int .i64,.int .i64,.int .i64,.int .i64,.sl 8 [.int .i64]]] ds):∃ x:gT,ds=Enc.enc x/\uY x:=by
 simp only[WTs]at h;obtain⟨d0,r0,rfl,w0,d1,r1,rfl,w1,d2,r2,rfl,w2,d3,r3,rfl,w3,d4,r4,rfl,w4,d5,r5,rfl,w5,d6,r6,rfl,w6,d7,r7,rfl,w7,d8,r8,rfl,w8,d9,r9,rfl,w9,d10,r10,rfl,w10,d11,r11,rfl,w11,d12,r12,rfl,w12,d13,r13,rfl,w13,d14,r14,rfl,w14,d15,r15,rfl,w15,rfl⟩:=h;obtain⟨x0,rfl,-,-⟩:=bW w0;obtain⟨x1,rfl,-,-⟩:=bW w1;obtain⟨x2,rfl,-,-⟩:=bW w2;obtain⟨x3,rfl,-,-⟩:=bW w3;obtain⟨x4,rfl,-,-⟩:=bW w4;obtain⟨x5,rfl,-,-⟩:=bW w5;obtain⟨x6,rfl,-,-⟩:=bW w6;obtain⟨x7,rfl,-,-⟩:=bW w7;obtain⟨x8,rfl,-,-⟩:=bW w8;obtain⟨x9,rfl,-,-⟩:=bW w9;obtain⟨x10,rfl,l10,p10⟩:=Bas (α:=Int) (P:=fun _=>True) rfl Bak w10;obtain⟨x11,rfl,-,-⟩:=bW w11;obtain⟨x12,rfl,l12,p12⟩:=Bas (α:=Int) (P:=fun _=>True) rfl Bak w12;obtain⟨x13,rfl⟩:=Cbm w13;obtain⟨x14,rfl,l14,p14⟩:=Bas (α:=Int) (P:=fun _=>True) rfl Bak w14;obtain⟨x15,rfl,l15,p15⟩:=Bas (α:=dQ) (P:=fun y=>mH y) rfl Qaq w15;exact⟨⟨x0,x1,x2,x3,⟨x4,x5,x6,x7,x8⟩,⟨x9,x10⟩,⟨x11,x12⟩,x13,x14,x15⟩,rfl,⟨gK l10 (by decide),gK l12 (by decide),gK l14 (by decide),⟨gK l15 (by decide),p15⟩⟩⟩
def aW (x:lJ):Nat:=bH x.table+szL aS x.leads
def Aav (x:lJ):Prop:=(Das x.table)/\(x.leads.length<=140737488351232/\∀ y0∈x.leads,uY y0)
def Faq (x:lJ):Nat:=1+Fap x.table+ctL vY x.leads
theorem Zag (x:lJ):Faq x=2+ctL (ctL nA) x.table.rows+ctL vY x.leads:=by
 unfold Faq;simp only[San]
 try omega
theorem Paa (x:lJ):aW x=szL (szL aL) x.table.rows+szL aS x.leads:=by
 unfold aW;simp only[dG,Raa]
 try omega
theorem Zai (x:lJ):Faq x<=16+16*aW x:=by
 have h0:=nU (c:=(ctL nA)) (f:=(szL aL)) (m:=16) (by omega) (fun xs=>Pb8 (nU (c:=nA) (f:=aL) (m:=16) (by omega) Qar xs) (Nat.le_add_left _ _)) x.table.rows;have h1:=nU (c:=vY) (f:=aS) (m:=16) (by omega) Vaz x.leads;rw[Zag,Paa]
 try simp only[dG]at *
 omega
theorem Zac (ds:List D)(h:WTs [.int .i64,.int .i64,.sl 24 [.sl 96 [.int .i64,.int .i64,.int .i64,.int .i64,.int .i64,.int .i64,.int .i64,.int .i64,.int .i64,.sl 8 [.int .i64]]],.sl 192 [.int .i64,.int .i64,.int .i64,.int .i64,.int .i64,.int .i64,.int .i64,.int .i64,.int .i64,.int .i64,.sl 8 [.int .i64],.int .i64,.sl 8 [.int .i64],.bool,.sl 8 [.int .i64],.sl 96 [.int .i64,.int .i64,.int .i64,.int .i64,.int .i64,.int .i64,.int .i64,.int .i64,.int .i64,.sl 8 [.int .i64]]]] ds):∃ x:lJ,ds=Enc.enc x/\Aav x:=by
 simp only[WTs]at h;obtain⟨d0,r0,rfl,w0,d1,r1,rfl,w1,d2,r2,rfl,w2,d3,r3,rfl,w3,rfl⟩:=h;obtain⟨x0,rfl,-,-⟩:=bW w0;obtain⟨x1,rfl,-,-⟩:=bW w1;obtain⟨x2,rfl,l2,p2⟩:=Bas (α:=(List dQ)) (P:=fun y=>y.length<=140737488351232/\∀ y0∈y,mH y0) rfl (Vax) w2;obtain⟨x3,rfl,l3,p3⟩:=Bas (α:=gT) (P:=fun y=>uY y) rfl Vaw w3;exact⟨⟨x0,⟨x1,x2⟩,x3⟩,rfl,⟨⟨gK l2 (by decide),p2⟩,⟨gK l3 (by decide),p3⟩⟩⟩
def bA (x:mE):Nat:=aK x.attr
def Aaw (x:mE):Prop:=(uZ x.attr)
def Far (x:mE):Nat:=1+1+1+1+1+1+1+1+Bal x.cmd+vZ x.attr
theorem Zah (x:mE):Far x=14+ctL (fun _=>1) x.attr.deps:=by
 unfold Far;simp only[Dal];simp only[Fan]
 try omega
theorem Pab (x:mE):bA x=x.attr.deps.length:=by
 unfold bA;simp only[dG,Da3]
 try omega
theorem Zaj (x:mE):Far x<=16+16*bA x:=by
 have h0:=nU (c:=(fun _=>1)) (f:=(fun _=>0)) (m:=16) (by omega) (fun _=>by simp) x.attr.deps;rw[Zah,Pab]
 try simp only[dG]at *
 omega
theorem Zae (ds:List D)(h:WTs [.int .i64,.int .i64,.int .i64,.int .i64,.int .i64,.int .i64,.int .i64,.int .i64,.int .i64,.int .i64,.int .i64,.int .i64,.int .i64,.int .i64,.sl 8 [.int .i64]] ds):∃ x:mE,ds=Enc.enc x/\Aaw x:=by
 simp only[WTs]at h;obtain⟨d0,r0,rfl,w0,d1,r1,rfl,w1,d2,r2,rfl,w2,d3,r3,rfl,w3,d4,r4,rfl,w4,d5,r5,rfl,w5,d6,r6,rfl,w6,d7,r7,rfl,w7,d8,r8,rfl,w8,d9,r9,rfl,w9,d10,r10,rfl,w10,d11,r11,rfl,w11,d12,r12,rfl,w12,d13,r13,rfl,w13,d14,r14,rfl,w14,rfl⟩:=h;obtain⟨x0,rfl,-,-⟩:=bW w0;obtain⟨x1,rfl,-,-⟩:=bW w1;obtain⟨x2,rfl,-,-⟩:=bW w2;obtain⟨x3,rfl,-,-⟩:=bW w3;obtain⟨x4,rfl,-,-⟩:=bW w4;obtain⟨x5,rfl,-,-⟩:=bW w5;obtain⟨x6,rfl,-,-⟩:=bW w6;obtain⟨x7,rfl,-,-⟩:=bW w7;obtain⟨x8,rfl,-,-⟩:=bW w8;obtain⟨x9,rfl,-,-⟩:=bW w9;obtain⟨x10,rfl,-,-⟩:=bW w10;obtain⟨x11,rfl,-,-⟩:=bW w11;obtain⟨x12,rfl,-,-⟩:=bW w12;obtain⟨x13,rfl,-,-⟩:=bW w13;obtain⟨x14,rfl,l14,p14⟩:=Bas (α:=Int) (P:=fun _=>True) rfl Bak w14;exact⟨⟨x0,x1,x2,x3,x4,x5,x6,x7,⟨x8,x9,x10,x11,x12⟩,⟨x13,x14⟩⟩,rfl,gK l14 (by decide)⟩
def uN (x:bN):Nat:=1+1+Bal x.cmd
theorem Sao (x:bN):uN x=7:=by
 unfold uN;simp only[Dal]
 try omega
theorem Sap (x:bN):uN x<=16+16*(fun _:bN=>0) x:=by
 rw[Sao];simp
theorem Sam (ds:List D)(h:WTs [.int .i64,.int .i64,.int .i64,.int .i64,.int .i64,.int .i64,.int .i64] ds):∃ x:bN,ds=Enc.enc x/\True:=by
 simp only[WTs]at h;obtain⟨d0,r0,rfl,w0,d1,r1,rfl,w1,d2,r2,rfl,w2,d3,r3,rfl,w3,d4,r4,rfl,w4,d5,r5,rfl,w5,d6,r6,rfl,w6,rfl⟩:=h;obtain⟨x0,rfl,-,-⟩:=bW w0;obtain⟨x1,rfl,-,-⟩:=bW w1;obtain⟨x2,rfl,-,-⟩:=bW w2;obtain⟨x3,rfl,-,-⟩:=bW w3;obtain⟨x4,rfl,-,-⟩:=bW w4;obtain⟨x5,rfl,-,-⟩:=bW w5;obtain⟨x6,rfl,-,-⟩:=bW w6;exact⟨⟨x0,x1,⟨x2,x3,x4,x5,x6⟩⟩,rfl,trivial⟩
def fV (x:xX):Nat:=szL aW x.reps+szL bA x.bag+szL (fun _=>0) x.asked
def Iab (x:xX):Prop:=(x.reps.length<=140737488351232/\∀ y0∈x.reps,Aav y0)/\(x.bag.length<=140737488351232/\∀ y0∈x.bag,Aaw y0)/\(x.asked.length<=140737488351232)
theorem Ca9 (x:xX):fV x=szL aW x.reps+szL bA x.bag+x.asked.length:=by
 unfold fV;simp only[dG]
 try omega
theorem Zad (ds:List D)(h:WTs [.sl 64 [.int .i64,.int .i64,.sl 24 [.sl 96 [.int .i64,.int .i64,.int .i64,.int .i64,.int .i64,.int .i64,.int .i64,.int .i64,.int .i64,.sl 8 [.int .i64]]],.sl 192 [.int .i64,.int .i64,.int .i64,.int .i64,.int .i64,.int .i64,.int .i64,.int .i64,.int .i64,.int .i64,.sl 8 [.int .i64],.int .i64,.sl 8 [.int .i64],.bool,.sl 8 [.int .i64],.sl 96 [.int .i64,.int .i64,.int .i64,.int .i64,.int .i64,.int .i64,.int .i64,.int .i64,.int .i64,.sl 8 [.int .i64]]]],.sl 136 [.int .i64,.int .i64,.int .i64,.int .i64,.int .i64,.int .i64,.int .i64,.int .i64,.int .i64,.int .i64,.int .i64,.int .i64,.int .i64,.int .i64,.sl 8 [.int .i64]],.sl 56 [.int .i64,.int .i64,.int .i64,.int .i64,.int .i64,.int .i64,.int .i64]] ds):∃ x:xX,ds=Enc.enc x/\Iab x:=by
 simp only[WTs]at h;obtain⟨d0,r0,rfl,w0,d1,r1,rfl,w1,d2,r2,rfl,w2,rfl⟩:=h;obtain⟨x0,rfl,l0,p0⟩:=Bas (α:=lJ) (P:=fun y=>Aav y) rfl Zac w0;obtain⟨x1,rfl,l1,p1⟩:=Bas (α:=mE) (P:=fun y=>Aaw y) rfl Zae w1;obtain⟨x2,rfl,l2,p2⟩:=Bas (α:=bN) (P:=fun y=>True) rfl Sam w2;exact⟨⟨x0,x1,x2⟩,rfl,⟨⟨gK l0 (by decide),p0⟩,⟨gK l1 (by decide),p1⟩,gK l2 (by decide)⟩⟩
theorem SZ:(∀ b:Bool,(b&&true)=b)/\(∀ b:Bool,(true&&b)=b)/\(∀ b:Bool,(b&&false)=false)/\(∀ b:Bool,(false&&b)=false) /\
  (∀ b:Bool,(b||true)=true)/\(∀ b:Bool,(true||b)=true)/\(∀ b:Bool,(b||false)=b)/\(∀ b:Bool,(false||b)=b)/\((!true)=false)/\((!false)=true) :=
 ⟨Rbz,Rbh,Bool.and_false,Bool.false_and,Bool.or_true,Bool.true_or,Bool.or_false,Qb6,rfl,rfl⟩
theorem aD {γ:Type}{a r:γ}(h:iH true a r=r):a=r:=h
theorem S0:type_of% (And.intro Ob9 (And.intro @ite_true.{1} (And.intro @ite_false.{1} (And.intro @SA (And.intro @SB (And.intro @SC (And.intro @SP (And.intro @SQ (And.intro @SZ (And.intro @beq_self_eq_true.{0} (And.intro @decide_true (And.intro @decide_false (And.intro @Fbe @Fbi))))))))))))):=And.intro Ob9 (And.intro @ite_true.{1} (And.intro @ite_false.{1} (And.intro @SA (And.intro @SB (And.intro @SC (And.intro @SP (And.intro @SQ (And.intro @SZ (And.intro @beq_self_eq_true.{0} (And.intro @decide_true (And.intro @decide_false (And.intro @Fbe @Fbi))))))))))))
theorem Dam {x y:Bool}(h:x=true↔y=true):some [D.bool x]=some [D.bool y]:=by rw[Bool.eq_iff_iff.2 h]
def eF (n:Int):Bool:=n==3||n==5
theorem bL {n:Int}(h:eF n=true):n=3\/n=5:=by simpa[eF] using h
def inst (n rep no:Int):Bool:=inR rep 0 (n-1)&&inR no 1 6
def Bam (c:Cat):Bool :=
 if c.kind==0 then decide (c=⟨0,0,0,0,0⟩) else if c.kind==1 then inR c.id 1 999&&inR c.src 0 3&&inR c.dst 0 3&&!(c.src==c.dst)&&inR c.amt 1 1000
 else c.kind==2&&inR c.id 1 999&&inR c.src 0 3&&c.dst==0&&c.amt==0
def Jau (c:Cat):Int :=
 if !inR c.src 0 3||(c.kind==1&&!inR c.dst 0 3) then 4 else if c.kind==1&&c.src==c.dst then 5 else if !inR c.id 1 999||(c.kind==1&&!inR c.amt 1 1000) then 6 else 0
def iW (n:Int)(a:eZ):Bool:=inR a.seq 0 999&&(a.deps.length:Int)==n&&a.deps.all fun x=>inR x 0 6
def none0 (n:Int):eZ:=⟨0,Pbp n.toNat 0⟩
def rowOk (n:Int)(r:dQ):Bool :=
 inR r.ballot 0 9999&&inR r.vote 0 r.ballot&&inR r.state 0 3&&(if r.state==0 then r.vote==0&&decide (r.cmd=⟨0,0,0,0,0⟩)&&decide (r.attr=none0 n) else Bam r.cmd&&iW n r.attr)
def wC (n:Int)(m:mE):Bool :=
  eF n&&inR m.kind 1 7&&inst n m.rep m.no&&inR m.src 0 (n-1)&&inR m.dst 0 (n-1)&&!(m.src==m.dst)&&inR m.ballot 0 9999 &&
  (if m.kind==7 then !(m.state==3)&&rowOk n ⟨m.ballot,m.vote,m.state,m.cmd,m.attr⟩
   else !(m.kind==5&&!(m.ballot==0))&&m.vote==0&&m.state==0&&Bam m.cmd&&iW n m.attr &&
     (if m.kind==2 then decide (m.cmd=⟨0,0,0,0,0⟩) else if m.kind==4||m.kind==6 then decide (m.cmd=⟨0,0,0,0,0⟩)&&decide (m.attr=none0 n) else true))
theorem Ia1 {n:Int}(h:eF n=true):iW n (none0 n)=true:=by
 rcases bL h with rfl|rfl<;>rfl
theorem Cbe {c:Cat}(h:decide (c=⟨0,0,0,0,0⟩)=true):Bam c=true:=by
 rw[of_decide_eq_true h];rfl
theorem Zam {c:Cat}:(Jau c==0)=(inR c.src 0 3&&inR c.id 1 999&&(!(c.kind==1)||(inR c.dst 0 3&&!(c.src==c.dst)&&inR c.amt 1 1000))):=by
 unfold Jau;cases inR c.src 0 3<;>cases inR c.id 1 999<;>cases c.kind==1<;>cases inR c.dst 0 3<;>cases c.src==c.dst<;>cases inR c.amt 1 1000<;>rfl
def Tas (xs:List dQ):Prop:=xs.length<=10000000000/\∀ r∈xs,r.attr.deps.length<=10000000000
def Eaj (rows:List (List dQ)):Prop:=rows.length<=10000000000/\∀ l∈rows,Tas l
theorem Dbh (r:dQ):aL r=r.attr.deps.length:=dG
theorem Ka0 {xs:List dQ}(h:szL aL xs<=1048576):Tas xs:=by
 refine⟨Pb8 (gH (f:=aL)) (by omega),fun r hr=>?_⟩;have h1:=fZ (f:=aL) hr;rw[Dbh]at h1;omega
theorem Xa8 {rows:List (List dQ)}(h:szL (szL aL) rows<=1048576):Eaj rows:=by
 refine⟨Pb8 (gH (f:=szL aL)) (by omega),fun l hl=>Ka0 ?_⟩;have h1:=fZ (f:=szL aL) hl;omega
def fU (t:aU):Bool:=eF t.n&&(t.rows.length:Int)==t.n&&t.rows.all fun l=>l.all (fun r=>rowOk t.n r)&&decide ((l.length:Int)<=6)
def row0 (n:Int):dQ:=⟨0,0,0,⟨0,0,0,0,0⟩,none0 n⟩
def dK (t:aU)(rep no:Int):dQ:=if no<=(atI t.rows rep).length then atI (atI t.rows rep) (no-1) else row0 t.n
theorem gF {n rep no:Int}(h:inst n rep no=true):0<=rep/\rep<=n-1/\1<=no/\no<=6:=by
 simp only[inst,inR,Obz,decide_eq_true_eq]at h;omega
theorem bX {t:aU}(h:fU t=true):eF t.n=true:=by
 simp only[fU,Obz]at h;exact h.1.1
theorem fE {t:aU}(h:fU t=true):(t.rows.length:Int)=t.n:=by
 simp only[fU,Obz,beq_iff_eq]at h;exact h.1.2
theorem Ca8 {t:aU}{rep no:Int}(h:fU t=true)(hi:inst t.n rep no=true):InB t.rows rep:=by
 have:=fE h;have:=gF hi;unfold InB;omega
theorem jP {t:aU}(h:fU t=true){l:List dQ}(hl:l∈t.rows):l.length<=6/\∀ r∈l,rowOk t.n r=true:=by
 simp only[fU,Obz,Pbv,decide_eq_true_eq]at h;have:=h.2 l hl;exact⟨by omega,this.1⟩
theorem Rap {n:Int}{r:dQ}(h:rowOk n r=true)(hg:eF n=true):(r.attr.deps.length:Int)=n:=by
 have h2:iW n r.attr=true:=by
  simp only[rowOk,Obz]at h;have h3:=h.2;split at h3
  ·simp only[Obz]at h3
   rw[of_decide_eq_true h3.2];exact Ia1 hg
  ·simp only[Obz]at h3
   exact h3.2
 simp only[iW,Obz,beq_iff_eq]at h2;exact h2.1.2
theorem jF {α:Type}[Inhabited α]{xs:List α}{k:Int}(h:InB xs k):atI xs k∈xs:=by
 have h2:=h.lt;have e:((k.toNat:Nat):Int)=k:=by unfold InB at h;omega
 rw[<- e];exact at_mem h2
theorem Nag {t:aU}{rep no:Int}(h:fU t=true)(hi:inst t.n rep no=true):rowOk t.n (dK t rep no)=true:=by
 unfold dK;have hb:=Ca8 h hi;have hr:=gF hi;split
 ·exact (jP h (jF hb)).2 _ (jF (by unfold InB;omega))
 ·rcases bL (bX h) with e|e<;>rw[e]<;>rfl
theorem Tac {t:aU}{rep no:Int}(h:fU t=true)(hi:inst t.n rep no=true):((dK t rep no).attr.deps.length:Int)=t.n:=Rap (Nag h hi) (bX h)
def ext (n:Int)(l:List dQ)(no:Int):List dQ:=l++Pbp (no-l.length).toNat (row0 n)
def Abt (t:aU)(rep no:Int)(r:dQ):aU:=⟨t.n,lK t.rows rep (lK (ext t.n (atI t.rows rep) no) (no-1) r)⟩
theorem Vaj {n:Int}{l:List dQ}{no:Int}(h:0<=no):((ext n l no).length:Int)=max (l.length:Int) no:=by
 simp only[ext,List.length_append,List.length_replicate];omega
def nb (b me:Int):Int:=if b<8+me then 8+me else b+1+(me-b-1) % 8
theorem Bbv {x lo hi:Int}(h:inR x lo hi=true):lo<=x/\x<=hi:=by
 simpa[inR] using h
theorem pY {α:Type}{xs:List α}{k:Int}{a:α}:(lK xs k a).length=xs.length:=List.length_set ..
theorem Abn {α:Type}[Inhabited α]{xs:List α}{j k:Int}{a:α}(hj:0<=j)(hk:0<=k)(h:j≠k):atI (lK xs j a) k=atI xs k:=by
 unfold atI lK;rw[Pba,Pba,List.getElem?_set_ne (by omega)]
def Qag (xs:List Int)(n:Int):Bool:=xs.any fun x=>x==n
def Oab (xs:List Int)(n:Int):Nat:=(xs.takeWhile fun x=>decide (x<n)).length
def Yaj (xs:List Int)(n:Int):List Int:=if decide ((Oab xs n:Int)<xs.length)&&(atI xs (Oab xs n:Nat)==n) then xs else xs.take (Oab xs n)++[n]++xs.drop (Oab xs n)
def Va1 (l:List dQ)(k:Int)(m:Nat):List (List Int):=(Rbx m).flatMap fun i:Nat=>if (atI l (i:Int)).state==3 then [[k,(i:Int)+1]] else []
def Mbs (rows:List (List dQ))(m:Nat):List (List Int):=(Rbx m).flatMap fun k:Nat=>Va1 (atI rows (k:Int)) k (atI rows (k:Int)).length
def Cb7 (rows:List (List dQ)):List (List Int):=Mbs rows rows.length
theorem Zak {rows:List (List dQ)}{x:List Int}(h:x∈Cb7 rows):∃ k i:Nat,k<rows.length/\i<(atI rows (k:Int)).length/\x=[(k:Int),(i:Int)+1]/\(atI (atI rows (k:Int)) (i:Int)).state=3:=by
 unfold Cb7 Mbs Va1 at h;simp only[List.mem_flatMap,Rbr]at h;obtain⟨k,hk,i,hi,hx⟩:=h;split at hx
 ·rename_i hs
  exact⟨k,i,hk,hi,by simpa using hx,by simpa using hs⟩
 ·cases hx
theorem Va2 {t:aU}(ht:fU t=true){x:List Int}(h:x∈Cb7 t.rows):InB x 0/\InB x 1/\x.length=2/\inst t.n (atI x 0) (atI x 1)=true/\(dK t (atI x 0) (atI x 1)).state=3:=by
 obtain⟨k,i,hk,hi,rfl,hs⟩:=Zak h;have h1:=(jP ht (at_mem hk)).1;have h2:=fE ht;refine⟨by unfold InB;simp,by unfold InB;simp,rfl,?_,?_⟩
 ·simp only[atI,inst,inR,Obz,decide_eq_true_eq]
  simp;omega
 ·show (dK t (k:Int) ((i:Int)+1)).state=3
  unfold dK;rw[if_pos (by omega),show (i:Int)+1-1=i by omega];exact hs
def Vai (l:List (List Int))(x:List Int):Int:=ixF (fun y=>decide (x=y)) l
def Abh (k:Int)(rep no:Int)(m:Nat):List (List Int):=(Rbx m).flatMap fun i:Nat=>if !(k==rep)||!((i:Int)+1==no) then [[k,(i:Int)+1]] else []
def Jbm (deps:List Int)(rep no:Int)(m:Nat):List (List Int):=(Rbx m).flatMap fun k:Nat=>Abh k rep no (atI deps (k:Int)).toNat
def Ibo (t:aU)(rep no:Int):List (List Int):=Jbm (dK t rep no).attr.deps rep no (dK t rep no).attr.deps.length
theorem Raq {n:Int}{r:dQ}(h:rowOk n r=true)(hg:eF n=true):∀ d∈r.attr.deps,0<=d/\d<=6:=by
 have h2:iW n r.attr=true:=by
  simp only[rowOk,Obz]at h;have h3:=h.2;split at h3
  ·simp only[Obz]at h3
   rw[of_decide_eq_true h3.2];exact Ia1 hg
  ·simp only[Obz]at h3
   exact h3.2
 simp only[iW,Obz,Pbv]at h2;exact fun d hd=>Bbv (h2.2 d hd)
theorem Zab {deps:List Int}{rep no:Int}{m:Nat}{y:List Int}:y∈Jbm deps rep no m↔∃ k i:Nat,k<m/\(i:Int)<atI deps (k:Int)/\¬((k:Int)=rep/\(i:Int)+1=no)/\y=[(k:Int),(i:Int)+1]:=by
 unfold Jbm Abh;simp only[List.mem_flatMap,Rbr];constructor
 ·rintro⟨k,hk,i,hi,hy⟩
  split at hy
  ·rename_i hc
   refine⟨k,i,hk,by omega,?_,by simpa using hy⟩;simp only[Qbb,Pbs,beq_eq_false_iff_ne,ne_eq]at hc;omega
  ·cases hy
 ·rintro⟨k,i,hk,hi,ct,rfl⟩
  refine⟨k,hk,i,by omega,?_⟩;rw[if_pos]
  ·simp
  ·simp only[Qbb,Pbs,beq_eq_false_iff_ne,ne_eq]
   omega
def kN (xs:List Int):Prop:=xs.Pairwise (· < ·)
theorem Aa4:∀ {xs ys:List Int},kN xs->kN ys->(∀ x,x∈xs↔x∈ys)->xs=ys
 |[],[],_,_,_=>rfl
 |[],y::ys,_,_,h=>by have:=(h y).2 Pbf;cases this
 |x::xs,[],_,_,h=>by have:=(h x).1 Pbf;cases this
 | x :: xs, y :: ys, hx, hy, h => by
  unfold kN at hx hy;rw[Qb1]at hx hy
  have e:x=y:=by
   rcases Ob8.1 ((h x).1 Pbf) with h1|h1
   ·exact h1
   ·rcases Ob8.1 ((h y).2 Pbf) with h2|h2
    ·exact h2.symm
    ·have:=hx.1 y h2
     have:=hy.1 x h1;omega
  subst e;congr 1;refine Aa4 hx.2 hy.2 fun z=>?_
  constructor
  ·intro hz
   rcases Ob8.1 ((h z).1 (Pbb _ hz)) with h1|h1
   ·subst h1
    exact absurd (hx.1 z hz) (by omega)
   ·exact h1
  ·intro hz
   rcases Ob8.1 ((h z).2 (Pbb _ hz)) with h1|h1
   ·subst h1
    exact absurd (hy.1 z hz) (by omega)
   ·exact h1
theorem Laf {x n:Int}{xs:List Int}:Yaj (x::xs) n=if x<n then x::Yaj xs n else if x==n then x::xs else n::x::xs:=by
 by_cases h:x<n
 ·rw[if_pos h]
  have e:Oab (x::xs) n=Oab xs n+1:=by simp[Oab,h]
  have ea:atI (x::xs) ((Oab xs n+1:Nat):Int)=atI xs (Oab xs n:Nat):=by
   rw[Oa2,Oa2,List.getD_cons_succ]
  have el:decide (((Oab xs n+1:Nat):Int)<(x::xs).length)=decide (((Oab xs n:Nat):Int)<xs.length):=by
   simp only[Pb9,decide_eq_decide];omega
  unfold Yaj;rw[e,ea,el];split
  ·rfl
  ·simp
 ·rw[if_neg h]
  have e:Oab (x::xs) n=0:=by simp[Oab,h]
  unfold Yaj;rw[e];have ea:atI (x::xs) ((0:Nat):Int)=x:=rfl;rw[ea];have el:decide (((0:Nat):Int)<(x::xs).length)=true:=by simp
  rw[el,Rbh];split
  ·rfl
  ·simp
theorem Iay:∀ {xs:List Int} {n x:Int},x∈Yaj xs n↔x∈xs\/x=n
 |[],n,x=>by simp[Yaj,Oab]
 | y :: ys, n, x => by
  rw[Laf];split
  ·rw[Ob8,Iay,Ob8,or_assoc]
  ·split
   ·rename_i h
    have:y=n:=by simpa using h
    subst this;simp[or_comm]
   ·simp only[Ob8]
    constructor
    ·rintro (h|h|h)
     ·exact .inr h
     ·exact .inl (.inl h)
     ·exact .inl (.inr h)
    ·rintro ((h|h)|h)
     ·exact .inr (.inl h)
     ·exact .inr (.inr h)
     ·exact .inl h
theorem Eao:∀ {xs:List Int} {n:Int},kN xs->kN (Yaj xs n)
 |[],n,_=>by simp[Yaj,Oab,kN]
 | y :: ys, n, h => by
  have h':=h;unfold kN at h;rw[Qb1]at h;rw[Laf];split
  ·unfold kN
   rw[Qb1];refine⟨fun z hz=>?_,Eao h.2⟩
   rcases Iay.1 hz with h1|h1
   ·exact h.1 z h1
   ·omega
  ·split
   ·exact h'
   ·rename_i h1 h2
    have:y≠n:=by simpa using h2
    unfold kN;rw[Qb1];refine⟨fun z hz=>?_,h'⟩
    rcases Ob8.1 hz with h3|h3
    ·omega
    ·have:=h.1 z h3
     omega
theorem Jag {α:Type}[Inhabited α]{p:α->Bool}{xs:List α}(h:0<=ixF p xs):InB xs (ixF p xs)/\p (atI xs (ixF p xs))=true/\∀ k:Nat,(k:Int)<ixF p xs->p (atI xs (k:Int))=false:=by
 unfold ixF at h ⊢
 cases e:xs.findIdx? p with
 |none=>rw[e]at h;simp at h
 | some i =>
  rw[List.findIdx?_eq_some_iff_getElem]at e;obtain⟨hi,hp,a2a⟩:=e;refine⟨aO.2 hi,by simp only;rw[cK hi];exact hp,fun k hk=>?_⟩;have jh:k<i:=by simp only at hk;omega
  rw[cK (by omega)];have:=a2a k jh;simpa using this
theorem Eb6 {α:Type}[Inhabited α]{p:α->Bool}{xs:List α}{k:Nat}(hk:k<xs.length)(hp:p (atI xs (k:Int))=true):0<=ixF p xs:=by
 have h:xs.any p=true:=Qb3.2 ⟨_,at_mem hk,hp⟩;rw[<- dO]at h;exact of_decide_eq_true h
section
variable {T:Nat->Ent} {β:Type}
theorem Ib8 {body:Tm β}{ρ:List D}(j s n:Nat)(p:Nat->Bool)(r:List D)
  (h1:∀ i:Nat,s<=i->i<n->decide ((i:Int)<n)=true->Er T body (ρ++[i64 i])=iH (p i) (some (.cont,[i64 ((i:Int)+1)])) (some (.ret,r)))
  (h3:∀ i:Nat,n<=i->decide ((i:Int)<n)=false->Er T body (ρ++[i64 i])=some (.yield j,[])) :
  Er T (.loop [.c (i64 s)] body) ρ=iH (sK (fun i=>decide (i<s)||p i) n) (some (.yield j,[])) (some (.ret,r)):=by
 obtain⟨q,h4,h5⟩:=Oah (T:=T) (body:=body) (ρ:=ρ) (fun i:Nat=>n-i) (fun i=>s<=i/\∀ k,s<=k->k<i->k<n->p k=true) (fun i=>[i64 (i:Nat)])
  (fun q=>q=iH (sK (fun i=>decide (i<s)||p i) n) (.yield j,[]) (.ret,r))
  (fun i ⟨hs,cE⟩=>by
   rcases Pbo i n with aq|mf
   ·have e:=h1 i hs aq (by simp;omega)
    cases hp:p i with
    | true =>
     rw[hp]at e
     exact⟨_,e,.inl ⟨rfl,i+1,⟨by omega,fun k h2 h6 h7=>by
      rcases Pbo k i with h8|h8
      ·exact cE k h2 h8 h7
      ·obtain rfl:k=i:=by omega
       exact hp⟩,by omega,rfl⟩⟩
    | false =>
     rw[hp]at e;have hf:sK (fun i=>decide (i<s)||p i) n=false:=Bar.2 ⟨i,aq,by simp[hp];omega⟩;exact⟨_,e,.inr ⟨by simp,by rw[hf];rfl⟩⟩
   ·have ht:sK (fun i=>decide (i<s)||p i) n=true:=jH.2 fun k hk=>by
     by_cases h2:k<s
     ·simp[h2]
     ·rw[cE k (by omega) (by omega) hk,Bool.or_true]
    exact⟨_,h3 i mf (by simp;omega),.inr ⟨by simp,by rw[ht];rfl⟩⟩)
  n s (by omega) ⟨Pbj _,fun k h1 h2 _=>by omega⟩ [.c (i64 s)] rfl
 rw[h4,h5];cases sK (fun i=>decide (i<s)||p i) n<;>rfl
end
def Cab (n:Int):Prop:=0<=n/\n<=1000000
theorem La0 {n:Int}(h:eF n=true):Cab n:=by have:=bL h;unfold Cab;omega
theorem Ta8 (k:Int):k=1\/k=2\/k=3\/(k==1)=false/\(k==2)=false/\(k==3)=false:=by
 by_cases h1:k=1
 ·exact .inl h1
 by_cases h2:k=2
 ·exact .inr (.inl h2)
 by_cases h3:k=3
 ·exact .inr (.inr (.inl h3))
 ·exact .inr (.inr (.inr ⟨by simpa using h1,by simpa using h2,by simpa using h3⟩))
def Na5 (xs:List Int)(i:Nat):Bool:=!(decide (0<i)&&decide (atI xs (i:Int)<=atI xs ((i:Int)-1)))
def Was (xs:List Int)(lo hi:Int):Bool:=sK (fun i=>inR (atI xs (i:Int)) lo hi&&Na5 xs i) xs.length
def Uat (p l:gT):Bool:=decide (l.rep<p.rep)||(p.rep==l.rep&&decide (l.no<=p.no))
def Ea2 (n me:Int)(l:gT):Bool :=
  inst n l.rep l.no&&inR l.ballot 0 9999&&Was l.who 0 (n-1)&&Qag l.who me&&iW n l.first&&iW n l.attr &&
  (if l.phase==1 then Bam l.cmd&&(l.seen.length:Int)==0 else if l.phase==2 then Bam l.cmd&&(l.seen.length:Int)==0&&!l.same&&decide (l.first=l.attr)
   else if l.phase==3 then decide (l.cmd=⟨0,0,0,0,0⟩)&&decide (l.first=none0 n)&&decide (l.attr=none0 n)&&!l.same&&(l.seen.length:Int)==l.who.length&&l.seen.all fun r=>rowOk n r&&!(r.state==3)
   else false)
def Las (n me:Int)(ls:List gT)(i:Nat):Bool:=Ea2 n me (atI ls (i:Int))&&!(decide (0<(i:Int))&&Uat (atI ls ((i:Int)-1)) (atI ls (i:Int)))
def Na7 (r:lJ):Bool:=fU r.table&&inR r.me 0 (r.table.n-1)&&sK (Las r.table.n r.me r.leads) r.leads.length
def Fa3 (n:Int)(l:List bN)(i:Nat):Bool:=inst n (atI l (i:Int)).rep (atI l (i:Int)).no&&Bam (atI l (i:Int)).cmd&&!((atI l (i:Int)).cmd.kind==0)&&!(l.take i).any fun b=>b.rep==(atI l (i:Int)).rep&&b.no==(atI l (i:Int)).no
def Naa (n:Int)(l:List bN):Bool:=sK (Fa3 n l) l.length
def Ka8 (n:Int)(l:List lJ)(i:Nat):Bool:=Na7 (atI l (i:Int))&&(atI l (i:Int)).me==(i:Int)&&(atI l (i:Int)).table.n==n
def sI (t:xX):Bool:=eF t.reps.length&&!decide (80<(t.bag.length:Int))&&Naa t.reps.length t.asked&&sK (Ka8 t.reps.length t.reps) t.reps.length&&t.bag.all fun m=>wC t.reps.length m
def Pan (l:gT):Prop:=l.first.deps.length<=10000000000/\l.attr.deps.length<=10000000000/\l.who.length<=10000000000/\Tas l.seen
def Iaq (l:List gT):Prop:=l.length<=10000000000/\∀ x∈l,Pan x
def Dbk (r:lJ):Prop:=Eaj r.table.rows/\Iaq r.leads
def mM (l:List lJ):Prop:=l.length<=10000000000/\∀ x∈l,Dbk x
def Ba3 (l:List mE):Prop:=l.length<=10000000000/\∀ x∈l,x.attr.deps.length<=10000000000
theorem Tav {l:gT}(h:aS l<=1048576):Pan l:=by
 rw[Kaj]at h;exact⟨by omega,by omega,by omega,Ka0 (by omega)⟩
theorem Ral {l:List gT}(h:szL aS l<=1048576):Iaq l:=by
 refine⟨Pb8 (gH (f:=aS)) (by omega),fun x hx=>Tav ?_⟩;have:=fZ (f:=aS) hx;omega
theorem Xa9 {r:lJ}(h:aW r<=1048576):Dbk r:=by
 rw[Paa]at h;exact⟨Xa8 (by omega),Ral (by omega)⟩
theorem Tat {l:List lJ}(h:szL aW l<=1048576):mM l:=by
 refine⟨Pb8 (gH (f:=aW)) (by omega),fun x hx=>Xa9 ?_⟩;have:=fZ (f:=aW) hx;omega
theorem Tau {l:List mE}(h:szL bA l<=1048576):Ba3 l:=by
 refine⟨Pb8 (gH (f:=bA)) (by omega),fun x hx=>?_⟩;have h2:=fZ (f:=bA) hx;rw[Pab]at h2;omega
def Sav:List Int->List Int->Option Int
 |[],_=>none
 |_::_,[]=>some 1
 |x::xs,y::ys=>if x<y then some (-1) else if y<x then some 1 else Sav xs ys
def Ibq (xs ys:List Int):Int:=match Sav xs ys with
 |some c=>c
 |none=>if decide ((xs.length:Int)<ys.length) then -1 else 0
def Cbd (a b:Int):Int:=if a<b then -1 else if b<a then 1 else 0
theorem Va4 {xs ys:List Int}{i:Nat}(h:i<xs.length)(h2:i<ys.length):Sav (xs.drop i) (ys.drop i)=if atI xs (i:Int)<atI ys (i:Int) then some (-1) else if atI ys (i:Int)<atI xs (i:Int) then some 1 else Sav (xs.drop (i+1)) (ys.drop (i+1)):=by
 rw[Qby h,Qby h2,cK h,cK h2];rfl
theorem Zal {xs ys:List Int}{i:Nat}(h:i<xs.length)(h2:ys.length<=i):Sav (xs.drop i) (ys.drop i)=some 1:=by
 rw[Qby h,List.drop_eq_nil_of_le h2];rfl
theorem Obt (a b c d:Int):decide (Ibq [a,b] [c,d]<=0)=(decide (a<c)||(c==a&&decide (b<=d))):=by
 unfold Ibq Sav;by_cases h1:a<c
 ·simp[h1]
 ·rw[if_neg h1]
  by_cases h2:c<a
  ·simp[h1,h2];omega
  ·rw[if_neg h2]
   have:c=a:=by omega
   subst this;unfold Sav;by_cases h3:b<d
   ·simp[h3];omega
   ·rw[if_neg h3]
    by_cases h4:d<b
    ·simp[h4]
    ·rw[if_neg h4]
     simp[Sav];omega
theorem kD {t:xX}(h:sI t=true){i:Nat}(hi:i<t.reps.length):fU (atI t.reps (i:Int)).table=true/\(atI t.reps (i:Int)).table.n=t.reps.length/\eF (t.reps.length:Int)=true:=by
 unfold sI at h;simp only[Obz]at h;have h2:=jH.1 h.1.2 i hi;unfold Ka8 Na7 at h2;simp only[Obz,beq_iff_eq]at h2;exact⟨h2.1.1.1.1,h2.2,h.1.1.1.1⟩
theorem tT {t:xX}(h:sI t=true):eF (t.reps.length:Int)=true:=by
 unfold sI at h;simp only[Obz]at h;exact h.1.1.1.1
theorem Ia6 {α:Type}{xs:List α}{k:Int}{a x:α}(h:x∈lK xs k a):x∈xs\/x=a:=List.mem_or_eq_of_mem_set h
theorem Ham {T:Nat->Ent}{β γ:Type}{body:Tm β}{ρ:List D}{init:List aI}(m:γ->Nat)(inv:γ->Prop)(vs:γ->List D)(Q:Kind×List D->Prop)(c0:γ)(h0:init.map (·.val ρ)=vs c0)(hi:inv c0)
  (h:∀ c,inv c->(∃ c',Er T body (ρ++vs c)=some (.cont,vs c')/\inv c'/\m c'<m c)\/(∃ q,Er T body (ρ++vs c)=some q/\q.1≠.cont/\Q q)):∃ q,Er T (.loop init body) ρ=some q/\Q q :=
 Oah (T:=T) (body:=body) (ρ:=ρ) m inv vs Q (fun c hc=>by
  rcases h c hc with ⟨c',h2,h3,h4⟩|⟨q,h2,h3,h4⟩
  ·exact⟨_,h2,.inl ⟨rfl,c',h3,h4,rfl⟩⟩
  ·exact⟨_,h2,.inr ⟨h3,h4⟩⟩) (m c0) c0 (Pbj _) hi init h0
theorem Wah {n:Int}{a:eZ}(h1:0<=a.seq/\a.seq<=999)(h2:(a.deps.length:Int)=n)(h3:∀ k:Nat,k<a.deps.length->0<=atI a.deps (k:Int)/\atI a.deps (k:Int)<=6):iW n a=true:=by
 simp only[iW,Obz,beq_iff_eq,Pbv];refine⟨⟨by simp[inR,h1],h2⟩,fun x hx=>?_⟩;obtain⟨k,hk,rfl⟩:=Rbt hx;have:=h3 k hk;rw[cK hk]at this;simp[inR,this]
theorem Rar {n:Int}{r:dQ}(h:rowOk n r=true)(hg:eF n=true):iW n r.attr=true:=by
 simp only[rowOk,Obz]at h;have h3:=h.2;have hn:=bL hg;split at h3
 ·simp only[Obz,decide_eq_true_eq]at h3
  rw[h3.2];refine Wah (by simp[none0]) (by simp[none0];omega) fun k hk=>?_
  rw[cK hk];simp[none0]
 ·simp only[Obz]at h3
  exact h3.2
theorem Cbi {α:Type}[Inhabited α]{xs ys:List α}{k:Int}(h0:0<=k)(h:k<(xs.length:Int)):atI (xs++ys) k=atI xs k:=by
 unfold atI;rw[Pba,Pba,List.getElem?_append_left (by omega)]
theorem Cbh {α:Type}[Inhabited α]{xs:List α}{a:α}{n:Nat}{k:Int}(h:(xs.length:Int)<=k)(h2:k<(xs.length:Int)+n):atI (xs++Pbp n a) k=a:=by
 unfold atI;rw[Pba,List.getElem?_append_right (by omega),List.getElem?_replicate_of_lt (by omega)];rfl
theorem Tab {t:aU}{rep no:Int}{r:dQ}(h:fU t=true)(hi:inst t.n rep no=true){k i:Int}(hk:inst t.n k i=true):dK (Abt t rep no r) k i=if k=rep/\i=no then r else dK t k i:=by
 obtain⟨r1,r2,r3,r4⟩:=gF hi;obtain⟨k1,k2,k3,k4⟩:=gF hk;have hb:=Ca8 h hi;have kA:=Ca8 h hk;have hl:=Vaj (n:=t.n) (l:=atI t.rows rep) (no:=no) (by omega);unfold dK;simp only[Abt];by_cases lE:k=rep
 ·subst lE
  have e:atI (lK t.rows k (lK (ext t.n (atI t.rows k) no) (no-1) r)) k=lK (ext t.n (atI t.rows k) no) (no-1) r:=Cbn.1 hb;simp only[e,pY,true_and];by_cases gE:i=no
  ·subst gE
   rw[if_pos (by omega),if_pos rfl];exact Cbn.1 (by unfold InB;omega)
  ·rw[if_neg gE]
   rw[Abn (by omega) (by omega) (by omega)];by_cases h1:i<=((atI t.rows k).length:Int)
   ·rw[if_pos (by omega),if_pos h1]
    exact Cbi (by omega) (by omega)
   ·rw[if_neg h1]
    split
    ·exact Cbh (by omega) (by omega)
    ·rfl
 ·rw[if_neg (fun hc=>lE hc.1)]
  have e:atI (lK t.rows rep (lK (ext t.n (atI t.rows rep) no) (no-1) r)) k=atI t.rows k:=Abn (by omega) (by omega) (fun e=>lE e.symm);simp only[e]
theorem Ta0 {n:Int}(h:eF n=true):rowOk n (row0 n)=true:=by
 have hn:=bL h
 rcases hn with rfl|rfl<;>decide
theorem Abs {t:aU}{rep no:Int}{r:dQ}(h:fU t=true)(hi:inst t.n rep no=true)(hr:rowOk t.n r=true):fU (Abt t rep no r)=true:=by
 obtain⟨r1,r2,r3,r4⟩:=gF hi;have hb:=Ca8 h hi;have hg:=bX h;have hlen:=fE h;have hl:=Vaj (n:=t.n) (l:=atI t.rows rep) (no:=no) (by omega);obtain⟨h6,sj⟩:=jP h (jF hb);simp only[fU,Abt,Obz,Pbv,beq_iff_eq,decide_eq_true_eq,pY];refine⟨⟨hg,hlen⟩,fun l k9=>?_⟩
 rcases Ia6 k9 with k9|rfl
 ·obtain⟨q1,q2⟩:=jP h k9
  exact⟨q2,by omega⟩
 ·refine⟨fun x hx=>?_,by rw[pY];omega⟩
  rcases Ia6 hx with hx|rfl
  ·unfold ext at hx
   rcases List.mem_append.1 hx with hx|hx
   ·exact sj x hx
   ·rw[List.eq_of_mem_replicate hx]
    exact Ta0 hg
  ·exact hr
theorem Ua5 {x lo hi:Int}:inR x lo hi=true↔lo<=x/\x<=hi:=by simp[inR]
def u8 (c:UInt8):D:=.int .u8 (c.toNat:Nat)
end Go.Proofs.YtcbkmmhkccnamaaGreat.Rf
