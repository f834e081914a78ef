/- Terms for qq program's functions, and my they are right: part 8 of 9. -/
import Derived.Test.YtcbkmmhkccnamaaGreatRf7
import Derived.Shelf.SlicesE.Clone
import Derived.Laws.CopyOwn
import Derived.LoopN
import Derived.WalkKit
import Derived.RegionTactic
import Derived.ChangeAlike
import Derived.Lib.Bytealg
import Derived.Lib.SplitLaws
import Derived.LaidLaws
import Derived.Lay
import Derived.Shelf.Strings.OnBuilder
import Derived.Shelf.Strconv.Itoa3
import Derived.Lib.AppendIntMem
import Derived.Lib.LaidTab
import Derived.Shelf.Lay
import Derived.Shelf.SlSortCmp.NoneTotal
import Derived.Shelf.SlicesE.Delete
import Derived.Lib.ItoaNum
open Bool renaming and_eq_true → Obh, false_eq_true → Obp, not_eq_true' → Ob6, or_eq_true → Pbo, not_true → Pb5, false_or → Qbd, true_and → Qbj, and_true → Qb8
open List renaming getElem?_eq_getElem → Obl, getD_eq_getElem?_getD → Obo, mem_cons_of_mem → Obq, mem_cons_self → Obu, map_cons → Ob1, replicate → Ob3, getElem?_map → Ob5, length_map → Ob7, all_eq_true → Ob8, mem_cons → Pbg, length_cons → Pbm, getElem?_eq_none → Pb2, drop_eq_getElem_cons → Pb9, getElem_mem → Qbp, all_cons → Qbv, pairwise_cons → Qbw, map_append → Qb0, getElem_of_mem → Qb2, range → Qb6, mem_range → Rbb, all_nil → Rbk
open Nat renaming le_refl → Oby, add_assoc → Ob0, lt_or_ge → Ob2, add_zero → Pbb, le_trans → Pbl, zero_le → Pby
open Option renaming bind_some → Obm, map_eq_some_iff → Obr, map_some → Pbj
set_option linter.unusedSimpArgs false
set_option linter.unusedVariables false
set_option linter.unnecessarySimpa false
set_option linter.unusedSectionVars false
namespace Go.Proofs.YtcbkmmhkccnamaaGreat.Rf
open Go.Proofs Go.Shelf Go.RowKit Go.Lib
section
variable {P:Program} {ρ:Ren}
set_option maxHeartbeats 2000000 in
set_option maxRecDepth 100000 in
theorem Oaq (L:SlLaysE0.n41 P ρ)(i0:TypeInfo)(z:Value)(size bytes:Nat)(hi:P.info? (ρ.t 23)=some i0)(xk:i0.zero=some z)(qe:i0.size=size)(pD:i0.bytes=bytes)(wy:z.cells.size=size)(dm:0<size)
  (z23:∀ w,(Go.sizeOf (ρ.t 23)).run P w=.ok size w) (a:Addr) (c:Nat) (w:World) :
  Calls P (ρ.f 41) #[.slice (some a) 0 c] w fun e w'=>∃ v',e=.returned v'/\w'.ownsRow w.heap.size (ρ.t 23) size v' 0 []/\Below w.heap.size w w':=by
 have mixed:=L.mixed;have t4:=L.t4;have a4:=L.a4;have z4:=L.z4;have v4:=L.v4;have t22:=L.t22;have a22:=L.a22;have z22:=L.z22;have v22:=L.v22
 have q22:∀ (w:World) (a:Option Addr) (n c n' c':Nat),(binOp .eql (ρ.t 22) (.slice a n c) (.slice none n' c')).run P w=.ok (.bool a.isNone) w:=fun w a n c n' c'=>Lib.run_eql_slice_nil w _ _ a n c n' c' L.t22
 have u22:∀ w,Sem.run P (underlying (ρ.t 22)) w=.ok (TypeDesc.slice (ρ.t 23)) w:=run_underlying t22;obtain⟨_,_,FG⟩:=L.f41
 go_enter FG,SlBodyN.n41_ntmps ρ
 go_wp2_with (at_builtin;refine wpList_append_own _ rfl _ _ (ρ.t 22) rfl w.heap.size (ρ.t 23) i0 z size bytes t22 hi xk qe pD wy dm _ _ _ rfl (World.ownsRow_made w #[] 0 (Oby _) (Pby _) (by simp)) a 0 c [] rfl ?qc1 ?qc2 ?qc3 ?qc4 ?qc5 ?qc6 ?_)
 case qc1=>simp
 case qc2=>intro j u hj;simp at hj
 case qc3=>intro u hu;cases hu
 case qc4=>exact Pby _
 case qc5=>simp
 case qc6=>simp
 intro v' w1 a7 zv fx
 go_wp2
 go_ret
 exact⟨v',rfl,by simpa using a7,((Below.refl _ w).alloc (Oby _) _).grown zv (by simp) (by intro k hk;simp[Value.ownBlock]at hk;omega)⟩
theorem La1 {s:Sig}{G:Gh}{w:World}{vals:List Value}{ds:List D}(h:Wak s vals w G ds)(hb:s.boxes=[]):kU (mZ s G w) G w :=
 ⟨rfl,rfl,rfl,Oby _,fun b _ _=>⟨rfl,rfl⟩,fun b j hj he=>by
  obtain⟨h1,-⟩:=h.cells b j hj he;rw[hb]at h1;exact absurd h1 (Nat.not_lt_zero _),h.fresh⟩
theorem zP {s:Sig}{G:Gh}{w w':World}{vals:List Value}{ds:List D}{own':Nat->Ow}(h:Wak s vals w G ds)(hb:s.boxes=[])(rS:Below w.heap.size w w')(h1:∀ b,b<w.heap.size->own' b=G.own b)(h2:∀ b,w'.heap.size<=b->own' b=.frz) :
  kU (mZ s G w) { G with own:=own' } w' :=
 ⟨rS.os,rS.tape,rS.output,rS.size,fun b ar _=>⟨rS.block b ar,h1 b ar⟩,fun b j hj he=>by
  obtain⟨h1,-⟩:=h.cells b j hj he;rw[hb]at h1;exact absurd h1 (Nat.not_lt_zero _),h2⟩
theorem Zac (L:SlLaysE0.n41 P ρ){i0:TypeInfo}{z:Value}{size bytes m key:Nat}{T1:Nat->Ent}(hi:P.info? (ρ.t 23)=some i0)(xk:i0.zero=some z)(qe:i0.size=size)(pD:i0.bytes=bytes)(wy:z.cells.size=size)(dm:0<size)
  (z23:∀ w,(Go.sizeOf (ρ.t 23)).run P w=.ok size w) (hK:∀ n,rC P T1 n key ⟨ρ.f 41,[(false,[.fz false])],[],[(false,[.ow (m+1)])]⟩) :
  Cbg P ⟨ρ.f 41,[(false,[.fz false])],[],[(false,[.ow (m+1)])]⟩ (fun ds=>match ds with
   |[.rows _ []]=>some [.rows size []]
   |ds=>Fun T1 key ds):=by
 intro vals w G ds gn ew he;by_cases np:∃ sz,ds=[.rows sz []]
 ·obtain⟨sz,rfl⟩:=np
  simp only[Option.some.injEq]at he;subst he;obtain⟨u,us,vs,rfl,⟨v,tM,rfl,⟨gA,-⟩,rfl⟩,vq,fx⟩:=ew.params;simp only[Obp,if_false]at vq;obtain rfl:v=u:=by simpa using vq
  simp only[kZ]at fx;subst fx;have a4f:Rd (fun b=>G.own b=.frz) w v (.rows sz []):=gA;obtain⟨A,a,n,c,vs,rfl,hn,hc,-,-⟩:=a4f.inv;obtain rfl:n=0:=hn.symm;obtain⟨nm,q5,hfn⟩:=L.f41;refine .inl ⟨kW hfn q5 rfl _ _,?_⟩
  cases A with
  | none =>
   refine Calls.mono (AnyE.slices_Clone_nil L 0 c w) fun e w' ⟨h1,h2⟩=>?_
   subst h1;subst h2
   refine⟨G,[.slice none 0 0],rfl,La1 ew rfl,⟨_,_,_,rfl,⟨_,_,rfl,?_,rfl⟩,rfl,rfl⟩,trivial,trivial⟩;exact .sl none ⟨0,0,none⟩ 0 0 _ [] (fun _ _=>undef) rfl (Oby _) (.inr ⟨rfl,rfl⟩) (by simp) (fun e=>by cases e) (by simp) (by simp)
  | some a' =>
   refine Calls.mono (Oaq L i0 z size bytes hi xk qe pD wy dm z23 a' c w) fun e w' ⟨v',h1,h2,h3⟩=>?_
   subst h1
   rcases h2.2 with ⟨rfl,-⟩|⟨g,cap,cur,rfl,hg,bc,-,-,hcur,-⟩
   ·refine⟨{ G with own:=G.own },[.slice none 0 0],rfl,zP ew rfl h3 (fun _ _=>rfl) (fun b hb=>ew.fresh b (Pbl h3.size hb)),⟨_,_,_,rfl,⟨_,_,rfl,?_,rfl⟩,rfl,rfl⟩,trivial,trivial⟩
    exact .sl none ⟨0,0,none⟩ 0 0 _ [] (fun _ _=>undef) rfl (Oby _) (.inr ⟨rfl,rfl⟩) (by simp) (fun e=>by cases e) (by simp) (by simp)
   ·have ar:g<w'.heap.size:=(Array.getElem?_eq_some_iff.1 bc).1
    refine⟨{ G with own:=fun b=>if b=g then .slc 0 [] else G.own b },[.slice (some ⟨g,0,none⟩) 0 cap],rfl,zP ew rfl h3 (fun b hb=>if_neg (by omega)) (fun b hb=>?_),⟨_,_,_,rfl,⟨_,_,rfl,?_,rfl⟩,rfl,rfl⟩,trivial,trivial⟩
    ·show (if b=g then _ else _)=_
     rw[if_neg (by omega)];exact ew.fresh b (Pbl h3.size hb)
    ·refine .sl (some ⟨g,0,none⟩) ⟨g,0,none⟩ 0 cap _ [] (fun _ _=>undef) rfl (Pby _) (.inl rfl) (by simp) (fun _=>⟨rfl,if_pos rfl,fun k hk=>?_⟩) (by simp) (by simp)
     have jd:k<cur.size:=by omega
     refine⟨cur[k],?_,?_⟩
     ·have hb:((⟨g,0,none⟩:Addr).add k).block=g:=add_block _ _
      have ho:((⟨g,0,none⟩:Addr).add k)=⟨g,k,none⟩:=by unfold Addr.add;split<;>simp_all
      rw[ho];simp[World.cell?,bc,jd]
     ·have ho:((⟨g,0,none⟩:Addr).add k)=⟨g,k,none⟩:=by unfold Addr.add;split<;>simp_all
      rw[ho];simp[World.frozen?,bc]
 ·have z6:Fun T1 key ds=some gn:=by
   dsimp only at he;split at he
   ·rename_i sz
    exact absurd ⟨sz,rfl⟩ np
   ·exact he
  obtain⟨n,hn⟩:=Dai.1 z6;exact hK n vals w G ds gn ew hn
def Maq (P:Program)(t:TypeId):Option Nat:=match P.info? t with
 | some i => match i.zero with
  |some z=>if z.cells.size=i.size/\0<i.size then some i.size else none
  |none=>none
 |none=>none
noncomputable def Za8 (size:Nat)(T1:Nat->Ent)(key:Nat):List D->Option (List D):=fun ds=>match ds with
 |[.rows _ []]=>some [.rows size []]
 |ds=>Fun T1 key ds
theorem Vay (L:SlLaysE0.n41 P ρ){size m key f:Nat}{T T1:Nat->Ent}{ti:Nat->Option TI}{sigs:List (Nat×Sig)}(hf:ρ.f 41=f)(h:Maq P (ρ.t 23)=some size)(z23:∀ w,(Go.sizeOf (ρ.t 23)).run P w=.ok size w)
  (hK:∀ n,rC P T1 n key ⟨f,[(false,[.fz false])],[],[(false,[.ow (m+1)])]⟩) (hT:T key=.ext (Za8 size T1 key)) :
  Saw P T ti sigs key ⟨f,[(false,[.fz false])],[],[(false,[.ow (m+1)])]⟩:=by
 subst hf;unfold Maq at h;split at h
 ·rename_i i hi
  split at h
  ·rename_i z hz
   split at h
   ·rename_i h1
    cases h;exact .inr ⟨_,hT,Zac L hi hz rfl rfl h1.1 h1.2 z23 hK⟩
   ·cases h
  ·cases h
 ·cases h
end
end Go.Proofs.YtcbkmmhkccnamaaGreat.Rf
namespace Go.Proofs.YtcbkmmhkccnamaaGreat.Rf
open Go.RowKit
section
variable {P:Program}
end
end Go.Proofs.YtcbkmmhkccnamaaGreat.Rf
namespace Go.Proofs.YtcbkmmhkccnamaaGreat.Rf
section
variable {P:Program}
end
open Go.Proofs Go.Shelf Go.RowKit Go.Lib
section
variable {P:Program} {ρ:Ren}
end
end Go.Proofs.YtcbkmmhkccnamaaGreat.Rf
namespace Go.Proofs.YtcbkmmhkccnamaaGreat.Rf
def ltQ (p q:Int×Int):Bool:=decide (p.1<q.1)||(p.1==q.1&&decide (p.2<q.2))
theorem Iay {p q:Int×Int}:ltQ p q=true↔p.1<q.1\/(p.1=q.1/\p.2<q.2):=by
 unfold ltQ;simp only[Pbo,Obh,decide_eq_true_eq,beq_iff_eq]
theorem tN {p q:Int×Int}:ltQ p q=false↔q.1<p.1\/(p.1=q.1/\q.2<=p.2):=by
 rw[<- Bool.not_eq_true,Iay];omega
theorem Pau {p q:Int×Int}(h:ltQ p q=false)(h':ltQ q p=false):p=q:=by
 rw[tN]at h h';apply Prod.ext<;>omega
def Bbk {β:Type}(k:β->Int×Int)(x:β):List β->List β
 |[]=>[x]
 |y::r=>if ltQ (k x) (k y) then x::y::r else y::Bbk k x r
def vU {β:Type}(k:β->Int×Int):List β->List β
 |[]=>[]
 |x::r=>Bbk k x (vU k r)
theorem Eaz {β:Type}(k:β->Int×Int)(x:β):∀ l:List β,(Bbk k x l).Perm (x::l)
 |[]=>.refl _
 | y :: r => by
  unfold Bbk;split
  ·exact .refl _
  ·exact ((Eaz k x r).cons y).trans (.swap x y r)
theorem oJ {β:Type}(k:β->Int×Int):∀ l:List β,(vU k l).Perm l
 |[]=>.refl _
 |x::r=>(Eaz k x _).trans ((oJ k r).cons x)
def Faz {β:Type}(k:β->Int×Int)(l:List β):Prop:=l.Pairwise fun x y=>ltQ (k y) (k x)=false
theorem Eay {β:Type}(k:β->Int×Int)(x:β):∀ {l:List β},Faz k l->Faz k (Bbk k x l)
 |[],_=>by unfold Bbk Faz;simp
 | y :: r, h => by
  obtain⟨h1,h2⟩:=List.pairwise_cons.1 h;unfold Bbk;split
  ·rename_i hx
   refine List.pairwise_cons.2 ⟨fun z hz=>?_,h⟩;rw[Iay]at hx
   rcases List.mem_cons.1 hz with rfl|hz
   ·rw[tN];omega
   ·have:=h1 z hz
    rw[tN]at this ⊢;omega
  ·rename_i hx
   refine List.pairwise_cons.2 ⟨fun z hz=>?_,Eay k x h2⟩
   rcases List.mem_cons.1 ((Eaz k x r).mem_iff.1 hz) with rfl|hz
   ·simpa using hx
   ·exact h1 z hz
theorem sM {β:Type}(k:β->Int×Int):∀ l:List β,Faz k (vU k l)
 |[]=>List.Pairwise.nil
 |x::r=>Eay k x (sM k r)
theorem Kap {β:Type}(k:β->Int×Int){l l':List β}(hp:l'.Perm l)(hs:Faz k l')(hi:∀ x∈l,∀ y∈l,k x=k y->x=y):l'=vU k l :=
 List.Perm.eq_of_pairwise (le:=fun x y=>ltQ (k y) (k x)=false) (fun a b ha hb h1 h2=>hi a (hp.mem_iff.1 ha) b ((oJ k l).mem_iff.1 hb) (Pau h2 h1)) hs (sM k l) (hp.trans (oJ k l).symm)
def Oap (p q:Int×Int):Int:=if ltQ p q then -1 else if ltQ q p then 1 else 0
theorem Bb0 {p q:Int×Int}:decide (Oap p q<0)=ltQ p q:=by
 unfold Oap
 cases h:ltQ p q with
 |true=>rfl
 | false =>
  simp only[Obp,if_false];split<;>rfl
def Eak (p:Int×Int):D:=.rows 1 [[.int .i64 p.1],[.int .i64 p.2]]
def Hab:List (List D)->Option (List (Int×Int))
 |[]=>some []
 |[.rows 1 [[.int .i64 a],[.int .i64 b]]]::r=>(Hab r).map ((a,b)::·)
 |_=>none
theorem Haa:∀ {rs:List (List D)} {l:List (Int×Int)},Hab rs=some l->rs=l.map fun p=>[Eak p]
 |[],l,h=>by obtain rfl:=Option.some.inj h;rfl
 | r :: rs, l, h => by
  unfold Hab at h;split at h
  ·rename_i he;cases he
  ·rename_i a b r' he
   obtain⟨rfl,rfl⟩:=List.cons.inj he;rw[Obr]at h;obtain⟨l',h1,rfl⟩:=h;rw[Haa h1];rfl
  ·cases h
theorem Ga9:∀ l:List (Int×Int),Hab (l.map fun p=>[Eak p])=some l
 |[]=>rfl
 | p :: r => by
  show (Hab (r.map fun p=>[Eak p])).map ((p.1,p.2)::·)=_
  rw[Ga9 r];rfl
def Eaa:Nat:=1000000
def Da9:List D->Option (List D)
 |[.rows 1 rs]=>(Hab rs).bind fun l=>if l.length<=Eaa then some [.rows 1 ((vU id l).map fun p=>[Eak p])] else none
 |_=>none
section
open Go.Proofs Go.Shelf Go.Sort
variable {P:Program} {ρ:Ren} {own:Nat->Ow} {w:World}
theorem Rp.zero1 {r:Nat}{p:List Nat}{v:Value}{d:D}(h:Rp own w r p 0 v d):Rd (fun b=>own b=.frz) w v d:=by
 cases h with
 |sc h=>exact .sc h
 |hole v h1=>exact .hole v h1
 |fz h=>exact h
theorem xI {ds:List D}{bx:Nat->Addr}:∀ {b i q:Nat} {bs:List (Bool×List (BS×BO))},(bs.all (·.1))=true->kI own w ds bx b i q bs
 |b,i,q,[],_=>trivial
 | b, i, q, (ro, cs) :: bs, h => by
  simp only[Qbv,Obh]at h;simp only[kI];rw[if_pos h.1];exact xI h.2
theorem Iaa {α:Type}[Inhabited α](enc:α->Value)(gz off m:Nat)(dk:Array α)(os:Array Obj){b:Nat}(hb:b<w.heap.size)(cn:b≠gz):(sortWorld enc w gz off m dk os).heap[b]?=w.heap[b]?:=by
 unfold sortWorld;rw[heap_grow_old _ _ (by simpa using hb)];simp[putRow,mapBlock,Array.getElem?_modify,Ne.symm cn]
theorem Sa9 {α:Type}[Inhabited α](enc:α->Value)(gz off m:Nat)(dk:Array α)(os:Array Obj):w.heap.size<=(sortWorld enc w gz off m dk os).heap.size:=by
 unfold sortWorld;rw[size_grow];simp
theorem Ab8 {α:Type}{lt:α->α->Prop}:∀ {l:List α},(∀ i j (hi:i<l.length) (hj:j<l.length),i<j->lt l[i] l[j])->l.Pairwise lt:=fun h=>List.pairwise_iff_getElem.2 fun i j hi hj tD=>h i j hi hj tD
theorem Zam {a:Addr}(h:a.spot=none)(k:Nat):a.add k=⟨a.block,a.off+k,none⟩:=by
 cases a with
 | mk b o s =>
  obtain rfl:s=none:=h;unfold Addr.add;split
  ·rename_i h0;subst h0;rfl
  ·rfl
theorem Tah (L:SlLaysF.n6 P ρ){α β:Type}[Inhabited α](enc:α->Value)(b:α->β)(vu:β->D)(sA:β->Int×Int)(cf:α->α->Int)(s8:∀ x y,ltOf cf x y=ltQ (sA (b x)) (sA (b y)))
  {g:Nat} {cs:List LS} {bxs:List (Bool×List (BS×BO))} {vals:List Value} {G:Gh} {ds:List D} (ew:Wak ⟨ρ.f 6,[(false,[.mu 1]),(false,[.clo g cs])],bxs,[]⟩ vals w G ds)
  (pT:(bxs.all (·.1))=true) (eg:∀ args w,(callFunc g args).run P w=.ok (.enter g args) w)
  {v:Value} (hv:v=G.hdr 0) (cb:List Value) (a1j:vals=[v,.func (.func g) #[] cb.toArray])
  (pj:∀ gz off size,G.own gz=.slc 0 []->CmpLays1 P g cb.toArray enc cf gz off size w) (zz:∀ x,Rd (fun b=>G.own b=.frz) w (enc x) (vu (b x)))
  {a:Addr} {n c:Nat} (ev:v=.slice (some a) n c) (gC:a.spot=none) (a7:G.own a.block=.slc 0 []) (cG:∀ k,k<c->∃ u,w.cell? (a.add k)=some u/\w.frozen? (a.add k)=false)
  (hnc:n<=c) (hn:n<=Eaa) (lE:0<n) (xs:List α) (qu:xs.length=n) (oX:∀ i x,xs[i]?=some x->w.cell? (a.add i)=some (enc x)) (a4g:∀ x∈xs.map b,∀ y∈xs.map b,sA x=sA y->x=y) :
  Calls P (ρ.f 6) vals.toArray w fun e w'=>∃ u,e=.returned u/\Jax ⟨ρ.f 6,[(false,[.mu 1]),(false,[.clo g cs])],bxs,[]⟩ (mZ ⟨ρ.f 6,[(false,[.mu 1]),(false,[.clo g cs])],bxs,[]⟩ G w) G.bx u w' [.rows 1 ((vU sA (xs.map b)).map fun p=>[vu p])]:=by
 have tE:=Zam gC;have h1:OneCell enc:=fun x=>(zz x).one
 have hblk:a.block<w.heap.size:=by
  obtain⟨u,hu,-⟩:=cG 0 (by omega);have:=Jal hu;rwa[add_block]at this
 have dm:xs.toArray.size=n:=by simpa using qu
 have hH:Holds enc w a.block a.off xs.toArray:=by
  intro j hj;rw[dm]at hj;have hjx:j<xs.length:=by omega
  have hx:=oX j xs[j] (by rw[Obl hjx]);obtain⟨u,hu,hf⟩:=cG j (by omega);rw[tE]at hx hf;refine⟨?_,hf⟩;rw[hx,getElem!_pos xs.toArray j (by simpa using hjx)];simp
 have hO:SWO (ltOf cf):=by
  refine⟨fun x=>?_,fun x y z h h'=>?_,fun x y z h h'=>?_⟩
  ·rw[s8,tN];omega
  ·rw[s8,Iay]at *;omega
  ·rw[s8,tN]at *;omega
 have hS:=Any.slices_SortFunc L enc h1 cf hO g cb.toArray a.block a.off c xs.toArray w eg (pj _ _ _ a7) hH hblk (by rw[dm];unfold Eaa at hn;omega)
 have ea:(⟨a.block,a.off,none⟩:Addr)=a:=by
  cases a with
  | mk b o s =>
   obtain rfl:s=none:=gC;rfl
 rw[dm,ea,<- ev]at hS;rw[a1j];refine hS.mono ?_
 rintro e w' ⟨rfl,d',m,os,hP,hSo,rfl⟩
 refine⟨_,rfl,?_⟩;obtain⟨np,-,u9⟩:=hP;rw[dm]at np;have e1:d'.extract 0 n=d':=by rw[<- np];exact Array.extract_size
 have e2:xs.toArray.extract 0 n=xs.toArray:=by rw[<- dm];exact Array.extract_size
 rw[e1,e2]at u9
 have uk:d'.toList.map b=vU sA (xs.map b):=by
  refine Kap sA (by simpa using u9.map b) ?_ a4g;refine Ab8 fun i j hi hj tD=>?_
  have fh:i<d'.size:=by simpa using hi
  have gq:j<d'.size:=by simpa using hj
  have:=hSo i j (Pby _) tD (by omega);rw[s8,getElem!_pos d' i fh,getElem!_pos d' j gq]at this;simpa using this
 have hlen:(vU sA (xs.map b)).length=n:=by rw[(oJ sA _).length_eq,Ob7,qu]
 have hH':Holds enc (sortWorld enc w a.block a.off m d' os) a.block a.off d':=by
  unfold sortWorld;refine holds_grow _ _ _ _ _ _ (by simpa using hblk) (holds_putRow enc _ _ _ xs.toArray d' hH (by rw[dm,np]))
 refine⟨{ G with own:=fun b=>if b=a.block then .slc 1 [] else G.own b },[],rfl,?_,rfl,⟨?_,trivial⟩,xI pT⟩
 ·refine⟨rfl,rfl,rfl,Sa9 enc _ _ _ _ _,fun b hb ho=>?_,fun b j hb ho=>?_,fun b hb=>?_⟩
  ·have cn:b≠a.block:=by rintro rfl;change G.own a.block=_\/G.own a.block=_ at ho;rw[a7]at ho;rcases ho with h|h<;>cases h
   exact⟨Iaa enc _ _ _ _ _ hb cn,if_neg cn⟩
  ·have cn:b≠a.block:=by rintro rfl;change G.own a.block=_ at ho;rw[a7]at ho;cases ho
   obtain⟨-,c0,e0,fr,xz⟩:=ew.cells b j hb ho;refine⟨(if_neg cn).trans ho,c0,c0,e0,fr,xz,(Iaa enc _ _ _ _ _ hb cn).trans xz,rfl,fun _ _=>rfl⟩
  ·have h0:=Pbl (Sa9 enc a.block a.off m d' os) hb
   show (if b=a.block then _ else _)=_
   rw[if_neg (by omega)];exact ew.fresh b h0
 ·show Rp _ _ _ _ _ (G.hdr 0) _
  rw[<- hv,ev]
  have j9:∀ i p,(vU sA (xs.map b))[i]?=some p->∃ x,d'[i]?=some x/\b x=p/\i<d'.size:=by
   intro i p hi;rw[<- uk,Ob5,Obr]at hi;obtain⟨x,hx,rfl⟩:=hi;rw[Array.getElem?_toList]at hx;exact⟨x,hx,rfl,(Array.getElem?_eq_some_iff.1 hx).1⟩
  refine .sl (some a) a n c 1 _ (fun i _=>enc d'[i]!) (by rw[Ob7,hlen]) hnc (.inl rfl) (by simp) (fun _=>⟨gC,if_pos rfl,fun k hk=>?_⟩) (fun i row hi j d hj=>?_) (fun i row hi j d hj=>?_)
  ·rw[Nat.mul_one]at hk
   rcases Ob2 k n with sL|sL
   ·obtain⟨h3,h4⟩:=hH' k (by omega)
    rw[tE];exact⟨_,h3,h4⟩
   ·obtain⟨u,hu,hf⟩:=cG k hk
    rw[tE]at hu hf ⊢;refine⟨u,?_,?_⟩
    ·unfold sortWorld
     rw[cell?_grow _ _ _ (by simpa using hblk),cell?_putRow_other _ _ _ _ _ _ (.inr (.inr (by simp only[np];omega)))];exact hu
    ·unfold sortWorld
     rw[frozen?_grow _ _ _ (by simpa using hblk),frozen?_putRow];exact hf
  ·rw[Ob5,Obr]at hi
   obtain⟨p,hp,rfl⟩:=hi;obtain⟨x,hx,-,ar⟩:=j9 i p hp
   cases j with
   |succ j=>simp at hj
   | zero =>
    rw[Nat.mul_one,Pbb,tE];exact (hH' i ar).1
  ·rw[Ob5,Obr]at hi
   obtain⟨p,hp,rfl⟩:=hi;obtain⟨x,hx,hb,ar⟩:=j9 i p hp
   cases j with
   |succ j=>simp at hj
   | zero =>
    simp only[List.getElem?_cons_zero,Option.some.injEq]at hj;subst hj
    have ex:d'[i]! = x:=by
     rw[getElem!_pos d' i ar];exact (Array.getElem?_eq_some_iff.1 hx).2
    rw[ex,<- hb];refine .fz ((zz x).mono' fun b hb ar=>?_);have cn:b≠a.block:=by rintro rfl;rw[a7]at hb;cases hb
    exact⟨(if_neg cn).trans hb,Iaa enc _ _ _ _ _ ar cn⟩
end
section
open Go.Proofs Go.Shelf Go.Sort
variable {P:Program} {ρ:Ren} {own:Nat->Ow} {w:World}
theorem Bbc {f g:Nat}{cs:List LS}{bxs:List (Bool×List (BS×BO))}{vals:List Value}{G:Gh}{ds:List D}(ew:Wak ⟨f,[(false,[.mu 1]),(false,[.clo g cs])],bxs,[]⟩ vals w G ds)
  (pT:(bxs.all (·.1))=true) {d:D} (h:Rp G.own w 0 [] 1 (G.hdr 0) d) :
  Jax ⟨f,[(false,[.mu 1]),(false,[.clo g cs])],bxs,[]⟩ (mZ ⟨f,[(false,[.mu 1]),(false,[.clo g cs])],bxs,[]⟩ G w) G.bx (.tuple #[]) w [d]:=by
 let ir:Nat->Ow:=fun b=>match G.own b with
  |.slc s p=>if s=0 then (if p.length<1 then .slc 1 p else .frz) else .slc s p
  |o=>o
 refine⟨{ G with own:=ir },[],rfl,⟨rfl,rfl,rfl,Oby _,fun b hb ho=>⟨rfl,?_⟩,fun b j hb ho=>?_,fun b hb=>?_⟩,rfl,⟨?_,trivial⟩,xI pT⟩
 ·change G.own b=_\/G.own b=_ at ho
  show ir b=G.own b
  rcases ho with ho|ho<;>simp only[ir,ho]
 ·change G.own b=_ at ho
  obtain⟨-,c0,e0,fr,xz⟩:=ew.cells b j hb ho;refine⟨?_,c0,c0,e0,fr,xz,xz,rfl,fun _ _=>rfl⟩;show ir b=_
  simp only[ir,ho]
 ·show ir b=_
  simp only[ir,ew.fresh b hb]
 ·show Rp ir w 1 [] 1 (G.hdr 0) d
  refine h.move (fun b hb _=>⟨by simp only[ir,hb],rfl⟩) [] 1 (Oby _) fun b t hb=>⟨?_,rfl⟩
  simp only[List.nil_append]at hb ⊢;simp only[ir,hb,if_true]
def Jar (P:Program)(g:Nat):Prop :=
 ∀ (a b:Addr) (ca cb:Nat) (x y:Int×Int) (w:World),w.cell? a=some (.int .i64 x.1)->w.cell? (a.add 1)=some (.int .i64 x.2)->w.cell? b=some (.int .i64 y.1)->w.cell? (b.add 1)=some (.int .i64 y.2) ->
  Calls P g #[.slice (some a) 2 ca,.slice (some b) 2 cb] w fun e w'=>e=.returned (.int .i64 (Oap x y))/\∃ q os,w'=grow (w.drewN q) os
def Qan (own:Nat->Ow)(w:World)(v:Value)(p:Int×Int):Prop :=
 ∃ a c,v=.slice (some a) 2 c/\2<=c/\own a.block=.frz/\w.cell? a=some (.int .i64 p.1)/\w.cell? (a.add 1)=some (.int .i64 p.2)
theorem Uat {v:Value}{p:Int×Int}(h:Rd (fun b=>own b=.frz) w v (Eak p)):Qan own w v p:=by
 obtain⟨A,a,n,c,vs,rfl,hn,hc,hA,dm,bc,b5⟩:=h.inv;obtain rfl:n=2:=hn.symm;obtain rfl:A=some a:=hA.resolve_left (by omega);obtain⟨h1,h2⟩:=bc 0 _ rfl 0 _ rfl;obtain⟨-,h3⟩:=bc 1 _ rfl 0 _ rfl;have h4:=b5 0 _ rfl 0 _ rfl;have h5:=b5 1 _ rfl 0 _ rfl;have e0:a.add 0=a:=if_pos rfl;simp only[Nat.zero_mul,Pbb,Nat.one_mul,e0]at h2 h3;generalize vs 0 0=u0 at h2 h4;generalize vs 1 0=u1 at h3 h5;obtain rfl:u0=.int .i64 p.1:=by cases h4 with|sc h=>cases h;rfl
 obtain rfl:u1=.int .i64 p.2:=by cases h5 with|sc h=>cases h;rfl
 exact⟨a,c,rfl,hc,h1,h2,h3⟩
theorem Qan.rd {v:Value}{p:Int×Int}(h:Qan own w v p):Rd (fun b=>own b=.frz) w v (Eak p):=by
 obtain⟨a,c,rfl,hc,ho,h1,h2⟩:=h;have e0:a.add 0=a:=if_pos rfl;refine .rows (some a) a 2 c 1 _ (fun i _=>if i=0 then .int .i64 p.1 else .int .i64 p.2) rfl hc (.inr rfl) (by simp) (fun i r hi j d hj=>?_) (fun i r hi j d hj=>?_)
 ·match i,j with
  |0,0=>exact⟨ho,by simpa[e0] using h1⟩
  |1,0=>exact⟨ho,by simpa using h2⟩
  |0,j+1=>simp at hi;subst hi;simp at hj
  |1,j+1=>simp at hi;subst hi;simp at hj
  |i+2,_=>simp at hi
 ·match i,j with
  |0,0=>simp at hi;subst hi;simp at hj;subst hj;exact .sc (.int _ _)
  |1,0=>simp at hi;subst hi;simp at hj;subst hj;exact .sc (.int _ _)
  |0,j+1=>simp at hi;subst hi;simp at hj
  |1,j+1=>simp at hi;subst hi;simp at hj
  |i+2,_=>simp at hi
theorem Rp.sl1 {v:Value}{sz:Nat}{rs:List (List D)}(h:Rp own w 0 [] 1 v (.rows sz rs)):∃ (A:Option Addr) (a:Addr) (n c:Nat) (vs:Nat->Nat->Value),v=.slice A n c/\rs.length=n/\n<=c/\(A=some a\/(A=none/\c=0))/\(∀ r∈rs,r.length=sz) /\
  (A=some a->a.spot=none/\own a.block=.slc 0 []/\∀ k,k<c*sz->∃ u,w.cell? (a.add k)=some u/\w.frozen? (a.add k)=false) /\
  (∀ i row,rs[i]?=some row->∀ j d,row[j]?=some d->w.cell? (a.add (i*sz+j))=some (vs i j))/\∀ i row,rs[i]?=some row->∀ j d,row[j]?=some d->Rd (fun b=>own b=.frz) w (vs i j) d:=by
 obtain⟨A,a,n,c,vs,e1,e2,e3,e4,e5,e6,e7,e8⟩:=h.sl_inv;exact⟨A,a,n,c,vs,e1,e2,e3,e4,e5,e6,e7,fun i row hi j d hj=>(e8 i row hi j d hj).zero1⟩
theorem Xau (L : SlLaysF.n6 P ρ) {g : Nat} {fn : Func} {c : Code} (hg : P.funcs[g]? = some fn) (hname : (fn.name == "runtime.NumGoroutine") = false) (hb : fn.body = some c) (W : Jar P g) :
  Cbg P ⟨ρ.f 6,[(false,[.mu 1]),(false,[.clo g []])],[],[]⟩ Da9:=by
 intro vals w G ds gn ew hr;unfold Da9 at hr;split at hr
 case h_2=>cases hr
 rename_i rs;rw[Option.bind_eq_some_iff]at hr;obtain⟨l,hl,hr⟩:=hr;split at hr
 case isFalse=>cases hr
 rename_i hlen;obtain rfl:=Option.some.inj hr;obtain⟨u,us,vs,rfl,⟨v,tM,rfl,⟨hv,fa⟩,rfl⟩,vq,u2,us2,vs2,rfl,⟨v2,vs3,rfl,⟨cb,rfl,yz⟩,rfl⟩,hsh2,fx⟩:=ew.params;simp only[Obp,if_false]at vq hsh2;obtain rfl:v=u:=by simpa using vq
 obtain rfl:Value.func (.func g) #[] cb.toArray=u2:=by simpa using hsh2
 simp only[kZ]at fx;subst fx;simp only[xQ]at yz;subst yz;have a0n:Rp G.own w 0 [] 1 v (.rows 1 rs):=fa;obtain⟨A,a,n,c,cv,dq,hn,a08,hA,dm,a7,bc,b5⟩:=a0n.sl1;obtain rfl:=Haa hl;rw[Ob7]at hn;obtain⟨nm,q5,hfn⟩:=L.f6;refine .inl ⟨kW hfn q5 rfl _ _,?_⟩
 rcases Nat.eq_zero_or_pos n with h0|lE
 ·subst h0
  obtain rfl:l=[]:=List.eq_nil_of_length_eq_zero hn;have h:=AnyF.slices_SortFunc_none (P:=P) (ρ:=ρ) { L with } A c (.func (.func g) #[] #[]) w;rw[dq];refine h.mono ?_
  rintro e w' ⟨rfl,rfl⟩
  exact Bbc ew rfl (hv▸a0n)
 ·obtain rfl:A=some a:=by
   rcases hA with h|⟨-,h⟩
   ·exact h
   ·omega
  obtain⟨gC,ov,cG⟩:=a7 rfl
  let α:={ x:Value×(Int×Int) // Qan G.own w x.1 x.2 }
  have hex:∀ i,i<n->∃ x:α,l[i]?=some x.1.2/\cv i 0=x.1.1:=by
   intro i hi;have fh:l[i]?=some (l[i]'(by omega)):=Obl (by omega);have hr:=b5 i [Eak (l[i]'(by omega))] (by rw[Ob5,fh];rfl) 0 _ rfl;exact⟨⟨(cv i 0,l[i]'(by omega)),Uat hr⟩,fh,rfl⟩
  obtain⟨xs,qu,oX⟩:=Oaa n hex
  haveI:Inhabited α:=⟨(hex 0 lE).choose⟩
  have a5o:xs.map (fun x:α=>x.1.2)=l:=by
   apply List.ext_getElem?;intro i;rw[Ob5]
   rcases Ob2 i n with hi|hi
   ·have hx:xs[i]?=some (xs[i]'(by omega)):=Obl (by omega)
    rw[hx];exact (oX i _ hx).1.symm
   ·rw[Pb2 (by omega),Pb2 (by omega)]
    rfl
  have oc:=Tah (w:=w) (G:=G) L (α:=α) (fun x=>x.1.1) (fun x=>x.1.2) Eak id (fun x y=>Oap x.1.2 y.1.2) (fun x y=>Bb0) (g:=g) ew rfl (fun args w=>kW hg hname hb args w) hv [] rfl
   (fun gz off size nf m os dk hs x y=>?_) (fun x=>x.2.rd) dq gC ov (fun k hk=>cG k (by omega)) a08 (by omega) lE xs qu (fun i x hx=>?_) (fun x _ y _ h=>h)
  ·rw[a5o]at oc
   refine oc.mono ?_
   rintro e w' ⟨u,rfl,h⟩
   exact h
  ·obtain⟨ax,cx,zf,hcx,tz,nF,nh⟩:=x.2
   obtain⟨ay,cy,xi,hcy,tR,yj,hy2⟩:=y.2
   have ja:∀ (b:Addr) (u:Value),G.own b.block=.frz->w.cell? b=some u->(sortWorld (fun x:α=>x.1.1) w gz off m dk os).cell? b=some u:=by
    intro b u ho hc;refine (eQ (Iaa _ _ _ _ _ _ (Jal hc) ?_)).trans hc;intro e;rw[e,nf]at ho;cases ho
   show Calls P g #[x.1.1,y.1.1] _ _
   rw[zf,xi];exact (W ax ay cx cy x.1.2 y.1.2 _ (ja _ _ tz nF) (ja _ _ (by rw[add_block];exact tz) nh) (ja _ _ tR yj) (ja _ _ (by rw[add_block];exact tR) hy2))
  ·obtain⟨h1,h2⟩:=oX i x hx
   have:=bc i [Eak x.1.2] (by rw[Ob5,h1];rfl) 0 _ rfl;rw[Nat.mul_one,Pbb,h2]at this;exact this
theorem Tai (L : SlLaysF.n6 P ρ) {f g key : Nat} {fn : Func} {c : Code} {T : Nat -> Ent} {ti : Nat -> Option TI} {sigs : List (Nat × Sig)} (hf : ρ.f 6 = f) (hg : P.funcs[g]? = some fn) (hname : (fn.name == "runtime.NumGoroutine") = false) (hb : fn.body = some c) (W : Jar P g)
  (hT:T key=.ext Da9):Saw P T ti sigs key ⟨f,[(false,[.mu 1]),(false,[.clo g []])],[],[]⟩:=by
 subst hf;exact .inr ⟨_,hT,Xau L hg hname hb W⟩
end
section
open Go.Proofs Go.Shelf Go.Sort
variable {P:Program} {ρ:Ren} {own:Nat->Ow} {w:World}
end
section
open Go.Proofs Go.Shelf Go.RowKit Go.Lib Go.Sort
variable {P:Program} {ρ:Ren}
set_option maxHeartbeats 4000000 in
set_option maxRecDepth 1000000 in
theorem Bby (L:SlLaysE0.n45 P ρ){K:Nat}{i0:TypeInfo}{z:Value}(nj:P.info? (ρ.t 23)=some i0)(xk:i0.zero=some z)(qe:i0.size=K)(wy:z.cells.size=K)(hK:0<K)(hzo:∀ u∈z.cells.toList,u.oneCell'=true)
  (z23:∀ w,(Go.sizeOf (ρ.t 23)).run P w=.ok K w) (gz off n cap i j:Nat) (w:World) (olds:List Value) (tU:olds.length=n*K) (tk:∀ k u,olds[k]?=some u->w.cell? ⟨gz,off+k,none⟩=some u) (ho1:∀ u∈olds,u.oneCell'=true)
  (cD:∀ k,k<cap*K->∃ u,w.cell? ⟨gz,off+k,none⟩=some u/\w.frozen? ⟨gz,off+k,none⟩=false) (a08:n<=cap) (hn:n<=4611686018427387904) (tD:i<=j) (hj:j<=n) :
  Calls P (ρ.f 45) #[.slice (some ⟨gz,off,none⟩) n cap,.int .i64 i,.int .i64 j] w fun e w'=>e=.returned (.slice (some ⟨gz,off,none⟩) (n-(j-i)) cap) /\
   ((i=j/\w'=w)\/(i<j/\w'=(w.drew.setCells gz (off+i*K) (olds.drop (j*K))).setCells gz (off+(i+(n-j))*K) (Builtin.zeroCells z.cells (n-(i+(n-j)))).toList)):=by
 have mixed:=L.mixed;have t0:=L.t0;have a0:=L.a0;have z0:=L.z0;have v0:=L.v0;have t3:=L.t3;have a3:=L.a3;have z3:=L.z3;have v3:=L.v3;have t4:=L.t4;have a4:=L.a4;have z4:=L.z4;have v4:=L.v4;have t22:=L.t22;have a22:=L.a22;have z22:=L.z22;have v22:=L.v22
 by_cases heq:i=j
 ·subst heq
  have h0:Calls P (ρ.f 45) #[.slice (some ⟨gz,off,none⟩) n cap,.int .i64 i,.int .i64 i] w fun e w'=>e=.returned (.slice (some ⟨gz,off,none⟩) n cap)/\w'=w:=by
   clear tk ho1 cD tU;obtain⟨_,_,FG⟩:=L.f45
   go_enter FG,SlBodyN.n45_ntmps ρ
   go_wp2
   all_goals (go_ret;exact⟨rfl,rfl⟩)
  refine h0.mono ?_
  rintro e w' ⟨rfl,rfl⟩
  exact⟨by rw[Nat.sub_self,Nat.sub_zero],.inl ⟨rfl,rfl⟩⟩
 ·have ar:i<j:=by omega
  obtain⟨news,n9⟩:∃ news,news=olds.drop (j*K):=⟨_,rfl⟩;have hlen:news.length=(n-j)*K:=by rw[n9,List.length_drop,tU,Nat.sub_mul]
  have hjc:cap≠j->j<cap:=by omega
  have hmul:∀ a b:Nat,a<=b->a*K<=b*K:=fun a b h=>Nat.mul_le_mul_right K h
  obtain⟨A,hA,oz⟩:∃ A:Addr,(if cap=j then (some (⟨gz,off,none⟩:Addr)) else some ⟨gz,off+j*K,none⟩)=some A/\Hid (∀ t u,news[t]?=some u->w.drew.cell? (A.add t)=some u):=by
   by_cases h:cap=j
   ·refine⟨⟨gz,off,none⟩,by simp[h],fun t u hu=>?_⟩
    have h0:news.length=0:=by rw[hlen,show n-j=0 by omega,Nat.zero_mul]
    rw[List.length_eq_zero_iff.1 h0]at hu;simp at hu
   ·refine⟨⟨gz,off+j*K,none⟩,by simp[h],fun t u hu=>?_⟩
    rw[n9,List.getElem?_drop]at hu;have:=tk _ u hu;rw[Addr.add_lit,show off+j*K+t=off+(j*K+t) by omega];exact this
  have s1:Hid (news.length=(n-j)*K):=hlen;have s2:Hid (∀ u∈news,u.oneCell'=true):=fun u hu=>ho1 u (List.mem_of_mem_drop (n9▸hu))
  have og:i*K+(n-j)*K<=cap*K:=by rw[<- Nat.add_mul];exact hmul _ _ (by omega)
  have s3:Hid (∀ t,t<news.length->(w.drew.cell? ⟨gz,off+i*K+t,none⟩).isSome=true/\w.drew.frozen? ⟨gz,off+i*K+t,none⟩=false):=by
   intro t ht;rw[hlen]at ht;obtain⟨u,h1,h2⟩:=cD (i*K+t) (by omega);rw[Ob0];exact⟨by show (w.cell? _).isSome=true;rw[h1];rfl,h2⟩
  obtain⟨W1,hW1⟩:∃ W1,W1=w.drew.setCells gz (off+i*K) news:=⟨_,rfl⟩
  have uz:∀ k,k<cap*K->∃ u,W1.cell? ⟨gz,off+k,none⟩=some u/\W1.frozen? ⟨gz,off+k,none⟩=false:=by
   intro k hk;obtain⟨u,h1,h2⟩:=cD k hk;rw[hW1];obtain⟨u',h3⟩:=lN (w:=w.drew) (B:=gz) (o:=off+i*K) (vs:=news) (b:=⟨gz,off+k,none⟩) (fun _=>rfl) (fun t ht=>(s3.out t ht).1) h1;exact⟨u',h3,by rw[World.frozen?_setCells];exact h2⟩
  generalize hZ:(Builtin.zeroCells z.cells (n-(i+(n-j)))).toList=Z;have hZl:Z.length=(n-(i+(n-j)))*K:=by rw[<- hZ];simp[Builtin.zeroCells,wy]
  have hZ1:∀ u∈Z,u.oneCell'=true:=by
   intro u hu;rw[<- hZ,Builtin.zeroCells,Array.mem_toList_iff,Array.mem_map]at hu;obtain⟨q,hq,rfl⟩:=hu;have ar:q % z.cells.size<z.cells.size:=Nat.mod_lt _ (by omega);rw[getElem!_pos z.cells _ ar];exact hzo _ (Array.getElem_mem_toList ar)
  have ju:∀ ty,(Builtin.clear_ #[ρ.t 22] ty #[.slice (some ⟨gz,off+(i+(n-j))*K,none⟩) (n-(i+(n-j))) (cap-(i+(n-j)))]).run P W1=.ok (.tuple #[]) (W1.setCells gz (off+(i+(n-j))*K) Z):=by
   intro ty
   have cG:∀ t,t<Z.length->∃ u,W1.cell? ⟨gz,off+(i+(n-j))*K+t,none⟩=some u/\W1.frozen? ⟨gz,off+(i+(n-j))*K+t,none⟩=false:=fun t ht=>by
    have h1:(i+(n-j))*K+(n-(i+(n-j)))*K<=cap*K:=by rw[<- Nat.add_mul];exact hmul _ _ (by omega)
    have:=uz ((i+(n-j))*K+t) (by omega);rwa[<- Ob0]at this
   have ba:=run_storeCells_cells (P:=P) gz (off+(i+(n-j))*K) Z 0 W1 (fun t ht=>by obtain⟨u,h1,-⟩:=cG t ht;rw[Pbb,h1];rfl) (fun t ht=>by rw[Pbb];exact (cG t ht).choose_spec.2) hZ1;obtain⟨q,hq⟩:∃ q,n-(i+(n-j))=q+1:=⟨n-(i+(n-j))-1,by omega⟩;rw[hq]at hZ ⊢;simp only[Pbb]at ba;simp[Builtin.clear_,run_underlying t22,jY nj xk,hZ,ba]
  have hW:Hid (W1=w.drew.setCells gz (off+i*K) news):=hW1;have hn':Hid (news=olds.drop (j*K)):=n9;have hic:i<=cap:=by omega
  have hjc:j<=cap:=by omega
  have hK0:Hid (0<K):=hK;clear hW1 n9 hlen uz cD tk ho1 tU hmul og hZ hZl hZ1 hK;obtain⟨_,_,FG⟩:=L.f45
  go_enter FG,SlBodyN.n45_ntmps ρ
  go_wp2_with fail
  go_region_law_o (refine step_append_room rfl (.tmp 22) (.tmp 25) (ρ.t 22) rfl (ρ.t 23) i0 K t22 nj qe gz off i cap (by simp[Act.eval,Act.put]) A (n-j) (cap-j) news (by simp[Act.eval,Act.put]) s1.out oz.out s2.out (by omega) s3.out ?_;rw[<- hW.out])
  go_wp2
  go_ret
  refine⟨by rw[show n-(j-i)=i+(n-j) by omega];rfl,.inr ⟨ar,?_⟩⟩;rw[hW.out,hn'.out]
end
section
open Go.Proofs Go.Shelf
variable {P:Program} {ρ:Ren}
end
class Enc (α:Type) where
 sz:Nat
 enc:α->List D
 len:∀ a,(enc a).length=sz
instance:Enc Int:=⟨1,fun n=>[i64 n],fun _=>rfl⟩
instance:Enc Bool:=⟨1,fun b=>[.bool b],fun _=>rfl⟩
instance:Enc (List UInt8):=⟨1,fun s=>[.str s],fun _=>rfl⟩
def rL {α:Type}[Enc α](xs:List α):D:=.rows (Enc.sz α) (xs.map Enc.enc)
instance {α:Type} [Enc α]:Enc (List α):=⟨1,fun xs=>[rL xs],fun _=>rfl⟩
def InB {α:Type}(xs:List α)(k:Int):Prop:=0<=k/\k<xs.length
def atI {α:Type}[Inhabited α](xs:List α)(k:Int):α:=xs.getD k.toNat default
def lH {α:Type}(xs:List α)(k:Int)(a:α):List α:=xs.set k.toNat a
theorem aP {α:Type}{xs:List α}{i:Nat}:InB xs (i:Int)↔i<xs.length:=by unfold InB;omega
theorem Oat {α:Type}[Inhabited α]{xs:List α}{i:Nat}:atI xs (i:Int)=xs.getD i default:=rfl
theorem cB {α:Type}[Inhabited α]{xs:List α}{i:Nat}(h:i<xs.length):atI xs (i:Int)=xs[i]:=by
 rw[Oat,Obo,Obl h];rfl
theorem InB.lt {α:Type}{xs:List α}{k:Int}(h:InB xs k):k.toNat<xs.length:=by unfold InB at h;omega
def tick:Nat:=0
def Mbh:Nat:=0
def iD {γ:Type}(c:Bool)(a b:γ):γ:=match c with
 |true=>a
 |false=>b
theorem Ra2 {γ:Type}{a b:γ}:iD true a b=a:=rfl
theorem Oaf {γ:Type}{a b:γ}:iD false a b=b:=rfl
@[congr] theorem Bbu {γ:Type} {c c':Bool} {a b:γ} (h:c=c') {dd:Nat} (hd:tick=dd):iD c a b=iD c' a b:=by rw[h]
theorem aC {γ:Type}{c:Bool}{a b r:γ}(h1:c=true->a=r)(h2:c=false->b=r):iD c a b=r:=by
 cases c with
 |true=>exact h1 rfl
 |false=>exact h2 rfl
section
variable {T:Nat->Ent} {β:Type}
@[congr] theorem Ibg {t:Tm β} {ρ fw:List D} (h:ρ=fw) {dd:Nat} (hd:tick=dd):Er T t ρ=Er T t fw:=by rw[h]
@[congr] theorem Abr {k:Tm β} {ρ fw:List D} {n:Nat} {a a':Option (List D)} (h:ρ=fw) (h2:a=a') {dd:Nat} (hd:tick=dd):stepT T k ρ n a=stepT T k fw n a':=by rw[h,h2]
@[congr] theorem Abk {i:Nat} {k:Tm β} {ρ fw:List D} {r r':Option (Kind×List D)} (h:ρ=fw) (h2:r=r') {dd:Nat} (hd:tick=dd):lL T i k ρ r=lL T i k fw r':=by rw[h,h2]
@[congr] theorem Ebc {p:aY} {xs xs':List D} (h:xs=xs') {dd:Nat} (hd:tick=dd):p.run xs=p.run xs':=by rw[h]
def nth:List D->Nat->D
 |[],_=>.undef
 |a::_,0=>a
 |_::r,n+1=>nth r n
theorem Ibz {a:D}{r:List D}:nth (a::r) 0=a:=rfl
theorem Iby {a:D}{r:List D}{n:Nat}:nth (a::r) (n+1)=nth r n:=rfl
theorem Pas (r:List D)(n:Nat):r.getD n .undef=nth r n:=by
 induction r generalizing n with
 |nil=>rfl
 | cons a r ih => cases n with
  |zero=>rfl
  |succ n=>exact ih n
def vals (ρ:List D):List aI->List D
 |[]=>[]
 |.v i::r=>nth ρ i::vals ρ r
 |.c d::r=>d::vals ρ r
@[congr] theorem Cbq {ρ fw:List D} {xs:List aI} (h:ρ=fw) {dd:Nat} (hd:tick=dd):vals ρ xs=vals fw xs:=by rw[h]
theorem uT (ρ:List D)(xs:List aI):xs.map (·.val ρ)=vals ρ xs:=by
 induction xs with
 |nil=>rfl
 | cons x xs ih =>
  rw[Ob1,ih]
  cases x with
  |v i=>show ρ.getD i .undef::_=_;rw[Pas];rfl
  |c d=>rfl
theorem Cb2 {ρ:List D}:vals ρ []=[]:=rfl
theorem Cb1 {ρ:List D}{i:Nat}{r:List aI}:vals ρ (.v i::r)=nth ρ i::vals ρ r:=rfl
theorem Cb3 {ρ:List D}{d:D}{r:List aI}:vals ρ (.c d::r)=d::vals ρ r:=rfl
def Qaq (ρ:List D):aI->D
 |.v i=>nth ρ i
 |.c d=>d
theorem Cb4 {ρ:List D}{i:Nat}:Qaq ρ (.v i)=nth ρ i:=rfl
theorem Cb5 {ρ:List D}{d:D}:Qaq ρ (.c d)=d:=rfl
theorem Ha5 (ρ:List D)(a:aI):a.val ρ=Qaq ρ a:=by
 cases a with
 |v i=>exact Pas ρ i
 |c d=>rfl
@[congr] theorem Cbr {ρ fw:List D} {a:aI} (h:ρ=fw) {dd:Nat} (hd:tick=dd):Qaq ρ a=Qaq fw a:=by rw[h]
theorem Cbm (k:Kind)(xs:List aI)(e:β)(ρ:List D):Er T (.leaf k xs e) ρ=some (k,vals ρ xs):=by rw[Cbk,uT]
theorem Jbi (p:aY)(xs:List aI)(n:Nat)(k:Tm β)(ρ:List D):Er T (.lt none p xs n k) ρ=stepT T k ρ n (p.run (vals ρ xs)):=by rw[Fbd,uT]
theorem Cbn (f:Nat)(xs:List aI)(n:Nat)(os:List aI)(k:Tm β)(ρ:List D):Er T (.call none f xs n os k) ρ=stepT T k ρ n (Fun T f (vals ρ xs)):=by rw[Zar,uT]
def xH (w:Bool)(a b:Option (Kind×List D))(c:D):Option (Kind×List D):=if gdR c w=true then a else b
@[congr] theorem Bbr {w:Bool} {a b:Option (Kind×List D)} {c c':D} (h:c=c') {dd:Nat} (hd:tick=dd):xH w a b c=xH w a b c':=by rw[h]
theorem Bbp {a b:Option (Kind×List D)}{c:Bool}:xH true a b (.bool c)=iD c a b:=by cases c<;>rfl
theorem Bbq {a b:Option (Kind×List D)}{c:Bool}:xH false a b (.bool c)=iD c b a:=by cases c<;>rfl
theorem Bbo {w:Bool}{a b:Option (Kind×List D)}:xH w a b .undef=b:=by simp[xH,gdR]
theorem Fbf (a:aI)(w:Bool)(p:aY)(xs:List aI)(n:Nat)(k:Tm β)(ρ:List D) :
  Er T (.lt (some (a,w)) p xs n k) ρ=xH w (stepT T k ρ n (p.run (vals ρ xs))) (Er T k (ρ++Ob3 n .undef)) (Qaq ρ a):=by
 rw[Fbc,ltT,xH,uT,Ha5]
theorem Zas (a:aI)(w:Bool)(f:Nat)(xs:List aI)(n:Nat)(os:List aI)(k:Tm β)(ρ:List D) :
  Er T (.call (some (a,w)) f xs n os k) ρ=xH w (stepT T k ρ n (Fun T f (vals ρ xs))) (Er T k (ρ++(Ob3 (n-os.length) .undef++vals ρ os))) (Qaq ρ a):=by
 rw[Zaq,Bb3,xH,uT,uT,Ha5]
def Ma9 {γ:Type}(a b:Option γ)(c:D):Option γ:=Mbc c a b
@[congr] theorem Abl {γ:Type} {a b:Option γ} {c c':D} (h:c=c') {dd:Nat} (hd:tick=dd):Ma9 a b c=Ma9 a b c':=by rw[h]
theorem Abm {γ:Type}{a b:Option γ}{c:Bool}:Ma9 a b (.bool c)=iD c a b:=by cases c<;>rfl
theorem Fbg (c:aI)(t e:Tm β)(ρ:List D):Er T (.ite c t e) ρ=Ma9 (Er T t ρ) (Er T e ρ) (Qaq ρ c):=by rw[Fbe,Ib3,Ma9,Ha5]
theorem Cbo (i:Nat)(t k:Tm β)(ρ:List D):Er T (.bind i t k) ρ=lL T i k ρ (Er T t ρ):=Cbl i t k ρ
theorem Qat {i:Nat}{k:Tm β}{ρ:List D}{c:Bool}{a b:Option (Kind×List D)}:lL T i k ρ (iD c a b)=iD c (lL T i k ρ a) (lL T i k ρ b):=by cases c<;>rfl
theorem Ma8 {i j:Nat}{k:Tm β}{ρ ds:List D}:lL T i k ρ (some (.yield j,ds))=if j=i then Er T k (ρ++ds) else some (.yield j,ds):=by
 by_cases h:j=i
 ·subst h;rw[Qas,if_pos rfl]
 ·rw[Xaq h,if_neg h]
noncomputable def fin (o:Option (Kind×List D)):Option (List D):=o.bind Lb8
theorem Yan {c:Bool}{a b:Option (Kind×List D)}:fin (iD c a b)=iD c (fin a) (fin b):=by cases c<;>rfl
theorem Bbv {ds:List D}:fin (some (.ret,ds))=some ds:=rfl
theorem aR {f:Nat}{t:Tm Unit}(h:T f=.tm t)(args:List D):Fun T f args=fin (Er T t args):=Jbh h args
theorem Jbc {ρ:List D}:ρ++[]=ρ:=List.append_nil ρ
theorem Jbd {a:D}{r s:List D}:(a::r)++s=a::(r++s):=rfl
theorem Jbe {s:List D}:[]++s=s:=rfl
theorem Abq {k:Tm β}{ρ ds:List D}{n:Nat}:stepT T k ρ n (some ds)=if ds.length=n then Er T k (ρ++ds) else none:=rfl
end
section
variable {α:Type} [Enc α]
theorem Ebg {xs:List α}:aY.len.run [rL xs]=some [i64 xs.length]:=by simp[rL,aY.run]
theorem Ebh {xs:List α}{k:Int}(h:InB xs k):aY.inb.run [rL xs,i64 k]=some []:=by
 unfold InB at h;simp only[rL,aY.run,Ob7];rw[if_pos ⟨h.1,h.2⟩]
def rowOf (off:Nat)(ks:List Bool)(r:List D):Option (List D):=if off+ks.length<=r.length/\Aa6 ks (r.drop off)=true then some ((r.drop off).take ks.length) else none
theorem oM [Inhabited α]{xs:List α}{k:Int}{sz off:Nat}{ks:List Bool}(hs:Enc.sz α=sz)(h:InB xs k):(aY.row sz off ks).run [rL xs,i64 k]=rowOf off ks (Enc.enc (atI xs k)):=by
 have h2:=h.lt;unfold InB at h;subst hs
 have e:xs[k.toNat]?=some (atI xs k):=by
  rw[Obl h2,atI,Obo,Obl h2];rfl
 simp only[rL,aY.run,Ob5,e,Pbj];simp only[true_and];rw[if_pos h.1];rfl
theorem wJ [Inhabited α]{xs:List α}{k:Int}{sz off n:Nat}{vs:List D}{a:α}(hs:Enc.sz α=sz)(hl:vs.length=n)(ho:off+n<=sz)(ha:Enc.enc a=(Enc.enc (atI xs k)).take off++vs++(Enc.enc (atI xs k)).drop (off+n))(h:InB xs k) :
  (aY.set sz off n).run (rL xs::i64 k::vs)=some [rL (lH xs k a)]:=by
 have h2:=h.lt;unfold InB at h;subst hs
 have e:xs[k.toNat]?=some (atI xs k):=by
  rw[Obl h2,atI,Obo,Obl h2];rfl
 simp only[rL,aY.run,Ob5,e,Pbj];simp only[true_and];rw[if_pos h.1,if_pos ⟨by rw[Enc.len];exact ho,hl⟩,<- ha,lH,List.map_set]
theorem xA {b:Nat}{n:Int}{zero:List D}{a:α}(ha:Enc.enc a=zero)(h:0<=n)(h2:n.toNat*b<=iB):(aY.make b zero).run [i64 n]=some [rL (Ob3 n.toNat a)]:=by
 simp only[aY.run];rw[if_pos ⟨h,h2⟩,rL,List.map_replicate,ha,<- Enc.len a,ha]
theorem Ka4 {sz b:Nat}{fl:Bool}{xs ys:List α}(hs:Enc.sz α=sz)(hf:fl=true->∀ a:α,(Enc.enc a).all D.isSc=true)(h:(xs.length+ys.length)*b<=iB):(aY.app sz b fl).run [rL xs,rL ys]=some [rL (xs++ys)]:=by
 subst hs
 have cD:(!fl||(xs.map Enc.enc++ys.map Enc.enc).all fun r=>r.all D.isSc)=true:=by
  cases fl with
  |false=>rfl
  | true =>
   rw[Pb5,Qbd,<- Qb0,List.all_map,Ob8];exact fun a _=>hf rfl a
 simp only[rL,aY.run,Ob7];rw[if_pos ⟨trivial,trivial,cD,h⟩,<- Qb0]
theorem Iao {sz b:Nat}{fl:Bool}{ys:List α}(hs:Enc.sz α=sz)(hf:fl=true->∀ a:α,(Enc.enc a).all D.isSc=true)(h:ys.length*b<=iB):(aY.app sz b fl).run [.rows sz [],rL ys]=some [rL ys]:=by
 have:=Ka4 (xs:=[]) (ys:=ys) (b:=b) hs hf (by simpa using h);subst hs;exact this
theorem Ebf {sz:Nat}{fl:Bool}{xs:List α}{lo hi:Int}(hs:Enc.sz α=sz)(hf:fl=true->∀ a:α,(Enc.enc a).all D.isSc=true)(h0:0<=lo)(h1:lo<=hi)(h2:hi<=xs.length):(aY.sub sz fl).run [rL xs,i64 lo,i64 hi]=some [rL ((xs.take hi.toNat).drop lo.toNat)]:=by
 subst hs
 have cD:(!fl||(xs.map Enc.enc).all fun r=>r.all D.isSc)=true:=by
  cases fl with
  |false=>rfl
  | true =>
   rw[Pb5,Qbd,List.all_map,Ob8];exact fun a _=>hf rfl a
 simp only[rL,aY.run,Ob7];rw[if_pos ⟨trivial,cD,h0,h1,h2⟩,<- List.map_take,<- List.map_drop]
theorem Ebi {xs:List α}:aY.emp.run [rL xs]=some [.bool xs.isEmpty]:=by simp[rL,aY.run]
theorem Ibw {x:α}{xs:List α}:aY.ne.run [rL (x::xs)]=some []:=by simp[rL,aY.run]
class Fits (α:Type) [Enc α] (m:Nat):Prop where
 fits:∀ a:α,(Enc.enc a).all (mU m)=true
theorem Ebj {m:Nat}[Fits α m]{xs:List α}:(aY.dep (m+1)).run [rL xs]=some []:=by
 have:mU (m+1) (rL xs)=true:=by
  unfold rL;simp only[mU,List.all_map,Ob8];intro a _;exact Fits.fits a
 simp only[aY.run,this,if_true]
end
instance {m:Nat}:Fits Int m:=⟨fun a=>by cases m<;>rfl⟩
instance {m:Nat}:Fits Bool m:=⟨fun a=>by cases m<;>rfl⟩
instance {m:Nat}:Fits (List UInt8) m:=⟨fun a=>by cases m<;>rfl⟩
theorem uC {α:Type}[Enc α]{m:Nat}[Fits α m](xs:List α):mU (m+1) (rL xs)=true:=by
 unfold rL;simp only[mU,List.all_map,Ob8];intro a _;exact Fits.fits a
instance {α:Type} [Enc α] {m:Nat} [Fits α m]:Fits (List α) (m+1):=⟨fun xs=>by
 show [rL xs].all (mU (m+1))=true
 simp[uC]⟩
theorem Xaz {a b:Int}:aY.min.run [i64 a,i64 b]=some [i64 (min a b)]:=by
 simp only[aY.run,Jac,Ebm,if_true,Obm,Pbj];congr 3;by_cases h:b<a
 ·rw[if_pos (by simpa using h)];omega
 ·rw[if_neg (by simpa using h)];omega
theorem Xa1 {a b:Int}:aY.max.run [i64 a,i64 b]=some [i64 (max a b)]:=by
 simp only[aY.run,Jac,Ebm,if_true,Obm,Pbj];congr 3;by_cases h:b>a
 ·rw[if_pos (by simpa using h)];omega
 ·rw[if_neg (by simpa using h)];omega
theorem Qav {a b:Int}(ha:-9223372036854775808<=a)(ha':a<=9223372036854775807)(hb:0<b):-9223372036854775808<=a.tdiv b/\a.tdiv b<=9223372036854775807:=by
 rcases Int.le_total 0 a with h|h
 ·have h1:=Int.tdiv_nonneg h (Int.le_of_lt hb)
  have h2:=Int.tdiv_le_self b h;omega
 ·have h1:(-a).tdiv b=-(a.tdiv b):=Int.neg_tdiv ..
  have h2:=Int.tdiv_nonneg (show 0<=-a by omega) (Int.le_of_lt hb);have h3:=Int.tdiv_le_self b (show 0<=-a by omega);omega
theorem Xay {a b:Int}(ha:0<=a)(ha':a<=9223372036854775807)(hb:0<b):(aY.bin .quo).run [i64 a,i64 b]=some [i64 (a / b)]:=by
 have h:=Qav (by omega) ha' hb;have cF:¬ b=0:=by omega
 rw[<- Int.tdiv_eq_ediv_of_nonneg ha];simp only[aY.run,Maw,zM,if_true,if_neg cF,Pbj,wrap_i64 h.1 h.2]
theorem Xax {a b:Int}(ha:0<=a)(hb:0<b):(aY.bin .rem).run [i64 a,i64 b]=some [i64 (a % b)]:=by
 have cF:¬ b=0:=by omega
 simp only[aY.run,Maw,zM,if_true,if_neg cF,Pbj,Int.tmod_eq_emod_of_nonneg ha]
theorem Mab:∀ xs ys:List Int,xs.length=ys.length->Ma3 (Ob3 xs.length 0) (xs.map i64) (ys.map i64)=some (decide (xs=ys))
 |[],[],_=>rfl
 | x :: xs, y :: ys, h => by
  have ih:=Mab xs ys (by simpa using h);simp only[Pbm,List.replicate_succ,Ob1,Ma3,eqD,if_true,Obm,ih,List.cons.injEq,Bool.decide_and];by_cases e:x=y
  ·simp[e]
  ·simp[e]
theorem Yar {p:Prop}[Decidable p](xs ys:List Int)(h:xs.length=ys.length)(hp:p↔xs=ys):(Ma3 (Ob3 xs.length 0) (xs.map i64) (ys.map i64)).map (fun b=>[D.bool b])=some [.bool (decide p)]:=by
 rw[Mab xs ys h,Pbj,decide_eq_decide.2 hp]
theorem Eb0 (i:Nat):((i+1:Nat):Int)=(i:Int)+1:=rfl
theorem SA:(∀ {T β} (k:Kind) (xs:List aI) (e:β) (ρ:List D),Er T (.leaf k xs e) ρ=some (k,vals ρ xs)) /\
  (∀ {T} {β:Type} (p:aY) (xs:List aI) (n:Nat) (k:Tm β) (ρ:List D),Er T (.lt none p xs n k) ρ=stepT T k ρ n (p.run (vals ρ xs))) /\
  (∀ {T} {β:Type} (f:Nat) (xs:List aI) (n:Nat) (os:List aI) (k:Tm β) (ρ:List D),Er T (.call none f xs n os k) ρ=stepT T k ρ n (Fun T f (vals ρ xs))) /\
  (∀ {T} {β:Type} (c:aI) (t e:Tm β) (ρ:List D),Er T (.ite c t e) ρ=Ma9 (Er T t ρ) (Er T e ρ) (Qaq ρ c)) /\
  (∀ {T} {β:Type} (i:Nat) (t k:Tm β) (ρ:List D),Er T (.bind i t k) ρ=lL T i k ρ (Er T t ρ)) /\
  (∀ {T} {β:Type} (a:aI) (w:Bool) (p:aY) (xs:List aI) (n:Nat) (k:Tm β) (ρ:List D),
   Er T (.lt (some (a,w)) p xs n k) ρ=xH w (stepT T k ρ n (p.run (vals ρ xs))) (Er T k (ρ++Ob3 n .undef)) (Qaq ρ a)) /\
  (∀ {T} {β:Type} (a:aI) (w:Bool) (f:Nat) (xs:List aI) (n:Nat) (os:List aI) (k:Tm β) (ρ:List D),
   Er T (.call (some (a,w)) f xs n os k) ρ=xH w (stepT T k ρ n (Fun T f (vals ρ xs))) (Er T k (ρ++(Ob3 (n-os.length) .undef++vals ρ os))) (Qaq ρ a)) :=
 ⟨Cbm,Jbi,Cbn,Fbg,Cbo,Fbf,Zas⟩
theorem SB:(tick=Mbh)/\(∀ {γ:Type} {c:Bool} {a b:γ},iD (!c) a b=iD c b a)/\(∀ {a b:Option (Kind×List D)} {c:Bool},xH true a b (.bool c)=iD c a b)/\(∀ {a b:Option (Kind×List D)} {c:Bool},xH false a b (.bool c)=iD c b a) /\
  (∀ {w:Bool} {a b:Option (Kind×List D)},xH w a b .undef=b)/\(∀ {γ:Type} {a b:Option γ} {c:Bool},Ma9 a b (.bool c)=iD c a b) /\
  (∀ {T} {β:Type} {i:Nat} {k:Tm β} {ρ:List D} {c:Bool} {a b:Option (Kind×List D)},lL T i k ρ (iD c a b)=iD c (lL T i k ρ a) (lL T i k ρ b)) /\
  (∀ {T} {β:Type} {i j:Nat} {k:Tm β} {ρ ds:List D},lL T i k ρ (some (.yield j,ds))=if j=i then Er T k (ρ++ds) else some (.yield j,ds)) /\
  (∀ {T} {β:Type} {i:Nat} {k:Tm β} {ρ ds:List D},lL T i k ρ (some (.ret,ds))=some (.ret,ds))/\(∀ {T} {β:Type} {i:Nat} {k:Tm β} {ρ ds:List D},lL T i k ρ (some (.cont,ds))=some (.cont,ds)) /\
  (∀ {c:Bool} {a b:Option (Kind×List D)},fin (iD c a b)=iD c (fin a) (fin b))/\(∀ {ds:List D},fin (some (.ret,ds))=some ds) /\
  (∀ {γ:Type} {a b:γ},iD true a b=a)/\(∀ {γ:Type} {a b:γ},iD false a b=b) :=
 ⟨rfl,by intro γ c a b;cases c<;>rfl,Bbp,Bbq,Bbo,Abm,Qat,Ma8,Sa4,Qau,Yan,Bbv,Ra2,Oaf⟩
theorem SC:(∀ {a:D} {r:List D},nth (a::r) 0=a)/\(∀ {a:D} {r:List D} {n:Nat},nth (a::r) (n+1)=nth r n) /\
  (∀ {ρ:List D},vals ρ []=[])/\(∀ {ρ:List D} {i:Nat} {r:List aI},vals ρ (.v i::r)=nth ρ i::vals ρ r)/\(∀ {ρ:List D} {d:D} {r:List aI},vals ρ (.c d::r)=d::vals ρ r) /\
  (∀ {ρ:List D} {i:Nat},Qaq ρ (.v i)=nth ρ i)/\(∀ {ρ:List D} {d:D},Qaq ρ (.c d)=d) /\
  (∀ {ρ:List D},ρ++[]=ρ)/\(∀ {a:D} {r s:List D},(a::r)++s=a::(r++s))/\(∀ {s:List D},[]++s=s) /\
  (∀ {T} {β:Type} {k:Tm β} {ρ ds:List D} {n:Nat},stepT T k ρ n (some ds)=if ds.length=n then Er T k (ρ++ds) else none) /\
  (∀ {α:Type} {a:α} {l:List α},(a::l).length=l.length+1)/\(∀ {α:Type},([]:List α).length=0)/\(∀ {α:Type} {x:α} {n:Nat},Ob3 (n+1) x=x::Ob3 n x)/\(∀ {α:Type} {x:α},Ob3 0 x=[]) :=
 ⟨Ibz,Iby,Cb2,Cb1,Cb3,Cb4,Cb5,Jbc,Jbd,Jbe,Abq,Pbm,List.length_nil,List.replicate_succ,List.replicate_zero⟩
theorem SP:(∀ {a b:Int},(aY.bin .lss).run [i64 a,i64 b]=some [.bool (decide (a<b))])/\(∀ {a b:Int},(aY.bin .gtr).run [i64 a,i64 b]=some [.bool (decide (b<a))]) /\
  (∀ {a b:Int},(aY.bin .leq).run [i64 a,i64 b]=some [.bool (decide (a<=b))])/\(∀ {a b:Int},(aY.bin .geq).run [i64 a,i64 b]=some [.bool (decide (b<=a))]) /\
  (∀ {a b:Int},(aY.bin .neq).run [i64 a,i64 b]=some [.bool (!(a==b))])/\(∀ {a b:Int},(aY.bin .eql).run [i64 a,i64 b]=some [.bool (a==b)]) /\
  (∀ {b:Bool},aY.not.run [.bool b]=some [.bool (!b)])/\(∀ {c:Bool} {a b:D},aY.pick.run [.bool c,a,b]=some [iD c a b])/\(∀ {a b:Bool},(aY.eqb true).run [.bool a,.bool b]=some [.bool (!(a==b))])/\(∀ {a b:Bool},(aY.eqb false).run [.bool a,.bool b]=some [.bool (a==b)]) /\
  (∀ {d:D},aY.id.run [d]=some [d])/\(∀ {α:Type} [Enc α] {xs:List α},aY.len.run [rL xs]=some [i64 xs.length]) /\
  (∀ {α:Type} [Enc α] {xs:List α} {k:Int},InB xs k->aY.inb.run [rL xs,i64 k]=some []) /\
  (∀ {a b:Int},aY.min.run [i64 a,i64 b]=some [i64 (min a b)])/\(∀ {a b:Int},aY.max.run [i64 a,i64 b]=some [i64 (max a b)]) /\
  (∀ {α:Type} [Enc α] {m:Nat} [Fits α m] {xs:List α},(aY.dep (m+1)).run [rL xs]=some []) :=
 ⟨Abw,Aby,Abx,Abz,Abv,Ab0,Abu,by intro c a b;cases c<;>rfl,Ab1,rfl,Ebb,Ebg,Ebh,Xaz,Xa1,Ebj⟩
set_option maxRecDepth 4000
structure Cak where
 kind:Int
 id:Int
 src:Int
 dst:Int
 amt:Int
 deriving DecidableEq
instance:Inhabited Cak:=⟨⟨0,0,0,0,0⟩⟩
instance:Enc Cak:=⟨5,fun x=>[i64 x.kind,i64 x.id,i64 x.src,i64 x.dst,i64 x.amt],fun _=>rfl⟩
instance {m:Nat}:Fits Cak m:=⟨fun x=>by cases m<;>rfl⟩
structure eU where
 seq:Int
 deps:(List Int)
 deriving DecidableEq
instance:Inhabited eU:=⟨⟨0,[]⟩⟩
instance:Enc eU:=⟨2,fun x=>[i64 x.seq,rL x.deps],fun _=>rfl⟩
theorem Vam (x:eU):Enc.enc x=[i64 x.seq,rL x.deps]:=rfl
instance {m:Nat}:Fits eU (m+1):=⟨fun x=>by
 rw[Vam];simp only[Qbv,Rbk,Qb8,Obh];refine⟨?_,?_⟩
 all_goals first|rfl|exact uC _⟩
structure dO where
 ballot:Int
 vote:Int
 state:Int
 cmd:Cak
 attr:eU
 deriving DecidableEq
instance:Inhabited dO:=⟨⟨0,0,0,default,default⟩⟩
instance:Enc dO:=⟨10,fun x=>[i64 x.ballot,i64 x.vote,i64 x.state,i64 x.cmd.kind,i64 x.cmd.id,i64 x.cmd.src,i64 x.cmd.dst,i64 x.cmd.amt,i64 x.attr.seq,rL x.attr.deps],fun _=>rfl⟩
theorem Yav (x:dO):Enc.enc x=[i64 x.ballot,i64 x.vote,i64 x.state,i64 x.cmd.kind,i64 x.cmd.id,i64 x.cmd.src,i64 x.cmd.dst,i64 x.cmd.amt,i64 x.attr.seq,rL x.attr.deps]:=rfl
instance {m:Nat}:Fits dO (m+1):=⟨fun x=>by
 rw[Yav];simp only[Qbv,Rbk,Qb8,Obh];refine⟨?_,?_,?_,?_,?_,?_,?_,?_,?_,?_⟩
 all_goals first|rfl|exact uC _⟩
structure aT where
 n:Int
 rows:(List (List dO))
 deriving DecidableEq
instance:Inhabited aT:=⟨⟨0,[]⟩⟩
instance:Enc aT:=⟨2,fun x=>[i64 x.n,rL x.rows],fun _=>rfl⟩
theorem Saa (x:aT):Enc.enc x=[i64 x.n,rL x.rows]:=rfl
instance {m:Nat}:Fits aT (m+3):=⟨fun x=>by
 rw[Saa];simp only[Qbv,Rbk,Qb8,Obh];refine⟨?_,?_⟩
 all_goals first|rfl|exact uC _⟩
structure gL where
 rep:Int
 no:Int
 ballot:Int
 phase:Int
 cmd:Cak
 first:eU
 attr:eU
 same:Bool
 who:(List Int)
 seen:(List dO)
 deriving DecidableEq
instance:Inhabited gL:=⟨⟨0,0,0,0,default,default,default,false,[],[]⟩⟩
instance:Enc gL:=⟨16,fun x=>[i64 x.rep,i64 x.no,i64 x.ballot,i64 x.phase,i64 x.cmd.kind,i64 x.cmd.id,i64 x.cmd.src,i64 x.cmd.dst,i64 x.cmd.amt,i64 x.first.seq,rL x.first.deps,i64 x.attr.seq,rL x.attr.deps,.bool x.same,rL x.who,rL x.seen],fun _=>rfl⟩
theorem Vak (x:gL):Enc.enc x=[i64 x.rep,i64 x.no,i64 x.ballot,i64 x.phase,i64 x.cmd.kind,i64 x.cmd.id,i64 x.cmd.src,i64 x.cmd.dst,i64 x.cmd.amt,i64 x.first.seq,rL x.first.deps,i64 x.attr.seq,rL x.attr.deps,.bool x.same,rL x.who,rL x.seen]:=rfl
instance {m:Nat}:Fits gL (m+2):=⟨fun x=>by
 rw[Vak];simp only[Qbv,Rbk,Qb8,Obh];refine⟨?_,?_,?_,?_,?_,?_,?_,?_,?_,?_,?_,?_,?_,?_,?_,?_⟩
 all_goals first|rfl|exact uC _⟩
structure mD where
 me:Int
 table:aT
 leads:(List gL)
 deriving DecidableEq
instance:Inhabited mD:=⟨⟨0,default,[]⟩⟩
instance:Enc mD:=⟨4,fun x=>[i64 x.me,i64 x.table.n,rL x.table.rows,rL x.leads],fun _=>rfl⟩
theorem Yaw (x:mD):Enc.enc x=[i64 x.me,i64 x.table.n,rL x.table.rows,rL x.leads]:=rfl
instance {m:Nat}:Fits mD (m+3):=⟨fun x=>by
 rw[Yaw];simp only[Qbv,Rbk,Qb8,Obh];refine⟨?_,?_,?_,?_⟩
 all_goals first|rfl|exact uC _⟩
structure nD where
 kind:Int
 src:Int
 dst:Int
 rep:Int
 no:Int
 ballot:Int
 vote:Int
 state:Int
 cmd:Cak
 attr:eU
 deriving DecidableEq
instance:Inhabited nD:=⟨⟨0,0,0,0,0,0,0,0,default,default⟩⟩
instance:Enc nD:=⟨15,fun x=>[i64 x.kind,i64 x.src,i64 x.dst,i64 x.rep,i64 x.no,i64 x.ballot,i64 x.vote,i64 x.state,i64 x.cmd.kind,i64 x.cmd.id,i64 x.cmd.src,i64 x.cmd.dst,i64 x.cmd.amt,i64 x.attr.seq,rL x.attr.deps],fun _=>rfl⟩
theorem Yay (x:nD):Enc.enc x=[i64 x.kind,i64 x.src,i64 x.dst,i64 x.rep,i64 x.no,i64 x.ballot,i64 x.vote,i64 x.state,i64 x.cmd.kind,i64 x.cmd.id,i64 x.cmd.src,i64 x.cmd.dst,i64 x.cmd.amt,i64 x.attr.seq,rL x.attr.deps]:=rfl
instance {m:Nat}:Fits nD (m+1):=⟨fun x=>by
 rw[Yay];simp only[Qbv,Rbk,Qb8,Obh];refine⟨?_,?_,?_,?_,?_,?_,?_,?_,?_,?_,?_,?_,?_,?_,?_⟩
 all_goals first|rfl|exact uC _⟩
structure bW where
 rep:Int
 no:Int
 cmd:Cak
 deriving DecidableEq
instance:Inhabited bW:=⟨⟨0,0,default⟩⟩
instance:Enc bW:=⟨7,fun x=>[i64 x.rep,i64 x.no,i64 x.cmd.kind,i64 x.cmd.id,i64 x.cmd.src,i64 x.cmd.dst,i64 x.cmd.amt],fun _=>rfl⟩
instance {m:Nat}:Fits bW m:=⟨fun x=>by cases m<;>rfl⟩
structure Bam where
 reps:(List mD)
 bag:(List nD)
 asked:(List bW)
 deriving DecidableEq
instance:Inhabited Bam:=⟨⟨[],[],[]⟩⟩
instance:Enc Bam:=⟨3,fun x=>[rL x.reps,rL x.bag,rL x.asked],fun _=>rfl⟩
theorem Yax (x:Bam):Enc.enc x=[rL x.reps,rL x.bag,rL x.asked]:=rfl
instance {m:Nat}:Fits Bam (m+4):=⟨fun x=>by
 rw[Yax];simp only[Qbv,Rbk,Qb8,Obh];refine⟨?_,?_,?_⟩
 all_goals first|rfl|exact uC _⟩
theorem Eb4:(∀ x:Cak,Cak.mk x.kind x.id x.src x.dst x.amt=x) /\
  (∀ x:eU,eU.mk x.seq x.deps=x) /\
  (∀ x:dO,dO.mk x.ballot x.vote x.state x.cmd x.attr=x) /\
  (∀ x:aT,aT.mk x.n x.rows=x) /\
  (∀ x:gL,gL.mk x.rep x.no x.ballot x.phase x.cmd x.first x.attr x.same x.who x.seen=x) /\
  (∀ x:mD,mD.mk x.me x.table x.leads=x) /\
  (∀ x:nD,nD.mk x.kind x.src x.dst x.rep x.no x.ballot x.vote x.state x.cmd x.attr=x) /\
  (∀ x:bW,bW.mk x.rep x.no x.cmd=x) /\
  (∀ x:Bam,Bam.mk x.reps x.bag x.asked=x) :=
 ⟨fun _=>rfl,
  fun _=>rfl,
  fun _=>rfl,
  fun _=>rfl,
  fun _=>rfl,
  fun _=>rfl,
  fun _=>rfl,
  fun _=>rfl,
  fun _=>rfl⟩
theorem aU:(∀ {xs:List Int} {k:Int},InB xs k->(aY.row 1 0 [true]).run [rL xs,i64 k]=some [i64 (atI xs k)]) /\
  (∀ {xs:List (List UInt8)} {k:Int},InB xs k->(aY.row 1 0 [true]).run [rL xs,i64 k]=some [.str (atI xs k)]) /\
  (∀ {xs:List (List Int)} {k:Int},InB xs k->(aY.row 1 0 [false]).run [rL xs,i64 k]=some [rL (atI xs k)]) /\
  (∀ {xs:List (List dO)} {k:Int},InB xs k->(aY.row 1 0 [false]).run [rL xs,i64 k]=some [rL (atI xs k)]) /\
  (∀ {xs:List (List (List Int))} {k:Int},InB xs k->(aY.row 1 0 [false]).run [rL xs,i64 k]=some [rL (atI xs k)]) /\
  (∀ {xs:List dO} {k:Int},InB xs k->(aY.row 10 0 [true,true,true,true,true,true,true,true,true,false]).run [rL xs,i64 k]=some [i64 (atI xs k).ballot,i64 (atI xs k).vote,i64 (atI xs k).state,i64 (atI xs k).cmd.kind,i64 (atI xs k).cmd.id,i64 (atI xs k).cmd.src,i64 (atI xs k).cmd.dst,i64 (atI xs k).cmd.amt,i64 (atI xs k).attr.seq,rL (atI xs k).attr.deps]) /\
  (∀ {xs:List gL} {k:Int},InB xs k->(aY.row 16 0 [true,true,true,true,true,true,true,true,true,true,false,true,false,true,false,false]).run [rL xs,i64 k]=some [i64 (atI xs k).rep,i64 (atI xs k).no,i64 (atI xs k).ballot,i64 (atI xs k).phase,i64 (atI xs k).cmd.kind,i64 (atI xs k).cmd.id,i64 (atI xs k).cmd.src,i64 (atI xs k).cmd.dst,i64 (atI xs k).cmd.amt,i64 (atI xs k).first.seq,rL (atI xs k).first.deps,i64 (atI xs k).attr.seq,rL (atI xs k).attr.deps,.bool (atI xs k).same,rL (atI xs k).who,rL (atI xs k).seen]) /\
  (∀ {xs:List gL} {k:Int},InB xs k->(aY.row 16 0 [true]).run [rL xs,i64 k]=some [i64 (atI xs k).rep]) /\
  (∀ {xs:List gL} {k:Int},InB xs k->(aY.row 16 1 [true]).run [rL xs,i64 k]=some [i64 (atI xs k).no]) /\
  (∀ {xs:List mD} {k:Int},InB xs k->(aY.row 4 0 [true,true,false,false]).run [rL xs,i64 k]=some [i64 (atI xs k).me,i64 (atI xs k).table.n,rL (atI xs k).table.rows,rL (atI xs k).leads]) /\
  (∀ {xs:List mD} {k:Int},InB xs k->(aY.row 4 1 [true,false]).run [rL xs,i64 k]=some [i64 (atI xs k).table.n,rL (atI xs k).table.rows]) /\
  (∀ {xs:List nD} {k:Int},InB xs k->(aY.row 15 0 [true,true,true,true,true,true,true,true,true,true,true,true,true,true,false]).run [rL xs,i64 k]=some [i64 (atI xs k).kind,i64 (atI xs k).src,i64 (atI xs k).dst,i64 (atI xs k).rep,i64 (atI xs k).no,i64 (atI xs k).ballot,i64 (atI xs k).vote,i64 (atI xs k).state,i64 (atI xs k).cmd.kind,i64 (atI xs k).cmd.id,i64 (atI xs k).cmd.src,i64 (atI xs k).cmd.dst,i64 (atI xs k).cmd.amt,i64 (atI xs k).attr.seq,rL (atI xs k).attr.deps]) /\
  (∀ {xs:List bW} {k:Int},InB xs k->(aY.row 7 0 [true,true,true,true,true,true,true]).run [rL xs,i64 k]=some [i64 (atI xs k).rep,i64 (atI xs k).no,i64 (atI xs k).cmd.kind,i64 (atI xs k).cmd.id,i64 (atI xs k).cmd.src,i64 (atI xs k).cmd.dst,i64 (atI xs k).cmd.amt]) :=
 ⟨fun h=>(oM rfl h),
  fun h=>(oM rfl h),
  fun h=>(oM rfl h),
  fun h=>(oM rfl h),
  fun h=>(oM rfl h),
  fun h=>(oM rfl h),
  fun h=>(oM rfl h),
  fun h=>(oM rfl h),
  fun h=>(oM rfl h),
  fun h=>(oM rfl h),
  fun h=>(oM rfl h),
  fun h=>(oM rfl h),
  fun h=>(oM rfl h)⟩
theorem Jaq:(∀ {xs:List Int} {k:Int} {v:Int},InB xs k->(aY.set 1 0 1).run [rL xs,i64 k,i64 v]=some [rL (lH xs k v)]) /\
  (∀ {xs:List (List UInt8)} {k:Int} {v:(List UInt8)},InB xs k->(aY.set 1 0 1).run [rL xs,i64 k,.str v]=some [rL (lH xs k v)]) /\
  (∀ {xs:List (List Int)} {k:Int} {v:(List Int)},InB xs k->(aY.set 1 0 1).run [rL xs,i64 k,rL v]=some [rL (lH xs k v)]) /\
  (∀ {xs:List (List dO)} {k:Int} {v:(List dO)},InB xs k->(aY.set 1 0 1).run [rL xs,i64 k,rL v]=some [rL (lH xs k v)]) /\
  (∀ {xs:List (List (List Int))} {k:Int} {v:(List (List Int))},InB xs k->(aY.set 1 0 1).run [rL xs,i64 k,rL v]=some [rL (lH xs k v)]) /\
  (∀ {xs:List dO} {k:Int} {fb ll jq cr dw cX cP cU ej:Int} {cY:(List Int)},InB xs k->(aY.set 10 0 10).run [rL xs,i64 k,i64 fb,i64 ll,i64 jq,i64 cr,i64 dw,i64 cX,i64 cP,i64 cU,i64 ej,rL cY]=some [rL (lH xs k ⟨fb,ll,jq,⟨cr,dw,cX,cP,cU⟩,⟨ej,cY⟩⟩)]) /\
  (∀ {xs:List gL} {k:Int} {ke od fb pL cr dw cX cP cU ka:Int} {jo:(List Int)} {ej:Int} {cY:(List Int)} {sa:Bool} {vl:(List Int)} {rh:(List dO)},InB xs k->(aY.set 16 0 16).run [rL xs,i64 k,i64 ke,i64 od,i64 fb,i64 pL,i64 cr,i64 dw,i64 cX,i64 cP,i64 cU,i64 ka,rL jo,i64 ej,rL cY,.bool sa,rL vl,rL rh]=some [rL (lH xs k ⟨ke,od,fb,pL,⟨cr,dw,cX,cP,cU⟩,⟨ka,jo⟩,⟨ej,cY⟩,sa,vl,rh⟩)]) /\
  (∀ {xs:List mD} {k:Int} {zo mb:Int} {jk:(List (List dO))} {p5:(List gL)},InB xs k->(aY.set 4 0 4).run [rL xs,i64 k,i64 zo,i64 mb,rL jk,rL p5]=some [rL (lH xs k ⟨zo,⟨mb,jk⟩,p5⟩)]) /\
  (∀ {xs:List nD} {k:Int} {qz vw uw ke od fb ll jq cr dw cX cP cU ej:Int} {cY:(List Int)},InB xs k->(aY.set 15 0 15).run [rL xs,i64 k,i64 qz,i64 vw,i64 uw,i64 ke,i64 od,i64 fb,i64 ll,i64 jq,i64 cr,i64 dw,i64 cX,i64 cP,i64 cU,i64 ej,rL cY]=some [rL (lH xs k ⟨qz,vw,uw,ke,od,fb,ll,jq,⟨cr,dw,cX,cP,cU⟩,⟨ej,cY⟩⟩)]) /\
  (∀ {xs:List bW} {k:Int} {ke od cr dw cX cP cU:Int},InB xs k->(aY.set 7 0 7).run [rL xs,i64 k,i64 ke,i64 od,i64 cr,i64 dw,i64 cX,i64 cP,i64 cU]=some [rL (lH xs k ⟨ke,od,⟨cr,dw,cX,cP,cU⟩⟩)]) :=
 ⟨fun h=>(wJ rfl rfl (by decide) rfl h),
  fun h=>(wJ rfl rfl (by decide) rfl h),
  fun h=>(wJ rfl rfl (by decide) rfl h),
  fun h=>(wJ rfl rfl (by decide) rfl h),
  fun h=>(wJ rfl rfl (by decide) rfl h),
  fun h=>(wJ rfl rfl (by decide) rfl h),
  fun h=>(wJ rfl rfl (by decide) rfl h),
  fun h=>(wJ rfl rfl (by decide) rfl h),
  fun h=>(wJ rfl rfl (by decide) rfl h),
  fun h=>(wJ rfl rfl (by decide) rfl h)⟩
theorem Obe:(∀ {v0:Int},(aY.mk 1 1).run [i64 v0]=some [rL [v0]]) /\
  (∀ {v0 v1:Int},(aY.mk 1 2).run [i64 v0,i64 v1]=some [rL [v0,v1]]) /\
  aY.ne.run []=none /\
  aY.ne.run []=none /\
  aY.ne.run []=none /\
  aY.ne.run []=none /\
  aY.ne.run []=none /\
  aY.ne.run []=none /\
  (∀ {v0:(List UInt8)},(aY.mk 1 1).run [.str v0]=some [rL [v0]]) /\
  (∀ {v0 v1:(List UInt8)},(aY.mk 1 2).run [.str v0,.str v1]=some [rL [v0,v1]]) /\
  aY.ne.run []=none /\
  aY.ne.run []=none /\
  aY.ne.run []=none /\
  aY.ne.run []=none /\
  aY.ne.run []=none /\
  aY.ne.run []=none /\
  (∀ {v0:(List Int)},(aY.mk 1 1).run [rL v0]=some [rL [v0]]) /\
  (∀ {v0:(List dO)},(aY.mk 1 1).run [rL v0]=some [rL [v0]]) /\
  (∀ {v0:(List (List Int))},(aY.mk 1 1).run [rL v0]=some [rL [v0]]) /\
  aY.ne.run []=none :=
 ⟨rfl,
  rfl,
  rfl,
  rfl,
  rfl,
  rfl,
  rfl,
  rfl,
  rfl,
  rfl,
  rfl,
  rfl,
  rfl,
  rfl,
  rfl,
  rfl,
  rfl,
  rfl,
  rfl,
  rfl⟩
theorem wU:(∀ {n:Int},0<=n->n<=100000000000->(aY.make 8 [(.int .i64 0)]).run [i64 n]=some [rL (Ob3 n.toNat (0:Int))]) /\
  aY.ne.run []=none /\
  aY.ne.run []=none /\
  (∀ {n:Int},0<=n->n<=100000000000->(aY.make 24 [(.rows 10 [])]).run [i64 n]=some [rL (Ob3 n.toNat ([]:(List dO)))]) /\
  aY.ne.run []=none /\
  aY.ne.run []=none /\
  (∀ {n:Int},0<=n->n<=100000000000->(aY.make 96 [(.int .i64 0),(.int .i64 0),(.int .i64 0),(.int .i64 0),(.int .i64 0),(.int .i64 0),(.int .i64 0),(.int .i64 0),(.int .i64 0),(.rows 1 [])]).run [i64 n]=some [rL (Ob3 n.toNat (default:dO))]) /\
  aY.ne.run []=none /\
  (∀ {n:Int},0<=n->n<=100000000000->(aY.make 192 [(.int .i64 0),(.int .i64 0),(.int .i64 0),(.int .i64 0),(.int .i64 0),(.int .i64 0),(.int .i64 0),(.int .i64 0),(.int .i64 0),(.int .i64 0),(.rows 1 []),(.int .i64 0),(.rows 1 []),(.bool false),(.rows 1 []),(.rows 10 [])]).run [i64 n]=some [rL (Ob3 n.toNat (default:gL))]) /\
  (∀ {n:Int},0<=n->n<=100000000000->(aY.make 64 [(.int .i64 0),(.int .i64 0),(.rows 1 []),(.rows 16 [])]).run [i64 n]=some [rL (Ob3 n.toNat (default:mD))]) /\
  (∀ {n:Int},0<=n->n<=100000000000->(aY.make 136 [(.int .i64 0),(.int .i64 0),(.int .i64 0),(.int .i64 0),(.int .i64 0),(.int .i64 0),(.int .i64 0),(.int .i64 0),(.int .i64 0),(.int .i64 0),(.int .i64 0),(.int .i64 0),(.int .i64 0),(.int .i64 0),(.rows 1 [])]).run [i64 n]=some [rL (Ob3 n.toNat (default:nD))]) /\
  (∀ {n:Int},0<=n->n<=100000000000->(aY.make 56 [(.int .i64 0),(.int .i64 0),(.int .i64 0),(.int .i64 0),(.int .i64 0),(.int .i64 0),(.int .i64 0)]).run [i64 n]=some [rL (Ob3 n.toNat (default:bW))]) /\
  aY.ne.run []=none :=
 ⟨fun h h2=>(xA rfl h (by unfold iB;omega)),
  rfl,
  rfl,
  fun h h2=>(xA rfl h (by unfold iB;omega)),
  rfl,
  rfl,
  fun h h2=>(xA rfl h (by unfold iB;omega)),
  rfl,
  fun h h2=>(xA rfl h (by unfold iB;omega)),
  fun h h2=>(xA rfl h (by unfold iB;omega)),
  fun h h2=>(xA rfl h (by unfold iB;omega)),
  fun h h2=>(xA rfl h (by unfold iB;omega)),
  rfl⟩
theorem Wac:(∀ {xs ys:List Int},xs.length+ys.length<=100000000000->(aY.app 1 8 true).run [rL xs,rL ys]=some [rL (xs++ys)]) /\
  (∀ {ys:List Int},ys.length<=100000000000->(aY.app 1 8 true).run [.rows 1 [],rL ys]=some [rL ys]) /\
  (∀ {xs ys:List (List Int)},xs.length+ys.length<=100000000000->(aY.app 1 24 false).run [rL xs,rL ys]=some [rL (xs++ys)]) /\
  (∀ {ys:List (List Int)},ys.length<=100000000000->(aY.app 1 24 false).run [.rows 1 [],rL ys]=some [rL ys]) /\
  (∀ {xs ys:List (List dO)},xs.length+ys.length<=100000000000->(aY.app 1 24 false).run [rL xs,rL ys]=some [rL (xs++ys)]) /\
  (∀ {ys:List (List dO)},ys.length<=100000000000->(aY.app 1 24 false).run [.rows 1 [],rL ys]=some [rL ys]) /\
  (∀ {xs ys:List (List (List Int))},xs.length+ys.length<=100000000000->(aY.app 1 24 false).run [rL xs,rL ys]=some [rL (xs++ys)]) /\
  (∀ {ys:List (List (List Int))},ys.length<=100000000000->(aY.app 1 24 false).run [.rows 1 [],rL ys]=some [rL ys]) :=
 ⟨fun h=>(Ka4 rfl (fun _ _=>rfl) (by unfold iB;omega)),
  fun h=>(Iao rfl (fun _ _=>rfl) (by unfold iB;omega)),
  fun h=>(Ka4 rfl (fun h=>by cases h) (by unfold iB;omega)),
  fun h=>(Iao rfl (fun h=>by cases h) (by unfold iB;omega)),
  fun h=>(Ka4 rfl (fun h=>by cases h) (by unfold iB;omega)),
  fun h=>(Iao rfl (fun h=>by cases h) (by unfold iB;omega)),
  fun h=>(Ka4 rfl (fun h=>by cases h) (by unfold iB;omega)),
  fun h=>(Iao rfl (fun h=>by cases h) (by unfold iB;omega))⟩
theorem Eb3:aY.ne.run []=none /\
  aY.ne.run []=none /\
  aY.ne.run []=none /\
  aY.ne.run []=none /\
  aY.ne.run []=none /\
  aY.ne.run []=none /\
  aY.ne.run []=none /\
  aY.ne.run []=none /\
  aY.ne.run []=none /\
  aY.ne.run []=none /\
  aY.ne.run []=none /\
  aY.ne.run []=none /\
  aY.ne.run []=none /\
  aY.ne.run []=none /\
  aY.ne.run []=none /\
  (∀ {xs:List bW} {lo hi:Int},0<=lo->lo<=hi->hi<=xs.length->(aY.sub 7 false).run [rL xs,i64 lo,i64 hi]=some [rL ((xs.take hi.toNat).drop lo.toNat)]) /\
  aY.ne.run []=none :=
 ⟨rfl,
  rfl,
  rfl,
  rfl,
  rfl,
  rfl,
  rfl,
  rfl,
  rfl,
  rfl,
  rfl,
  rfl,
  rfl,
  rfl,
  rfl,
  fun h0 h1 h2=>(Ebf rfl (fun h=>by cases h) h0 h1 h2),
  rfl⟩
theorem Ban:(∀ {mL tG p6 pk pw mA tS p4 pN pz:Int},(aY.eqs [0,0,0,0,0]).run [i64 mL,i64 tG,i64 p6,i64 pk,i64 pw,i64 mA,i64 tS,i64 p4,i64 pN,i64 pz]=some [.bool (decide ((⟨mL,tG,p6,pk,pw⟩:Cak)=⟨mA,tS,p4,pN,pz⟩))]) /\
  aY.ne.run []=none :=
 ⟨(fun {mL tG p6 pk pw mA tS p4 pN pz}=>Yar [mL,tG,p6,pk,pw] [mA,tS,p4,pN,pz] rfl (by simp[Cak.mk.injEq])),
  rfl⟩
section
variable {T:Nat->Ent} {β:Type} {α:Type} [Inhabited α]
inductive Rd1 (σ:Type) where
 |go (s:σ)
 |out (r:Kind×List D)
def zQ {σ:Type}(f:Nat->α->σ->Rd1 σ):Nat->List α->σ->Rd1 σ
 |_,[],s=>.go s
 | i, x :: xs, s => match f i x s with
  |.go s'=>zQ f (i+1) xs s'
  |.out r=>.out r
def Mb6 {σ:Type}(vs:Int->σ->List D)(i:Int):Rd1 σ->Kind×List D
 |.go s=>(.cont,vs (i+1) s)
 |.out r=>r
theorem Ebo {σ:Type}{body:Tm β}{ρ:List D}{init:List aI}(xs:List α)(vs:Int->σ->List D)(s0:σ)(f:Nat->α->σ->Rd1 σ)(inv:Nat->σ->Prop)(fin:σ->Kind×List D)
  (h0:init.map (·.val ρ)=vs 0 s0) (hi:inv 0 s0)
  (h1:∀ (i:Nat) s,i<xs.length->inv i s->Er T body (ρ++vs i s)=some (Mb6 vs i (f i (atI xs i) s))/\(∀ s',f i (atI xs i) s=.go s'->inv (i+1) s')/\∀ r,f i (atI xs i) s=.out r->r.1≠.cont)
  (h2:∀ s,inv xs.length s->Er T body (ρ++vs xs.length s)=some (fin s)/\(fin s).1≠.cont) :
  ∃ r,Er T (.loop init body) ρ=some r/\((∃ s,zQ f 0 xs s0=.go s/\inv xs.length s/\r=fin s)\/zQ f 0 xs s0=.out r):=by
 have key:=Na8 (T:=T) (body:=body) (ρ:=ρ) (γ:=Nat×σ) (fun c=>xs.length-c.1) (fun c=>c.1<=xs.length/\inv c.1 c.2/\zQ f c.1 (xs.drop c.1) c.2=zQ f 0 xs s0) (fun c=>vs (c.1:Int) c.2)
  (fun r=>(∃ s,zQ f 0 xs s0=.go s/\inv xs.length s/\r=fin s)\/zQ f 0 xs s0=.out r)
  (fun ⟨i,s⟩ ⟨hle,hv,hf⟩=>by
   simp only at hle hv hf ⊢
   rcases Ob2 i xs.length with ar|ma
   ·obtain⟨h3,h4,h5⟩:=h1 i s ar hv
    have hd:xs.drop i=atI xs i::xs.drop (i+1):=by
     rw[Pb9 ar,cB ar]
    rw[hd,zQ]at hf;refine⟨_,h3,?_⟩
    cases e:f i (atI xs i) s with
    | go s' =>
     rw[e]at hf;exact .inl ⟨rfl,(i+1,s'),⟨by simp only;omega,h4 s' e,hf⟩,by simp only;omega,rfl⟩
    | out r =>
     rw[e]at hf;exact .inr ⟨h5 r e,.inr hf.symm⟩
   ·obtain rfl:i=xs.length:=by omega
    obtain⟨h3,h4⟩:=h2 s hv;rw[List.drop_length,zQ]at hf;exact⟨_,h3,.inr ⟨h4,.inl ⟨s,hf.symm,hv,rfl⟩⟩⟩)
  xs.length (0,s0) (by simp) ⟨by simp,hi,by simp⟩ init h0
 exact key
theorem Ead {body:Tm β}{ρ:List D}(j:Nat)(n:Nat)(p:Nat->Bool)(r:List D)
  (h1:∀ i:Nat,i<n->p i=true->Er T body (ρ++[i64 i])=some (.cont,[i64 ((i:Int)+1)]))
  (h2:∀ i:Nat,i<n->p i=false->Er T body (ρ++[i64 i])=some (.ret,r))
  (h3:Er T body (ρ++[i64 n])=some (.yield j,[])) :
  Er T (.loop [.c (i64 0)] body) ρ=iD (sF p n) (some (.yield j,[])) (some (.ret,r)):=by
 have key:=Na8 (T:=T) (body:=body) (ρ:=ρ) (fun i=>n-i) (fun i=>i<=n/\∀ j,j<i->p j=true) (fun i=>[i64 (i:Nat)])
  (fun q=>(∀ j,j<n->p j=true)/\q=(.yield j,[])\/(∃ j,j<n/\p j=false)/\q=(.ret,r))
  (fun i ⟨hi,cD⟩=>by
   rcases Ob2 i n with ar|ma
   ·cases e:p i with
    | true => exact ⟨_, h1 i ar e, .inl ⟨rfl, i + 1, ⟨by omega, fun j hj => by
      rcases Ob2 j i with h|h
      ·exact cD j h
      ·obtain rfl:j=i:=by omega
       exact e⟩,by omega,rfl⟩⟩
    |false=>exact⟨_,h2 i ar e,.inr ⟨by simp,.inr ⟨⟨i,ar,e⟩,rfl⟩⟩⟩
   ·obtain rfl:i=n:=by omega
    exact⟨_,h3,.inr ⟨by simp,.inl ⟨cD,rfl⟩⟩⟩)
  n 0 (by omega) ⟨by omega,fun j hj=>by omega⟩ [.c (i64 0)] (by simp[aI.val])
 obtain⟨q,h4,h5⟩:=key;rw[h4]
 rcases h5 with ⟨h6,rfl⟩|⟨h6,rfl⟩
 ·rw[jD.2 h6];rfl
 ·rw[Bak.2 h6];rfl
theorem Qak (xs:List α)(p:α->Bool):sF (fun i=>p (atI xs i)) xs.length=xs.all p:=by
 cases e:xs.all p with
 | true =>
  rw[Ob8]at e;rw[jD];intro i hi;rw[cB hi];exact e _ (Qbp hi)
 | false =>
  rw[List.all_eq_false]at e;obtain⟨x,hx,hp⟩:=e;obtain⟨i,hi,rfl⟩:=Qb2 hx;exact Bak.2 ⟨i,hi,by rw[cB hi];simpa using hp⟩
theorem qY [DecidableEq α]{xs ys:List α}(hl:xs.length=ys.length):sF (fun i=>decide (atI xs i=atI ys i)) xs.length=decide (xs=ys):=by
 by_cases e:xs=ys
 ·subst e
  rw[decide_eq_true rfl,jD];exact fun i _=>decide_eq_true rfl
 ·rw[decide_eq_false e]
  cases h:sF (fun i=>decide (atI xs i=atI ys i)) xs.length with
  |false=>rfl
  | true =>
   rw[jD]at h;refine absurd (List.ext_getElem hl fun i h1 h2=>?_) e;have:=of_decide_eq_true (h i h1);rwa[cB h1,cB h2]at this
theorem zX {xs ys:List α}[DecidableEq α](h:¬ xs.length=ys.length):decide (xs=ys)=false:=decide_eq_false fun e=>h (by rw[e])
theorem Mbf {body:Tm β}{ρ:List D}(j:Nat)(xs:List α)(p:α->Bool)(r:List D)
  (h1:∀ i:Nat,i<xs.length->InB xs (i:Int)->decide ((i:Int)<xs.length)=true->p (atI xs i)=true->Er T body (ρ++[i64 i])=some (.cont,[i64 ((i:Int)+1)]))
  (h2:∀ i:Nat,i<xs.length->InB xs (i:Int)->decide ((i:Int)<xs.length)=true->p (atI xs i)=false->Er T body (ρ++[i64 i])=some (.ret,r))
  (h3:decide ((xs.length:Int)<xs.length)=false->Er T body (ρ++[i64 xs.length])=some (.yield j,[])) :
  Er T (.loop [.c (i64 0)] body) ρ=iD (xs.all p) (some (.yield j,[])) (some (.ret,r)):=by
 rw[Ead j xs.length (fun i=>p (atI xs i)) r (fun i hi hp=>h1 i hi (aP.2 hi) (by simp;omega) hp) (fun i hi hp=>h2 i hi (aP.2 hi) (by simp;omega) hp) (h3 (by simp)),Qak]
omit [Inhabited α] in
theorem Nas {body:Tm β}{ρ:List D}(j:Nat)(n:Nat)(p:Nat->Bool)(r:List D)
  (h1:∀ i:Nat,i<n->decide ((i:Int)<n)=true->Er T body (ρ++[i64 i])=iD (p i) (some (.cont,[i64 ((i:Int)+1)])) (some (.ret,r)))
  (h3:decide ((n:Int)<n)=false->Er T body (ρ++[i64 n])=some (.yield j,[])) :
  Er T (.loop [.c (i64 0)] body) ρ=iD (sF p n) (some (.yield j,[])) (some (.ret,r)) :=
 Ead j n p r (fun i hi hp=>by rw[h1 i hi (by simp;omega),hp];rfl) (fun i hi hp=>by rw[h1 i hi (by simp;omega),hp];rfl) (h3 (by simp))
theorem Eb2 {body:Tm β}{ρ:List D}(j:Nat)(xs:List α)(p:α->Bool)(r:List D)
  (h1:∀ i:Nat,i<xs.length->InB xs (i:Int)->decide ((i:Int)<xs.length)=true->atI xs (i:Int)∈xs->Er T body (ρ++[i64 i])=iD (p (atI xs i)) (some (.cont,[i64 ((i:Int)+1)])) (some (.ret,r)))
  (h3:decide ((xs.length:Int)<xs.length)=false->Er T body (ρ++[i64 xs.length])=some (.yield j,[])) :
  Er T (.loop [.c (i64 0)] body) ρ=iD (xs.all p) (some (.yield j,[])) (some (.ret,r)) :=
 Mbf j xs p r (fun i hi hb hl hp=>by rw[h1 i hi hb hl (by rw[cB hi];exact Qbp hi),hp];rfl) (fun i hi hb hl hp=>by rw[h1 i hi hb hl (by rw[cB hi];exact Qbp hi),hp];rfl) h3
def ixF (p:α->Bool)(xs:List α):Int:=match xs.findIdx? p with
 |some i=>i
 |none=>-1
omit [Inhabited α] in
theorem eP (p:α->Bool)(xs:List α):decide (0<=ixF p xs)=xs.any p:=by
 unfold ixF
 cases h:xs.findIdx? p with
 | none =>
  rw[List.findIdx?_eq_none_iff]at h
  have:xs.any p=false:=by
   rw[List.any_eq_false];exact fun x hx=>by simp[h x hx]
  rw[this];rfl
 | some i =>
  have:xs.any p=true:=by
   rw[List.findIdx?_eq_some_iff_getElem]at h;obtain⟨hi,hp,-⟩:=h;rw[List.any_eq_true];exact⟨_,Qbp hi,hp⟩
  rw[this];simp
theorem Ea9 {body:Tm β}{ρ:List D}(j:Nat)(xs:List α)(p:α->Bool)(rf:Int->List D)
  (h1:∀ i:Nat,i<xs.length->InB xs (i:Int)->decide ((i:Int)<xs.length)=true->p (atI xs i)=true->Er T body (ρ++[i64 i])=some (.ret,rf i))
  (h2:∀ i:Nat,i<xs.length->InB xs (i:Int)->decide ((i:Int)<xs.length)=true->p (atI xs i)=false->Er T body (ρ++[i64 i])=some (.cont,[i64 ((i:Int)+1)]))
  (h3:decide ((xs.length:Int)<xs.length)=false->Er T body (ρ++[i64 xs.length])=some (.yield j,[])) :
  Er T (.loop [.c (i64 0)] body) ρ=iD (xs.any p) (some (.ret,rf (ixF p xs))) (some (.yield j,[])):=by
 have cD:∀ (i:Nat) (ys:List α),zQ (fun (i:Nat) x (_:Unit)=>if p x then Rd1.out (.ret,rf i) else .go ()) i ys ()=match ys.findIdx? p with|some k=>.out (.ret,rf ((i+k:Nat):Int))|none=>.go ():=by
  intro i ys
  induction ys generalizing i with
  |nil=>rfl
  | cons y ys ih =>
   rw[zQ,List.findIdx?_cons]
   cases p y with
   |true=>simp
   | false =>
    simp only[Obp,if_false];rw[ih (i+1)]
    cases ys.findIdx? p with
    |none=>rfl
    |some k=>simp only[Pbj];congr 4;omega
 obtain⟨q,h4,h5⟩:=Ebo (T:=T) (body:=body) (ρ:=ρ) (init:=[.c (i64 0)]) xs (fun i (_:Unit)=>[i64 i]) () (fun i x _=>if p x then .out (.ret,rf i) else .go ()) (fun _ _=>True) (fun _=>(.yield j,[])) rfl trivial
  (fun i _ hi _=>by
   cases e:p (atI xs i) with
   |true=>exact⟨by rw[h1 i hi (aP.2 hi) (by simp;omega) e];rfl,fun _ _=>trivial,fun r h=>by simp at h;rw[<- h];simp⟩
   |false=>exact⟨by rw[h2 i hi (aP.2 hi) (by simp;omega) e];rfl,fun _ _=>trivial,fun r h=>by simp at h⟩)
  (fun _ _=>⟨h3 (by simp),by simp⟩)
 rw[h4,<- eP];rw[cD]at h5;unfold ixF
 cases e:xs.findIdx? p with
 | none =>
  rw[e]at h5
  rcases h5 with ⟨s,-,-,rfl⟩|h5
  ·rfl
  ·simp at h5
 | some k =>
  rw[e]at h5
  rcases h5 with ⟨s,h5,-⟩|h5
  ·simp at h5
  ·simp only[Nat.zero_add,Rd1.out.injEq]at h5
   rw[<- h5];simp[iD]
theorem at_mem {xs:List α}{i:Nat}(h:i<xs.length):atI xs (i:Int)∈xs:=by rw[cB h];exact Qbp h
omit [Inhabited α] in
theorem Na9 {body:Tm β}{ρ:List D}{init:List aI}(n:Nat)(vs:Nat->List D)(r:Kind×List D)(h0:init.map (·.val ρ)=vs 0)(hr:r.1≠.cont)
  (h1:∀ i:Nat,i<n->decide ((i:Int)<n)=true->Er T body (ρ++vs i)=some (.cont,vs (i+1)))
  (h2:decide ((n:Int)<n)=false->Er T body (ρ++vs n)=some r):Er T (.loop init body) ρ=some r:=by
 obtain⟨q,h3,rfl⟩:=Na8 (T:=T) (body:=body) (ρ:=ρ) (fun i=>n-i) (fun i=>i<=n) vs (fun q=>q=r)
  (fun i hi=>by
   rcases Ob2 i n with ar|ma
   ·exact⟨_,h1 i ar (by simp;omega),.inl ⟨rfl,i+1,by omega,by omega,rfl⟩⟩
   ·obtain rfl:i=n:=by omega
    exact⟨_,h2 (by simp),.inr ⟨hr,rfl⟩⟩) n 0 (by omega) (by omega) init h0
 exact h3
omit [Inhabited α] in
theorem Cbz {γ:Type}{body:Tm β}{ρ:List D}{init:List aI}(r:Kind×List D)(m:γ->Nat)(inv:γ->Prop)(vs:γ->List D)(c0:γ)(h0:init.map (·.val ρ)=vs c0)(hi:inv c0)(hr:r.1≠.cont)
  (h:∀ c,inv c->(∃ c',Er T body (ρ++vs c)=some (.cont,vs c')/\inv c'/\m c'<m c)\/Er T body (ρ++vs c)=some r):Er T (.loop init body) ρ=some r:=by
 obtain⟨q,h1,rfl⟩:=Na8 (T:=T) (body:=body) (ρ:=ρ) m inv vs (fun q=>q=r)
  (fun c hc=>by
   rcases h c hc with ⟨c',h2,h3,h4⟩|h2
   ·exact⟨_,h2,.inl ⟨rfl,c',h3,h4,rfl⟩⟩
   ·exact⟨_,h2,.inr ⟨hr,rfl⟩⟩) (m c0) c0 (Oby _) hi init h0
 exact h1
end
theorem take_at {α:Type}[Inhabited α]{xs:List α}{i:Nat}(h:i<xs.length):xs.take i++[atI xs (i:Int)]=xs.take (i+1):=by rw[List.take_succ_eq_append_getElem h,cB h]
theorem SQ:(∀ {a b:Int},-9223372036854775808<=a+b->a+b<=9223372036854775807->(aY.bin .add).run [i64 a,i64 b]=some [i64 (a+b)]) /\
  (∀ {a b:Int},-9223372036854775808<=a-b->a-b<=9223372036854775807->(aY.bin .sub).run [i64 a,i64 b]=some [i64 (a-b)]) /\
  (∀ {a b:Int},0<=a->a<=9223372036854775807->0<b->(aY.bin .quo).run [i64 a,i64 b]=some [i64 (a / b)])/\(∀ {a b:Int},0<=a->0<b->(aY.bin .rem).run [i64 a,i64 b]=some [i64 (a % b)]) :=
 ⟨Ab3,Abt,Xay,Xax⟩
theorem Cbb:(∀ {α:Type} [Inhabited α] {xs:List α} {k:Int} {a:α},InB xs k->atI (lH xs k a) k=a)/\(∀ {α:Type} {xs:List α} {k:Int} {a b:α},lH (lH xs k a) k b=lH xs k b) /\
  (∀ {α:Type} {xs:List α} {j k:Int} {a:α},InB (lH xs j a) k=InB xs k)/\(∀ {α:Type} {xs:List α} {j:Int} {a:α},(lH xs j a).length=xs.length):=by
 refine⟨?_,?_,?_,?_⟩
 ·intro α _ xs k a h
  have:=h.lt;rw[lH,atI,Obo,List.getElem?_set_self this];rfl
 ·intro α xs k a b
  rw[lH,lH,lH,List.set_set]
 ·intro α xs j k a
  unfold InB lH;rw[List.length_set]
 ·intro α xs j a
  exact List.length_set ..
def szL {α:Type}(f:α->Nat)(xs:List α):Nat:=xs.length+(xs.map f).sum
def szR (l:Int)(n:Nat):Int:=if (n:Int)<=l then l-n else -1
theorem Oa3 {α:Type}{f:α->Nat}{x:α}{xs:List α}:szL f (x::xs)=1+f x+szL f xs:=by simp[szL];omega
theorem fT {α:Type}{f:α->Nat}:∀ {xs:List α} {x:α},x∈xs->1+f x<=szL f xs
 |[],x,h=>by cases h
 | y :: ys, x, h => by
  rw[Oa3]
  rcases List.mem_cons.1 h with rfl|h
  ·omega
  ·have:=fT (f:=f) h
   omega
theorem dF {α:Type}{xs:List α}:szL (fun _=>0) xs=xs.length:=by
 have:∀ xs:List α,(xs.map fun _=>0).sum=0:=fun xs=>by
  induction xs with
  |nil=>rfl
  |cons x xs ih=>simp only[Ob1,List.sum_cons,ih]
 rw[szL,this];rfl
theorem gB {α:Type}{f:α->Nat}{xs:List α}:xs.length<=szL f xs:=by unfold szL;omega
section
variable {T:Nat->Ent} {β:Type} {α:Type} [Inhabited α]
theorem Kaa {body:Tm β}{ρ:List D}{a:aI}(xs:List α)(f:α->Nat)(l:Int)(h0:a.val ρ=i64 l)(hl:0<=l)(eW:l<=1048576)
  (h1:∀ (i:Nat) (m:Int),i<xs.length->InB xs (i:Int)->decide ((i:Int)<xs.length)=true->0<=m->m<=1048576->(f (atI xs i):Int)<=m->szR m (f (atI xs i))=m-f (atI xs i)->decide (m-(f (atI xs i):Int)<0)=false->Er T body (ρ++[i64 m,i64 i])=some (.cont,[i64 (m-f (atI xs i)),i64 ((i:Int)+1)]))
  (h2:∀ (i:Nat) (m:Int),i<xs.length->InB xs (i:Int)->decide ((i:Int)<xs.length)=true->0<=m->m<=1048576->m<f (atI xs i)->szR m (f (atI xs i))=-1->decide ((-1:Int)<0)=true->Er T body (ρ++[i64 m,i64 i])=some (.ret,[i64 (-1)]))
  (h3:∀ m:Int,decide ((xs.length:Int)<xs.length)=false->Er T body (ρ++[i64 m,i64 xs.length])=some (.yield 1,[i64 m])) :
  Er T (.loop [a,.c (i64 0)] body) ρ=iD (decide (((xs.map f).sum:Int)<=l)) (some (.yield 1,[i64 (l-(xs.map f).sum)])) (some (.ret,[i64 (-1)])):=by
 have cD:∀ (ys:List α) (i:Nat) (m:Int),0<=m->zQ (fun (_:Nat) x (m:Int)=>if (f x:Int)<=m then Rd1.go (m-f x) else .out (.ret,[i64 (-1)])) i ys m=if ((ys.map f).sum:Int)<=m then .go (m-(ys.map f).sum) else .out (.ret,[i64 (-1)]):=by
  intro ys
  induction ys with
  | nil =>
   intro i m hm;simp only[zQ,List.map_nil,List.sum_nil];rw[if_pos (by simpa using hm)];simp
  | cons y ys ih =>
   intro i m hm;simp only[zQ,Ob1,List.sum_cons];by_cases h:(f y:Int)<=m
   ·rw[if_pos h]
    simp only;rw[ih (i+1) _ (by omega)];by_cases h4:((ys.map f).sum:Int)<=m-f y
    ·rw[if_pos h4,if_pos (by omega)]
     congr 1;omega
    ·rw[if_neg h4,if_neg (by omega)]
   ·rw[if_neg h]
    simp only;rw[if_neg (by omega)]
 obtain⟨q,h4,h5⟩:=Ebo (T:=T) (body:=body) (ρ:=ρ) (init:=[a,.c (i64 0)]) xs (fun i (m:Int)=>[i64 m,i64 i]) l (fun _ x m=>if (f x:Int)<=m then .go (m-f x) else .out (.ret,[i64 (-1)])) (fun _ m=>0<=m/\m<=1048576) (fun m=>(.yield 1,[i64 m])) (by show [a.val ρ,_]=_;rw[h0];rfl) ⟨hl,eW⟩
  (fun i m hi hm=>by
   by_cases e:(f (atI xs i):Int)<=m
   ·rw[if_pos e]
    refine⟨h1 i m hi (aP.2 hi) (by simp;omega) hm.1 hm.2 e (by rw[szR,if_pos e]) (by simp;omega),fun s' h=>?_,fun r h=>by cases h⟩;simp only[Rd1.go.injEq]at h;omega
   ·rw[if_neg e]
    refine⟨h2 i m hi (aP.2 hi) (by simp;omega) hm.1 hm.2 (by omega) (by rw[szR,if_neg e]) rfl,fun s' h=>by simp at h,fun r h=>?_⟩;simp only[Rd1.out.injEq]at h;rw[<- h];simp)
  (fun m hm=>⟨h3 m (by simp),by simp⟩)
 rw[h4];rw[cD xs 0 l hl]at h5;by_cases h:((xs.map f).sum:Int)<=l
 ·rw[if_pos h]at h5
  rw[decide_eq_true h]
  rcases h5 with ⟨s,h5,-,rfl⟩|h5
  ·simp only[Rd1.go.injEq]at h5
   rw[<- h5];rfl
  ·cases h5
 ·rw[if_neg h]at h5
  rw[decide_eq_false h]
  rcases h5 with ⟨s,h5,-⟩|h5
  ·cases h5
  ·simp only[Rd1.out.injEq]at h5
   rw[<- h5];rfl
theorem Dar {body:Tm β}{ρ:List D}{a:aI}[Enc α](xs:List α)(h0:a.val ρ=rL (Ob3 xs.length (default:α)))
  (h1:∀ (i:Nat) (ys:List α),i<xs.length->InB xs (i:Int)->InB ys (i:Int)->decide ((i:Int)<xs.length)=true->Er T body (ρ++[rL ys,i64 i])=some (.cont,[rL (lH ys i (atI xs i)),i64 ((i:Int)+1)]))
  (h2:∀ ys:List α,decide ((xs.length:Int)<xs.length)=false->Er T body (ρ++[rL ys,i64 xs.length])=some (.yield 1,[rL ys])) :
  Er T (.loop [a,.c (i64 0)] body) ρ=some (.yield 1,[rL xs]):=by
 have key:=Na8 (T:=T) (body:=body) (ρ:=ρ) (fun i=>xs.length-i) (fun i=>i<=xs.length) (fun i=>[rL (upto default xs i),i64 (i:Nat)]) (fun q=>q=(.yield 1,[rL xs]))
  (fun i hi=>by
   rcases Ob2 i xs.length with ar|ma
   ·refine⟨_,h1 i (upto default xs i) ar (aP.2 ar) (aP.2 (by rw[Wao _ _ hi];exact ar)) (by simp;omega),.inl ⟨rfl,i+1,by omega,by omega,?_⟩⟩
    have:lH (upto default xs i) (i:Int) (atI xs i)=upto default xs (i+1):=by
     rw[lH];exact Wan default xs (by rw[cB ar];exact Obl ar)
    rw[this];simp
   ·obtain rfl:i=xs.length:=by omega
    refine⟨_,h2 _ (by simp),.inr ⟨by simp,?_⟩⟩;rw[Wap])
  xs.length 0 (by omega) (by omega) [a,.c (i64 0)] (by show [a.val ρ,_]=_;rw[h0,Say];rfl)
 obtain⟨q,h4,rfl⟩:=key;exact h4
def ctL {α:Type}(c:α->Nat)(xs:List α):Nat:=(xs.map c).sum
end
theorem nS {α:Type}{c f:α->Nat}{m:Nat}(hm:1<=m)(h:∀ x,c x<=m+m*f x):∀ xs:List α,ctL c xs<=m*szL f xs
 |[]=>by simp[ctL]
 | x :: xs => by
  have ih:=nS hm h xs;have h1:=h x;rw[Oa3];simp only[ctL,Ob1,List.sum_cons]at ih ⊢;rw[Nat.mul_add,Nat.mul_add];omega
theorem lt0 {k:Int}(h:0<=k):decide (k<0)=false:=by simp;omega
theorem Ib2:decide ((-1:Int)<0)=true:=rfl
theorem Bal {α:Type}[Enc α]{fY:List Ty}{bytes:Nat}{P:α->Prop}{d:D}(hs:fY.length=Enc.sz α)(hd:∀ ds,WTs fY ds->∃ a:α,ds=Enc.enc a/\P a)(h:WT (.sl bytes fY) d):∃ xs:List α,d=rL xs/\xs.length*bytes<=reachBytes/\∀ x∈xs,P x:=by
 simp only[WT]at h;obtain⟨rs,rfl,h1,h2⟩:=h
 have key:∀ rs:List (List D),(∀ r∈rs,WTs fY r)->∃ xs:List α,rs=xs.map Enc.enc/\∀ x∈xs,P x:=by
  intro rs
  induction rs with
  |nil=>exact fun _=>⟨[],rfl,by simp⟩
  | cons r rs ih =>
   intro h;obtain⟨xs,hx,hp⟩:=ih fun r hr=>h r (Obq _ hr)
   obtain⟨a,ha,hpa⟩:=hd r (h r Obu);exact⟨a::xs,by rw[hx,ha];rfl,by simpa using ⟨hpa,hp⟩⟩
 obtain⟨xs,rfl,hp⟩:=key rs h2;exact⟨xs,by rw[hs];rfl,by simpa using h1,hp⟩
theorem bV {d:D}(h:WT (.int .i64) d):∃ n:Int,d=i64 n/\-9223372036854775808<=n/\n<=9223372036854775807:=by
 obtain⟨n,rfl,h1,h2⟩:=h;exact⟨n,rfl,h1,h2⟩
theorem Cba {d:D}(h:WT .bool d):∃ b:Bool,d=.bool b:=h
theorem gF {n b:Nat}(h:n*b<=reachBytes)(hb:0<b):n<=reachBytes:=Pbl (Nat.le_mul_of_pos_right n hb) h
theorem Bad (ds:List D)(h:WTs [.int .i64] ds):∃ x:Int,ds=Enc.enc x/\True:=by
 simp only[WTs]at h;obtain⟨d,r,rfl,w,rfl⟩:=h;obtain⟨x,rfl,-,-⟩:=bV w;exact⟨x,rfl,trivial⟩
theorem Ebz (ds:List D)(h:WTs [.sl 8 [.int .i64]] ds):∃ x:(List Int),ds=Enc.enc x/\x.length<=140737488351232:=by
 simp only[WTs]at h;obtain⟨d,r,rfl,w,rfl⟩:=h;obtain⟨x,rfl,l,p⟩:=Bal (α:=Int) (P:=fun _=>True) rfl Bad w;exact⟨x,rfl,gF l (by decide)⟩
def Bae (x:Cak):Nat:=1+1+1+1+1
theorem Dae (x:Cak):Bae x=5:=by
 unfold Bae
 try omega
def aK (x:eU):Nat:=szL (fun _=>0) x.deps
def uS (x:eU):Prop:=(x.deps.length<=140737488351232)
def vS (x:eU):Nat:=1+ctL (fun _=>1) x.deps
theorem Fai (x:eU):vS x=1+ctL (fun _=>1) x.deps:=by
 unfold vS
 try omega
theorem Dav (x:eU):aK x=x.deps.length:=by
 unfold aK;simp only[dF]
 try omega
def aL (x:dO):Nat:=aK x.attr
def mE (x:dO):Prop:=(uS x.attr)
def mW (x:dO):Nat:=1+1+1+Bae x.cmd+vS x.attr
theorem Ya4 (x:dO):mW x=9+ctL (fun _=>1) x.attr.deps:=by
 unfold mW;simp only[Dae];simp only[Fai]
 try omega
theorem Xar (x:dO):aL x=x.attr.deps.length:=by
 unfold aL;simp only[dF,Dav]
 try omega
theorem Qah (x:dO):mW x<=16+16*aL x:=by
 have h0:=nS (c:=(fun _=>1)) (f:=(fun _=>0)) (m:=16) (by omega) (fun _=>by simp) x.attr.deps;rw[Ya4,Xar]
 try simp only[dF]at *
 omega
theorem Qag (ds:List D)(h:WTs [.int .i64,.int .i64,.int .i64,.int .i64,.int .i64,.int .i64,.int .i64,.int .i64,.int .i64,.sl 8 [.int .i64]] ds):∃ x:dO,ds=Enc.enc x/\mE x:=by
 simp only[WTs]at h;obtain⟨d0,r0,rfl,w0,d1,r1,rfl,w1,d2,r2,rfl,w2,d3,r3,rfl,w3,d4,r4,rfl,w4,d5,r5,rfl,w5,d6,r6,rfl,w6,d7,r7,rfl,w7,d8,r8,rfl,w8,d9,r9,rfl,w9,rfl⟩:=h;obtain⟨x0,rfl,-,-⟩:=bV w0;obtain⟨x1,rfl,-,-⟩:=bV w1;obtain⟨x2,rfl,-,-⟩:=bV w2;obtain⟨x3,rfl,-,-⟩:=bV w3;obtain⟨x4,rfl,-,-⟩:=bV w4;obtain⟨x5,rfl,-,-⟩:=bV w5;obtain⟨x6,rfl,-,-⟩:=bV w6;obtain⟨x7,rfl,-,-⟩:=bV w7;obtain⟨x8,rfl,-,-⟩:=bV w8;obtain⟨x9,rfl,l9,p9⟩:=Bal (α:=Int) (P:=fun _=>True) rfl Bad w9;exact⟨⟨x0,x1,x2,⟨x3,x4,x5,x6,x7⟩,⟨x8,x9⟩⟩,rfl,gF l9 (by decide)⟩
theorem Vap (ds:List D)(h:WTs [.sl 96 [.int .i64,.int .i64,.int .i64,.int .i64,.int .i64,.int .i64,.int .i64,.int .i64,.int .i64,.sl 8 [.int .i64]]] ds):∃ x:(List dO),ds=Enc.enc x/\x.length<=140737488351232/\∀ y0∈x,mE y0:=by
 simp only[WTs]at h;obtain⟨d,r,rfl,w,rfl⟩:=h;obtain⟨x,rfl,l,p⟩:=Bal (α:=dO) (P:=fun y=>mE y) rfl Qag w;exact⟨x,rfl,⟨gF l (by decide),p⟩⟩
def bH (x:aT):Nat:=szL (szL aL) x.rows
def Dal (x:aT):Prop:=(x.rows.length<=140737488351232/\∀ y0∈x.rows,y0.length<=140737488351232/\∀ y1∈y0,mE y1)
def Fak (x:aT):Nat:=1+ctL (ctL mW) x.rows
theorem Sad (x:aT):Fak x=1+ctL (ctL mW) x.rows:=by
 unfold Fak
 try omega
theorem Qa0 (x:aT):bH x=szL (szL aL) x.rows:=by
 unfold bH;simp only[dF]
 try omega
def aQ (x:gL):Nat:=aK x.first+aK x.attr+szL (fun _=>0) x.who+szL aL x.seen
def uR (x:gL):Prop:=(uS x.first)/\(uS x.attr)/\(x.who.length<=140737488351232)/\(x.seen.length<=140737488351232/\∀ y0∈x.seen,mE y0)
def vR (x:gL):Nat:=1+1+1+1+Bae x.cmd+vS x.first+vS x.attr+1+ctL (fun _=>1) x.who+ctL mW x.seen
theorem Vaq (x:gL):vR x=12+ctL (fun _=>1) x.first.deps+ctL (fun _=>1) x.attr.deps+ctL (fun _=>1) x.who+ctL mW x.seen:=by
 unfold vR;simp only[Dae];simp only[Fai]
 try omega
theorem Ja9 (x:gL):aQ x=x.first.deps.length+x.attr.deps.length+x.who.length+szL aL x.seen:=by
 unfold aQ;simp only[dF,Dav]
 try omega
theorem Vas (x:gL):vR x<=16+16*aQ x:=by
 have h0:=nS (c:=(fun _=>1)) (f:=(fun _=>0)) (m:=16) (by omega) (fun _=>by simp) x.first.deps
 have h1:=nS (c:=(fun _=>1)) (f:=(fun _=>0)) (m:=16) (by omega) (fun _=>by simp) x.attr.deps;have h2:=nS (c:=(fun _=>1)) (f:=(fun _=>0)) (m:=16) (by omega) (fun _=>by simp) x.who;have h3:=nS (c:=mW) (f:=aL) (m:=16) (by omega) Qah x.seen;rw[Vaq,Ja9]
 try simp only[dF]at *
 omega
theorem Vao (ds:List D)(h:WTs [.int .i64,.int .i64,.int .i64,.int .i64,.int .i64,.int .i64,.int .i64,.int .i64,.int .i64,.int .i64,.sl 8 [.int .i64],.int .i64,.sl 8 [.int .i64],.bool,.sl 8 [.int .i64],.sl 96 [.int .i64,.int .i64,.int .i64,.int .i64,.int .i64,.int .i64,.int .i64,.int .i64,.int .i64,.sl 8 [.int .i64]]] ds):∃ x:gL,ds=Enc.enc x/\uR x:=by
 simp only[WTs]at h;obtain⟨d0,r0,rfl,w0,d1,r1,rfl,w1,d2,r2,rfl,w2,d3,r3,rfl,w3,d4,r4,rfl,w4,d5,r5,rfl,w5,d6,r6,rfl,w6,d7,r7,rfl,w7,d8,r8,rfl,w8,d9,r9,rfl,w9,d10,r10,rfl,w10,d11,r11,rfl,w11,d12,r12,rfl,w12,d13,r13,rfl,w13,d14,r14,rfl,w14,d15,r15,rfl,w15,rfl⟩:=h;obtain⟨x0,rfl,-,-⟩:=bV w0;obtain⟨x1,rfl,-,-⟩:=bV w1;obtain⟨x2,rfl,-,-⟩:=bV w2;obtain⟨x3,rfl,-,-⟩:=bV w3;obtain⟨x4,rfl,-,-⟩:=bV w4;obtain⟨x5,rfl,-,-⟩:=bV w5;obtain⟨x6,rfl,-,-⟩:=bV w6;obtain⟨x7,rfl,-,-⟩:=bV w7;obtain⟨x8,rfl,-,-⟩:=bV w8;obtain⟨x9,rfl,-,-⟩:=bV w9;obtain⟨x10,rfl,l10,p10⟩:=Bal (α:=Int) (P:=fun _=>True) rfl Bad w10;obtain⟨x11,rfl,-,-⟩:=bV w11;obtain⟨x12,rfl,l12,p12⟩:=Bal (α:=Int) (P:=fun _=>True) rfl Bad w12;obtain⟨x13,rfl⟩:=Cba w13;obtain⟨x14,rfl,l14,p14⟩:=Bal (α:=Int) (P:=fun _=>True) rfl Bad w14;obtain⟨x15,rfl,l15,p15⟩:=Bal (α:=dO) (P:=fun y=>mE y) rfl Qag w15;exact⟨⟨x0,x1,x2,x3,⟨x4,x5,x6,x7,x8⟩,⟨x9,x10⟩,⟨x11,x12⟩,x13,x14,x15⟩,rfl,⟨gF l10 (by decide),gF l12 (by decide),gF l14 (by decide),⟨gF l15 (by decide),p15⟩⟩⟩
def aW (x:mD):Nat:=bH x.table+szL aQ x.leads
def Aao (x:mD):Prop:=(Dal x.table)/\(x.leads.length<=140737488351232/\∀ y0∈x.leads,uR y0)
def Fal (x:mD):Nat:=1+Fak x.table+ctL vR x.leads
theorem Ya5 (x:mD):Fal x=2+ctL (ctL mW) x.table.rows+ctL vR x.leads:=by
 unfold Fal;simp only[Sad]
 try omega
theorem Oa1 (x:mD):aW x=szL (szL aL) x.table.rows+szL aQ x.leads:=by
 unfold aW;simp only[dF,Qa0]
 try omega
theorem Ya7 (x:mD):Fal x<=16+16*aW x:=by
 have h0:=nS (c:=(ctL mW)) (f:=(szL aL)) (m:=16) (by omega) (fun xs=>Pbl (nS (c:=mW) (f:=aL) (m:=16) (by omega) Qah xs) (Nat.le_add_left _ _)) x.table.rows;have h1:=nS (c:=vR) (f:=aQ) (m:=16) (by omega) Vas x.leads;rw[Ya5,Oa1]
 try simp only[dF]at *
 omega
theorem Ya1 (ds:List D)(h:WTs [.int .i64,.int .i64,.sl 24 [.sl 96 [.int .i64,.int .i64,.int .i64,.int .i64,.int .i64,.int .i64,.int .i64,.int .i64,.int .i64,.sl 8 [.int .i64]]],.sl 192 [.int .i64,.int .i64,.int .i64,.int .i64,.int .i64,.int .i64,.int .i64,.int .i64,.int .i64,.int .i64,.sl 8 [.int .i64],.int .i64,.sl 8 [.int .i64],.bool,.sl 8 [.int .i64],.sl 96 [.int .i64,.int .i64,.int .i64,.int .i64,.int .i64,.int .i64,.int .i64,.int .i64,.int .i64,.sl 8 [.int .i64]]]] ds):∃ x:mD,ds=Enc.enc x/\Aao x:=by
 simp only[WTs]at h;obtain⟨d0,r0,rfl,w0,d1,r1,rfl,w1,d2,r2,rfl,w2,d3,r3,rfl,w3,rfl⟩:=h;obtain⟨x0,rfl,-,-⟩:=bV w0;obtain⟨x1,rfl,-,-⟩:=bV w1;obtain⟨x2,rfl,l2,p2⟩:=Bal (α:=(List dO)) (P:=fun y=>y.length<=140737488351232/\∀ y0∈y,mE y0) rfl (Vap) w2;obtain⟨x3,rfl,l3,p3⟩:=Bal (α:=gL) (P:=fun y=>uR y) rfl Vao w3;exact⟨⟨x0,⟨x1,x2⟩,x3⟩,rfl,⟨⟨gF l2 (by decide),p2⟩,⟨gF l3 (by decide),p3⟩⟩⟩
def bA (x:nD):Nat:=aK x.attr
def Aap (x:nD):Prop:=(uS x.attr)
def Fam (x:nD):Nat:=1+1+1+1+1+1+1+1+Bae x.cmd+vS x.attr
theorem Ya6 (x:nD):Fam x=14+ctL (fun _=>1) x.attr.deps:=by
 unfold Fam;simp only[Dae];simp only[Fai]
 try omega
theorem Oa2 (x:nD):bA x=x.attr.deps.length:=by
 unfold bA;simp only[dF,Dav]
 try omega
theorem Ya8 (x:nD):Fam x<=16+16*bA x:=by
 have h0:=nS (c:=(fun _=>1)) (f:=(fun _=>0)) (m:=16) (by omega) (fun _=>by simp) x.attr.deps;rw[Ya6,Oa2]
 try simp only[dF]at *
 omega
theorem Ya3 (ds:List D)(h:WTs [.int .i64,.int .i64,.int .i64,.int .i64,.int .i64,.int .i64,.int .i64,.int .i64,.int .i64,.int .i64,.int .i64,.int .i64,.int .i64,.int .i64,.sl 8 [.int .i64]] ds):∃ x:nD,ds=Enc.enc x/\Aap x:=by
 simp only[WTs]at h;obtain⟨d0,r0,rfl,w0,d1,r1,rfl,w1,d2,r2,rfl,w2,d3,r3,rfl,w3,d4,r4,rfl,w4,d5,r5,rfl,w5,d6,r6,rfl,w6,d7,r7,rfl,w7,d8,r8,rfl,w8,d9,r9,rfl,w9,d10,r10,rfl,w10,d11,r11,rfl,w11,d12,r12,rfl,w12,d13,r13,rfl,w13,d14,r14,rfl,w14,rfl⟩:=h;obtain⟨x0,rfl,-,-⟩:=bV w0;obtain⟨x1,rfl,-,-⟩:=bV w1;obtain⟨x2,rfl,-,-⟩:=bV w2;obtain⟨x3,rfl,-,-⟩:=bV w3;obtain⟨x4,rfl,-,-⟩:=bV w4;obtain⟨x5,rfl,-,-⟩:=bV w5;obtain⟨x6,rfl,-,-⟩:=bV w6;obtain⟨x7,rfl,-,-⟩:=bV w7;obtain⟨x8,rfl,-,-⟩:=bV w8;obtain⟨x9,rfl,-,-⟩:=bV w9;obtain⟨x10,rfl,-,-⟩:=bV w10;obtain⟨x11,rfl,-,-⟩:=bV w11;obtain⟨x12,rfl,-,-⟩:=bV w12;obtain⟨x13,rfl,-,-⟩:=bV w13;obtain⟨x14,rfl,l14,p14⟩:=Bal (α:=Int) (P:=fun _=>True) rfl Bad w14;exact⟨⟨x0,x1,x2,x3,x4,x5,x6,x7,⟨x8,x9,x10,x11,x12⟩,⟨x13,x14⟩⟩,rfl,gF l14 (by decide)⟩
def uG (x:bW):Nat:=1+1+Bae x.cmd
theorem Sae (x:bW):uG x=7:=by
 unfold uG;simp only[Dae]
 try omega
theorem Saf (x:bW):uG x<=16+16*(fun _:bW=>0) x:=by
 rw[Sae];simp
theorem Sac (ds:List D)(h:WTs [.int .i64,.int .i64,.int .i64,.int .i64,.int .i64,.int .i64,.int .i64] ds):∃ x:bW,ds=Enc.enc x/\True:=by
 simp only[WTs]at h;obtain⟨d0,r0,rfl,w0,d1,r1,rfl,w1,d2,r2,rfl,w2,d3,r3,rfl,w3,d4,r4,rfl,w4,d5,r5,rfl,w5,d6,r6,rfl,w6,rfl⟩:=h;obtain⟨x0,rfl,-,-⟩:=bV w0;obtain⟨x1,rfl,-,-⟩:=bV w1;obtain⟨x2,rfl,-,-⟩:=bV w2;obtain⟨x3,rfl,-,-⟩:=bV w3;obtain⟨x4,rfl,-,-⟩:=bV w4;obtain⟨x5,rfl,-,-⟩:=bV w5;obtain⟨x6,rfl,-,-⟩:=bV w6;exact⟨⟨x0,x1,⟨x2,x3,x4,x5,x6⟩⟩,rfl,trivial⟩
def fQ (x:Bam):Nat:=szL aW x.reps+szL bA x.bag+szL (fun _=>0) x.asked
def Ha4 (x:Bam):Prop:=(x.reps.length<=140737488351232/\∀ y0∈x.reps,Aao y0)/\(x.bag.length<=140737488351232/\∀ y0∈x.bag,Aap y0)/\(x.asked.length<=140737488351232)
theorem Ca2 (x:Bam):fQ x=szL aW x.reps+szL bA x.bag+x.asked.length:=by
 unfold fQ;simp only[dF]
 try omega
theorem Ya2 (ds:List D)(h:WTs [.sl 64 [.int .i64,.int .i64,.sl 24 [.sl 96 [.int .i64,.int .i64,.int .i64,.int .i64,.int .i64,.int .i64,.int .i64,.int .i64,.int .i64,.sl 8 [.int .i64]]],.sl 192 [.int .i64,.int .i64,.int .i64,.int .i64,.int .i64,.int .i64,.int .i64,.int .i64,.int .i64,.int .i64,.sl 8 [.int .i64],.int .i64,.sl 8 [.int .i64],.bool,.sl 8 [.int .i64],.sl 96 [.int .i64,.int .i64,.int .i64,.int .i64,.int .i64,.int .i64,.int .i64,.int .i64,.int .i64,.sl 8 [.int .i64]]]],.sl 136 [.int .i64,.int .i64,.int .i64,.int .i64,.int .i64,.int .i64,.int .i64,.int .i64,.int .i64,.int .i64,.int .i64,.int .i64,.int .i64,.int .i64,.sl 8 [.int .i64]],.sl 56 [.int .i64,.int .i64,.int .i64,.int .i64,.int .i64,.int .i64,.int .i64]] ds):∃ x:Bam,ds=Enc.enc x/\Ha4 x:=by
 simp only[WTs]at h;obtain⟨d0,r0,rfl,w0,d1,r1,rfl,w1,d2,r2,rfl,w2,rfl⟩:=h;obtain⟨x0,rfl,l0,p0⟩:=Bal (α:=mD) (P:=fun y=>Aao y) rfl Ya1 w0;obtain⟨x1,rfl,l1,p1⟩:=Bal (α:=nD) (P:=fun y=>Aap y) rfl Ya3 w1;obtain⟨x2,rfl,l2,p2⟩:=Bal (α:=bW) (P:=fun y=>True) rfl Sac w2;exact⟨⟨x0,x1,x2⟩,rfl,⟨⟨gF l0 (by decide),p0⟩,⟨gF l1 (by decide),p1⟩,gF l2 (by decide)⟩⟩
theorem SZ:(∀ b:Bool,(b&&true)=b)/\(∀ b:Bool,(true&&b)=b)/\(∀ b:Bool,(b&&false)=false)/\(∀ b:Bool,(false&&b)=false) /\
  (∀ b:Bool,(b||true)=true)/\(∀ b:Bool,(true||b)=true)/\(∀ b:Bool,(b||false)=b)/\(∀ b:Bool,(false||b)=b)/\((!true)=false)/\((!false)=true) :=
 ⟨Qb8,Qbj,Bool.and_false,Bool.false_and,Bool.or_true,Bool.true_or,Bool.or_false,Qbd,rfl,rfl⟩
theorem aD {γ:Type}{a r:γ}(h:iD true a r=r):a=r:=h
theorem S0:type_of% (And.intro Obp (And.intro @ite_true.{1} (And.intro @ite_false.{1} (And.intro @SA (And.intro @SB (And.intro @SC (And.intro @SP (And.intro @SQ (And.intro @SZ (And.intro @beq_self_eq_true.{0} (And.intro @decide_true (And.intro @decide_false (And.intro @Eb0 @Eb4))))))))))))):=And.intro Obp (And.intro @ite_true.{1} (And.intro @ite_false.{1} (And.intro @SA (And.intro @SB (And.intro @SC (And.intro @SP (And.intro @SQ (And.intro @SZ (And.intro @beq_self_eq_true.{0} (And.intro @decide_true (And.intro @decide_false (And.intro @Eb0 @Eb4))))))))))))
theorem Daf {x y:Bool}(h:x=true↔y=true):some [D.bool x]=some [D.bool y]:=by rw[Bool.eq_iff_iff.2 h]
def eB (n:Int):Bool:=n==3||n==5
theorem bL {n:Int}(h:eB n=true):n=3\/n=5:=by simpa[eB] using h
def inst (n rep no:Int):Bool:=inR rep 0 (n-1)&&inR no 1 6
def Baf (c:Cak):Bool :=
 if c.kind==0 then decide (c=⟨0,0,0,0,0⟩) else if c.kind==1 then inR c.id 1 999&&inR c.src 0 3&&inR c.dst 0 3&&!(c.src==c.dst)&&inR c.amt 1 1000
 else c.kind==2&&inR c.id 1 999&&inR c.src 0 3&&c.dst==0&&c.amt==0
def Jak (c:Cak):Int :=
 if !inR c.src 0 3||(c.kind==1&&!inR c.dst 0 3) then 4 else if c.kind==1&&c.src==c.dst then 5 else if !inR c.id 1 999||(c.kind==1&&!inR c.amt 1 1000) then 6 else 0
def iR (n:Int)(a:eU):Bool:=inR a.seq 0 999&&(a.deps.length:Int)==n&&a.deps.all fun x=>inR x 0 6
def none0 (n:Int):eU:=⟨0,Ob3 n.toNat 0⟩
def rowOk (n:Int)(r:dO):Bool :=
 inR r.ballot 0 9999&&inR r.vote 0 r.ballot&&inR r.state 0 3&&(if r.state==0 then r.vote==0&&decide (r.cmd=⟨0,0,0,0,0⟩)&&decide (r.attr=none0 n) else Baf r.cmd&&iR n r.attr)
def vW (n:Int)(m:nD):Bool :=
  eB n&&inR m.kind 1 7&&inst n m.rep m.no&&inR m.src 0 (n-1)&&inR m.dst 0 (n-1)&&!(m.src==m.dst)&&inR m.ballot 0 9999 &&
  (if m.kind==7 then !(m.state==3)&&rowOk n ⟨m.ballot,m.vote,m.state,m.cmd,m.attr⟩
   else !(m.kind==5&&!(m.ballot==0))&&m.vote==0&&m.state==0&&Baf m.cmd&&iR n m.attr &&
     (if m.kind==2 then decide (m.cmd=⟨0,0,0,0,0⟩) else if m.kind==4||m.kind==6 then decide (m.cmd=⟨0,0,0,0,0⟩)&&decide (m.attr=none0 n) else true))
theorem Ias {n:Int}(h:eB n=true):iR n (none0 n)=true:=by
 rcases bL h with rfl|rfl<;>rfl
theorem Bb2 {c:Cak}(h:decide (c=⟨0,0,0,0,0⟩)=true):Baf c=true:=by
 rw[of_decide_eq_true h];rfl
theorem Zab {c:Cak}:(Jak c==0)=(inR c.src 0 3&&inR c.id 1 999&&(!(c.kind==1)||(inR c.dst 0 3&&!(c.src==c.dst)&&inR c.amt 1 1000))):=by
 unfold Jak;cases inR c.src 0 3<;>cases inR c.id 1 999<;>cases c.kind==1<;>cases inR c.dst 0 3<;>cases c.src==c.dst<;>cases inR c.amt 1 1000<;>rfl
def Taj (xs:List dO):Prop:=xs.length<=10000000000/\∀ r∈xs,r.attr.deps.length<=10000000000
def Eab (rows:List (List dO)):Prop:=rows.length<=10000000000/\∀ l∈rows,Taj l
theorem Cb6 (r:dO):aL r=r.attr.deps.length:=dF
theorem Kaq {xs:List dO}(h:szL aL xs<=1048576):Taj xs:=by
 refine⟨Pbl (gB (f:=aL)) (by omega),fun r hr=>?_⟩;have h1:=fT (f:=aL) hr;rw[Cb6]at h1;omega
theorem Xav {rows:List (List dO)}(h:szL (szL aL) rows<=1048576):Eab rows:=by
 refine⟨Pbl (gB (f:=szL aL)) (by omega),fun l hl=>Kaq ?_⟩;have h1:=fT (f:=szL aL) hl;omega
def fP (t:aT):Bool:=eB t.n&&(t.rows.length:Int)==t.n&&t.rows.all fun l=>l.all (fun r=>rowOk t.n r)&&decide ((l.length:Int)<=6)
def row0 (n:Int):dO:=⟨0,0,0,⟨0,0,0,0,0⟩,none0 n⟩
def jI (t:aT)(rep no:Int):dO:=if no<=(atI t.rows rep).length then atI (atI t.rows rep) (no-1) else row0 t.n
theorem jG {n rep no:Int}(h:inst n rep no=true):0<=rep/\rep<=n-1/\1<=no/\no<=6:=by
 simp only[inst,inR,Obh,decide_eq_true_eq]at h;omega
theorem dL {t:aT}(h:fP t=true):eB t.n=true:=by
 simp only[fP,Obh]at h;exact h.1.1
theorem jB {t:aT}(h:fP t=true):(t.rows.length:Int)=t.n:=by
 simp only[fP,Obh,beq_iff_eq]at h;exact h.1.2
theorem Ca1 {t:aT}{rep no:Int}(h:fP t=true)(hi:inst t.n rep no=true):InB t.rows rep:=by
 have:=jB h;have:=jG hi;unfold InB;omega
theorem jO {t:aT}(h:fP t=true){l:List dO}(hl:l∈t.rows):l.length<=6/\∀ r∈l,rowOk t.n r=true:=by
 simp only[fP,Obh,Ob8,decide_eq_true_eq]at h;have:=h.2 l hl;exact⟨by omega,this.1⟩
theorem Raf {n:Int}{r:dO}(h:rowOk n r=true)(hg:eB n=true):(r.attr.deps.length:Int)=n:=by
 have h2:iR n r.attr=true:=by
  simp only[rowOk,Obh]at h;have h3:=h.2;split at h3
  ·simp only[Obh]at h3
   rw[of_decide_eq_true h3.2];exact Ias hg
  ·simp only[Obh]at h3
   exact h3.2
 simp only[iR,Obh,beq_iff_eq]at h2;exact h2.1.2
theorem jL {α:Type}[Inhabited α]{xs:List α}{k:Int}(h:InB xs k):atI xs k∈xs:=by
 have h2:=h.lt;have e:((k.toNat:Nat):Int)=k:=by unfold InB at h;omega
 rw[<- e];exact at_mem h2
theorem Ma6 {t:aT}{rep no:Int}(h:fP t=true)(hi:inst t.n rep no=true):rowOk t.n (jI t rep no)=true:=by
 unfold jI;have hb:=Ca1 h hi;have hr:=jG hi;split
 ·exact (jO h (jL hb)).2 _ (jL (by unfold InB;omega))
 ·rcases bL (dL h) with e|e<;>rw[e]<;>rfl
theorem Sa2 {t:aT}{rep no:Int}(h:fP t=true)(hi:inst t.n rep no=true):((jI t rep no).attr.deps.length:Int)=t.n:=Raf (Ma6 h hi) (dL h)
def ext (n:Int)(l:List dO)(no:Int):List dO:=l++Ob3 (no-l.length).toNat (row0 n)
def Abj (t:aT)(rep no:Int)(r:dO):aT:=⟨t.n,lH t.rows rep (lH (ext t.n (atI t.rows rep) no) (no-1) r)⟩
theorem Vac {n:Int}{l:List dO}{no:Int}(h:0<=no):((ext n l no).length:Int)=max (l.length:Int) no:=by
 simp only[ext,List.length_append,List.length_replicate];omega
def nb (b me:Int):Int:=if b<8+me then 8+me else b+1+(me-b-1) % 8
theorem Bbl {x lo hi:Int}(h:inR x lo hi=true):lo<=x/\x<=hi:=by
 simpa[inR] using h
theorem pV {α:Type}{xs:List α}{k:Int}{a:α}:(lH xs k a).length=xs.length:=List.length_set ..
theorem Abd {α:Type}[Inhabited α]{xs:List α}{j k:Int}{a:α}(hj:0<=j)(hk:0<=k)(h:j≠k):atI (lH xs j a) k=atI xs k:=by
 unfold atI lH;rw[Obo,Obo,List.getElem?_set_ne (by omega)]
def Pa6 (xs:List Int)(n:Int):Bool:=xs.any fun x=>x==n
def Na2 (xs:List Int)(n:Int):Nat:=(xs.takeWhile fun x=>decide (x<n)).length
def Xa6 (xs:List Int)(n:Int):List Int:=if decide ((Na2 xs n:Int)<xs.length)&&(atI xs (Na2 xs n:Nat)==n) then xs else xs.take (Na2 xs n)++[n]++xs.drop (Na2 xs n)
def Vau (l:List dO)(k:Int)(m:Nat):List (List Int):=(Qb6 m).flatMap fun i:Nat=>if (atI l (i:Int)).state==3 then [[k,(i:Int)+1]] else []
def Mbe (rows:List (List dO))(m:Nat):List (List Int):=(Qb6 m).flatMap fun k:Nat=>Vau (atI rows (k:Int)) k (atI rows (k:Int)).length
def Cbw (rows:List (List dO)):List (List Int):=Mbe rows rows.length
theorem Ya9 {rows:List (List dO)}{x:List Int}(h:x∈Cbw rows):∃ k i:Nat,k<rows.length/\i<(atI rows (k:Int)).length/\x=[(k:Int),(i:Int)+1]/\(atI (atI rows (k:Int)) (i:Int)).state=3:=by
 unfold Cbw Mbe Vau at h;simp only[List.mem_flatMap,Rbb]at h;obtain⟨k,hk,i,hi,hx⟩:=h;split at hx
 ·rename_i hs
  exact⟨k,i,hk,hi,by simpa using hx,by simpa using hs⟩
 ·cases hx
theorem Vav {t:aT}(ht:fP t=true){x:List Int}(h:x∈Cbw t.rows):InB x 0/\InB x 1/\x.length=2/\inst t.n (atI x 0) (atI x 1)=true/\(jI t (atI x 0) (atI x 1)).state=3:=by
 obtain⟨k,i,hk,hi,rfl,hs⟩:=Ya9 h;have h1:=(jO ht (at_mem hk)).1;have h2:=jB ht;refine⟨by unfold InB;simp,by unfold InB;simp,rfl,?_,?_⟩
 ·simp only[atI,inst,inR,Obh,decide_eq_true_eq]
  simp;omega
 ·show (jI t (k:Int) ((i:Int)+1)).state=3
  unfold jI;rw[if_pos (by omega),show (i:Int)+1-1=i by omega];exact hs
def Vab (l:List (List Int))(x:List Int):Int:=ixF (fun y=>decide (x=y)) l
def Za7 (k:Int)(rep no:Int)(m:Nat):List (List Int):=(Qb6 m).flatMap fun i:Nat=>if !(k==rep)||!((i:Int)+1==no) then [[k,(i:Int)+1]] else []
def Ib8 (deps:List Int)(rep no:Int)(m:Nat):List (List Int):=(Qb6 m).flatMap fun k:Nat=>Za7 k rep no (atI deps (k:Int)).toNat
def Iba (t:aT)(rep no:Int):List (List Int):=Ib8 (jI t rep no).attr.deps rep no (jI t rep no).attr.deps.length
theorem Rag {n:Int}{r:dO}(h:rowOk n r=true)(hg:eB n=true):∀ d∈r.attr.deps,0<=d/\d<=6:=by
 have h2:iR n r.attr=true:=by
  simp only[rowOk,Obh]at h;have h3:=h.2;split at h3
  ·simp only[Obh]at h3
   rw[of_decide_eq_true h3.2];exact Ias hg
  ·simp only[Obh]at h3
   exact h3.2
 simp only[iR,Obh,Ob8]at h2;exact fun d hd=>Bbl (h2.2 d hd)
theorem Ya0 {deps:List Int}{rep no:Int}{m:Nat}{y:List Int}:y∈Ib8 deps rep no m↔∃ k i:Nat,k<m/\(i:Int)<atI deps (k:Int)/\¬((k:Int)=rep/\(i:Int)+1=no)/\y=[(k:Int),(i:Int)+1]:=by
 unfold Ib8 Za7;simp only[List.mem_flatMap,Rbb];constructor
 ·rintro⟨k,hk,i,hi,hy⟩
  split at hy
  ·rename_i hc
   refine⟨k,i,hk,by omega,?_,by simpa using hy⟩;simp only[Pbo,Ob6,beq_eq_false_iff_ne,ne_eq]at hc;omega
  ·cases hy
 ·rintro⟨k,i,hk,hi,cn,rfl⟩
  refine⟨k,hk,i,by omega,?_⟩;rw[if_pos]
  ·simp
  ·simp only[Pbo,Ob6,beq_eq_false_iff_ne,ne_eq]
   omega
def kL (xs:List Int):Prop:=xs.Pairwise (· < ·)
theorem Aax:∀ {xs ys:List Int},kL xs->kL ys->(∀ x,x∈xs↔x∈ys)->xs=ys
 |[],[],_,_,_=>rfl
 |[],y::ys,_,_,h=>by have:=(h y).2 Obu;cases this
 |x::xs,[],_,_,h=>by have:=(h x).1 Obu;cases this
 | x :: xs, y :: ys, hx, hy, h => by
  unfold kL at hx hy;rw[Qbw]at hx hy
  have e:x=y:=by
   rcases List.mem_cons.1 ((h x).1 Obu) with h1|h1
   ·exact h1
   ·rcases List.mem_cons.1 ((h y).2 Obu) with h2|h2
    ·exact h2.symm
    ·have:=hx.1 y h2
     have:=hy.1 x h1;omega
  subst e;congr 1;refine Aax hx.2 hy.2 fun z=>?_
  constructor
  ·intro hz
   rcases List.mem_cons.1 ((h z).1 (Obq _ hz)) with h1|h1
   ·subst h1
    exact absurd (hx.1 z hz) (by omega)
   ·exact h1
  ·intro hz
   rcases List.mem_cons.1 ((h z).2 (Obq _ hz)) with h1|h1
   ·subst h1
    exact absurd (hy.1 z hz) (by omega)
   ·exact h1
theorem Ka5 {x n:Int}{xs:List Int}:Xa6 (x::xs) n=if x<n then x::Xa6 xs n else if x==n then x::xs else n::x::xs:=by
 by_cases h:x<n
 ·rw[if_pos h]
  have e:Na2 (x::xs) n=Na2 xs n+1:=by simp[Na2,h]
  have ea:atI (x::xs) ((Na2 xs n+1:Nat):Int)=atI xs (Na2 xs n:Nat):=by
   rw[Oat,Oat,List.getD_cons_succ]
  have el:decide (((Na2 xs n+1:Nat):Int)<(x::xs).length)=decide (((Na2 xs n:Nat):Int)<xs.length):=by
   simp only[Pbm,decide_eq_decide];omega
  unfold Xa6;rw[e,ea,el];split
  ·rfl
  ·simp
 ·rw[if_neg h]
  have e:Na2 (x::xs) n=0:=by simp[Na2,h]
  unfold Xa6;rw[e];have ea:atI (x::xs) ((0:Nat):Int)=x:=rfl;rw[ea];have el:decide (((0:Nat):Int)<(x::xs).length)=true:=by simp
  rw[el,Qbj];split
  ·rfl
  ·simp
theorem Iaq:∀ {xs:List Int} {n x:Int},x∈Xa6 xs n↔x∈xs\/x=n
 |[],n,x=>by simp[Xa6,Na2]
 | y :: ys, n, x => by
  rw[Ka5];split
  ·rw[Pbg,Iaq,Pbg,or_assoc]
  ·split
   ·rename_i h
    have:y=n:=by simpa using h
    subst this;simp[or_comm]
   ·simp only[Pbg]
    constructor
    ·rintro (h|h|h)
     ·exact .inr h
     ·exact .inl (.inl h)
     ·exact .inl (.inr h)
    ·rintro ((h|h)|h)
     ·exact .inr (.inl h)
     ·exact .inr (.inr h)
     ·exact .inl h
theorem Eah:∀ {xs:List Int} {n:Int},kL xs->kL (Xa6 xs n)
 |[],n,_=>by simp[Xa6,Na2,kL]
 | y :: ys, n, h => by
  have h':=h;unfold kL at h;rw[Qbw]at h;rw[Ka5];split
  ·unfold kL
   rw[Qbw];refine⟨fun z hz=>?_,Eah h.2⟩
   rcases Iaq.1 hz with h1|h1
   ·exact h.1 z h1
   ·omega
  ·split
   ·exact h'
   ·rename_i h1 h2
    have:y≠n:=by simpa using h2
    unfold kL;rw[Qbw];refine⟨fun z hz=>?_,h'⟩
    rcases List.mem_cons.1 hz with h3|h3
    ·omega
    ·have:=h.1 z h3
     omega
theorem Yal {α:Type}[Inhabited α]{p:α->Bool}{xs:List α}(h:0<=ixF p xs):InB xs (ixF p xs)/\p (atI xs (ixF p xs))=true/\∀ k:Nat,(k:Int)<ixF p xs->p (atI xs (k:Int))=false:=by
 unfold ixF at h ⊢
 cases e:xs.findIdx? p with
 |none=>rw[e]at h;simp at h
 | some i =>
  rw[List.findIdx?_eq_some_iff_getElem]at e;obtain⟨hi,hp,a5e⟩:=e;refine⟨aP.2 hi,by simp only;rw[cB hi];exact hp,fun k hk=>?_⟩;have jd:k<i:=by simp only at hk;omega
  rw[cB (by omega)];have:=a5e k jd;simpa using this
theorem Ebs {α:Type}[Inhabited α]{p:α->Bool}{xs:List α}{k:Nat}(hk:k<xs.length)(hp:p (atI xs (k:Int))=true):0<=ixF p xs:=by
 have h:xs.any p=true:=List.any_eq_true.2 ⟨_,at_mem hk,hp⟩;rw[<- eP]at h;exact of_decide_eq_true h
section
variable {T:Nat->Ent} {β:Type}
theorem Ibu {body:Tm β}{ρ:List D}(j s n:Nat)(p:Nat->Bool)(r:List D)
  (h1:∀ i:Nat,s<=i->i<n->decide ((i:Int)<n)=true->Er T body (ρ++[i64 i])=iD (p i) (some (.cont,[i64 ((i:Int)+1)])) (some (.ret,r)))
  (h3:∀ i:Nat,n<=i->decide ((i:Int)<n)=false->Er T body (ρ++[i64 i])=some (.yield j,[])) :
  Er T (.loop [.c (i64 s)] body) ρ=iD (sF (fun i=>decide (i<s)||p i) n) (some (.yield j,[])) (some (.ret,r)):=by
 obtain⟨q,h4,h5⟩:=Na8 (T:=T) (body:=body) (ρ:=ρ) (fun i:Nat=>n-i) (fun i=>s<=i/\∀ k,s<=k->k<i->k<n->p k=true) (fun i=>[i64 (i:Nat)])
  (fun q=>q=iD (sF (fun i=>decide (i<s)||p i) n) (.yield j,[]) (.ret,r))
  (fun i ⟨hs,cD⟩=>by
   rcases Ob2 i n with ar|ma
   ·have e:=h1 i hs ar (by simp;omega)
    cases hp:p i with
    | true =>
     rw[hp]at e
     exact⟨_,e,.inl ⟨rfl,i+1,⟨by omega,fun k h2 h6 h7=>by
      rcases Ob2 k i with h8|h8
      ·exact cD k h2 h8 h7
      ·obtain rfl:k=i:=by omega
       exact hp⟩,by omega,rfl⟩⟩
    | false =>
     rw[hp]at e;have hf:sF (fun i=>decide (i<s)||p i) n=false:=Bak.2 ⟨i,ar,by simp[hp];omega⟩;exact⟨_,e,.inr ⟨by simp,by rw[hf];rfl⟩⟩
   ·have ht:sF (fun i=>decide (i<s)||p i) n=true:=jD.2 fun k hk=>by
     by_cases h2:k<s
     ·simp[h2]
     ·rw[cD k (by omega) (by omega) hk,Bool.or_true]
    exact⟨_,h3 i ma (by simp;omega),.inr ⟨by simp,by rw[ht];rfl⟩⟩)
  n s (by omega) ⟨Oby _,fun k h1 h2 _=>by omega⟩ [.c (i64 s)] rfl
 rw[h4,h5];cases sF (fun i=>decide (i<s)||p i) n<;>rfl
end
def Ba4 (n:Int):Prop:=0<=n/\n<=1000000
theorem Lap {n:Int}(h:eB n=true):Ba4 n:=by have:=bL h;unfold Ba4;omega
theorem Ta0 (k:Int):k=1\/k=2\/k=3\/(k==1)=false/\(k==2)=false/\(k==3)=false:=by
 by_cases h1:k=1
 ·exact .inl h1
 by_cases h2:k=2
 ·exact .inr (.inl h2)
 by_cases h3:k=3
 ·exact .inr (.inr (.inl h3))
 ·exact .inr (.inr (.inr ⟨by simpa using h1,by simpa using h2,by simpa using h3⟩))
def Naw (xs:List Int)(i:Nat):Bool:=!(decide (0<i)&&decide (atI xs (i:Int)<=atI xs ((i:Int)-1)))
def Tas (xs:List Int)(lo hi:Int):Bool:=sF (fun i=>inR (atI xs (i:Int)) lo hi&&Naw xs i) xs.length
def Uam (p l:gL):Bool:=decide (l.rep<p.rep)||(p.rep==l.rep&&decide (l.no<=p.no))
def Eav (n me:Int)(l:gL):Bool :=
  inst n l.rep l.no&&inR l.ballot 0 9999&&Tas l.who 0 (n-1)&&Pa6 l.who me&&iR n l.first&&iR n l.attr &&
  (if l.phase==1 then Baf l.cmd&&(l.seen.length:Int)==0 else if l.phase==2 then Baf l.cmd&&(l.seen.length:Int)==0&&!l.same&&decide (l.first=l.attr)
   else if l.phase==3 then decide (l.cmd=⟨0,0,0,0,0⟩)&&decide (l.first=none0 n)&&decide (l.attr=none0 n)&&!l.same&&(l.seen.length:Int)==l.who.length&&l.seen.all fun r=>rowOk n r&&!(r.state==3)
   else false)
def Lai (n me:Int)(ls:List gL)(i:Nat):Bool:=Eav n me (atI ls (i:Int))&&!(decide (0<(i:Int))&&Uam (atI ls ((i:Int)-1)) (atI ls (i:Int)))
def Nay (r:mD):Bool:=fP r.table&&inR r.me 0 (r.table.n-1)&&sF (Lai r.table.n r.me r.leads) r.leads.length
def Fay (n:Int)(l:List bW)(i:Nat):Bool:=inst n (atI l (i:Int)).rep (atI l (i:Int)).no&&Baf (atI l (i:Int)).cmd&&!((atI l (i:Int)).cmd.kind==0)&&!(l.take i).any fun b=>b.rep==(atI l (i:Int)).rep&&b.no==(atI l (i:Int)).no
def Ma0 (n:Int)(l:List bW):Bool:=sF (Fay n l) l.length
def Kay (n:Int)(l:List mD)(i:Nat):Bool:=Nay (atI l (i:Int))&&(atI l (i:Int)).me==(i:Int)&&(atI l (i:Int)).table.n==n
def vV (t:Bam):Bool:=eB t.reps.length&&!decide (80<(t.bag.length:Int))&&Ma0 t.reps.length t.asked&&sF (Kay t.reps.length t.reps) t.reps.length&&t.bag.all fun m=>vW t.reps.length m
def Pae (l:gL):Prop:=l.first.deps.length<=10000000000/\l.attr.deps.length<=10000000000/\l.who.length<=10000000000/\Taj l.seen
def Iai (l:List gL):Prop:=l.length<=10000000000/\∀ x∈l,Pae x
def Cb9 (r:mD):Prop:=Eab r.table.rows/\Iai r.leads
def rM (l:List mD):Prop:=l.length<=10000000000/\∀ x∈l,Cb9 x
def Eac (l:List nD):Prop:=l.length<=10000000000/\∀ x∈l,x.attr.deps.length<=10000000000
theorem Tam {l:gL}(h:aQ l<=1048576):Pae l:=by
 rw[Ja9]at h;exact⟨by omega,by omega,by omega,Kaq (by omega)⟩
theorem Rab {l:List gL}(h:szL aQ l<=1048576):Iai l:=by
 refine⟨Pbl (gB (f:=aQ)) (by omega),fun x hx=>Tam ?_⟩;have:=fT (f:=aQ) hx;omega
theorem Xaw {r:mD}(h:aW r<=1048576):Cb9 r:=by
 rw[Oa1]at h;exact⟨Xav (by omega),Rab (by omega)⟩
theorem Tak {l:List mD}(h:szL aW l<=1048576):rM l:=by
 refine⟨Pbl (gB (f:=aW)) (by omega),fun x hx=>Xaw ?_⟩;have:=fT (f:=aW) hx;omega
theorem Tal {l:List nD}(h:szL bA l<=1048576):Eac l:=by
 refine⟨Pbl (gB (f:=bA)) (by omega),fun x hx=>?_⟩;have h2:=fT (f:=bA) hx;rw[Oa2]at h2;omega
def Sak:List Int->List Int->Option Int
 |[],_=>none
 |_::_,[]=>some 1
 |x::xs,y::ys=>if x<y then some (-1) else if y<x then some 1 else Sak xs ys
def Ibc (xs ys:List Int):Int:=match Sak xs ys with
 |some c=>c
 |none=>if decide ((xs.length:Int)<ys.length) then -1 else 0
def Bb1 (a b:Int):Int:=if a<b then -1 else if b<a then 1 else 0
theorem Vax {xs ys:List Int}{i:Nat}(h:i<xs.length)(h2:i<ys.length):Sak (xs.drop i) (ys.drop i)=if atI xs (i:Int)<atI ys (i:Int) then some (-1) else if atI ys (i:Int)<atI xs (i:Int) then some 1 else Sak (xs.drop (i+1)) (ys.drop (i+1)):=by
 rw[Pb9 h,Pb9 h2,cB h,cB h2];rfl
theorem Zaa {xs ys:List Int}{i:Nat}(h:i<xs.length)(h2:ys.length<=i):Sak (xs.drop i) (ys.drop i)=some 1:=by
 rw[Pb9 h,List.drop_eq_nil_of_le h2];rfl
theorem Obb (a b c d:Int):decide (Ibc [a,b] [c,d]<=0)=(decide (a<c)||(c==a&&decide (b<=d))):=by
 unfold Ibc Sak;by_cases h1:a<c
 ·simp[h1]
 ·rw[if_neg h1]
  by_cases h2:c<a
  ·simp[h1,h2];omega
  ·rw[if_neg h2]
   have:c=a:=by omega
   subst this;unfold Sak;by_cases h3:b<d
   ·simp[h3];omega
   ·rw[if_neg h3]
    by_cases h4:d<b
    ·simp[h4]
    ·rw[if_neg h4]
     simp[Sak];omega
theorem tJ {t:Bam}(h:vV t=true){i:Nat}(hi:i<t.reps.length):fP (atI t.reps (i:Int)).table=true/\(atI t.reps (i:Int)).table.n=t.reps.length/\eB (t.reps.length:Int)=true:=by
 unfold vV at h;simp only[Obh]at h;have h2:=jD.1 h.1.2 i hi;unfold Kay Nay at h2;simp only[Obh,beq_iff_eq]at h2;exact⟨h2.1.1.1.1,h2.2,h.1.1.1.1⟩
theorem Eam {t:Bam}(h:vV t=true):eB (t.reps.length:Int)=true:=by
 unfold vV at h;simp only[Obh]at h;exact h.1.1.1.1
theorem Iax {α:Type}{xs:List α}{k:Int}{a x:α}(h:x∈lH xs k a):x∈xs\/x=a:=List.mem_or_eq_of_mem_set h
theorem Hag {T:Nat->Ent}{β γ:Type}{body:Tm β}{ρ:List D}{init:List aI}(m:γ->Nat)(inv:γ->Prop)(vs:γ->List D)(Q:Kind×List D->Prop)(c0:γ)(h0:init.map (·.val ρ)=vs c0)(hi:inv c0)
  (h:∀ c,inv c->(∃ c',Er T body (ρ++vs c)=some (.cont,vs c')/\inv c'/\m c'<m c)\/(∃ q,Er T body (ρ++vs c)=some q/\q.1≠.cont/\Q q)):∃ q,Er T (.loop init body) ρ=some q/\Q q :=
 Na8 (T:=T) (body:=body) (ρ:=ρ) m inv vs Q (fun c hc=>by
  rcases h c hc with ⟨c',h2,h3,h4⟩|⟨q,h2,h3,h4⟩
  ·exact⟨_,h2,.inl ⟨rfl,c',h3,h4,rfl⟩⟩
  ·exact⟨_,h2,.inr ⟨h3,h4⟩⟩) (m c0) c0 (Oby _) hi init h0
theorem Waa {n:Int}{a:eU}(h1:0<=a.seq/\a.seq<=999)(h2:(a.deps.length:Int)=n)(h3:∀ k:Nat,k<a.deps.length->0<=atI a.deps (k:Int)/\atI a.deps (k:Int)<=6):iR n a=true:=by
 simp only[iR,Obh,beq_iff_eq,Ob8];refine⟨⟨by simp[inR,h1],h2⟩,fun x hx=>?_⟩;obtain⟨k,hk,rfl⟩:=Qb2 hx;have:=h3 k hk;rw[cB hk]at this;simp[inR,this]
theorem Rah {n:Int}{r:dO}(h:rowOk n r=true)(hg:eB n=true):iR n r.attr=true:=by
 simp only[rowOk,Obh]at h;have h3:=h.2;have hn:=bL hg;split at h3
 ·simp only[Obh,decide_eq_true_eq]at h3
  rw[h3.2];refine Waa (by simp[none0]) (by simp[none0];omega) fun k hk=>?_
  rw[cB hk];simp[none0]
 ·simp only[Obh]at h3
  exact h3.2
theorem Bb6 {α:Type}[Inhabited α]{xs ys:List α}{k:Int}(h0:0<=k)(h:k<(xs.length:Int)):atI (xs++ys) k=atI xs k:=by
 unfold atI;rw[Obo,Obo,List.getElem?_append_left (by omega)]
theorem Bb5 {α:Type}[Inhabited α]{xs:List α}{a:α}{n:Nat}{k:Int}(h:(xs.length:Int)<=k)(h2:k<(xs.length:Int)+n):atI (xs++Ob3 n a) k=a:=by
 unfold atI;rw[Obo,List.getElem?_append_right (by omega),List.getElem?_replicate_of_lt (by omega)];rfl
theorem Sa1 {t:aT}{rep no:Int}{r:dO}(h:fP t=true)(hi:inst t.n rep no=true){k i:Int}(hk:inst t.n k i=true):jI (Abj t rep no r) k i=if k=rep/\i=no then r else jI t k i:=by
 obtain⟨r1,r2,r3,r4⟩:=jG hi;obtain⟨k1,k2,k3,k4⟩:=jG hk;have hb:=Ca1 h hi;have lp:=Ca1 h hk;have hl:=Vac (n:=t.n) (l:=atI t.rows rep) (no:=no) (by omega);unfold jI;simp only[Abj];by_cases qc:k=rep
 ·subst qc
  have e:atI (lH t.rows k (lH (ext t.n (atI t.rows k) no) (no-1) r)) k=lH (ext t.n (atI t.rows k) no) (no-1) r:=Cbb.1 hb;simp only[e,pV,true_and];by_cases km:i=no
  ·subst km
   rw[if_pos (by omega),if_pos rfl];exact Cbb.1 (by unfold InB;omega)
  ·rw[if_neg km]
   rw[Abd (by omega) (by omega) (by omega)];by_cases h1:i<=((atI t.rows k).length:Int)
   ·rw[if_pos (by omega),if_pos h1]
    exact Bb6 (by omega) (by omega)
   ·rw[if_neg h1]
    split
    ·exact Bb5 (by omega) (by omega)
    ·rfl
 ·rw[if_neg (fun hc=>qc hc.1)]
  have e:atI (lH t.rows rep (lH (ext t.n (atI t.rows rep) no) (no-1) r)) k=atI t.rows k:=Abd (by omega) (by omega) (fun e=>qc e.symm);simp only[e]
theorem Tar {n:Int}(h:eB n=true):rowOk n (row0 n)=true:=by
 have hn:=bL h
 rcases hn with rfl|rfl<;>decide
theorem Abi {t:aT}{rep no:Int}{r:dO}(h:fP t=true)(hi:inst t.n rep no=true)(hr:rowOk t.n r=true):fP (Abj t rep no r)=true:=by
 obtain⟨r1,r2,r3,r4⟩:=jG hi;have hb:=Ca1 h hi;have hg:=dL h;have hlen:=jB h;have hl:=Vac (n:=t.n) (l:=atI t.rows rep) (no:=no) (by omega);obtain⟨h6,re⟩:=jO h (jL hb);simp only[fP,Abj,Obh,Ob8,beq_iff_eq,decide_eq_true_eq,pV];refine⟨⟨hg,hlen⟩,fun l ln=>?_⟩
 rcases Iax ln with ln|rfl
 ·obtain⟨q1,q2⟩:=jO h ln
  exact⟨q2,by omega⟩
 ·refine⟨fun x hx=>?_,by rw[pV];omega⟩
  rcases Iax hx with hx|rfl
  ·unfold ext at hx
   rcases List.mem_append.1 hx with hx|hx
   ·exact re x hx
   ·rw[List.eq_of_mem_replicate hx]
    exact Tar hg
  ·exact hr
theorem Uay {x lo hi:Int}:inR x lo hi=true↔lo<=x/\x<=hi:=by simp[inR]
def u8 (c:UInt8):D:=.int .u8 (c.toNat:Nat)
end Go.Proofs.YtcbkmmhkccnamaaGreat.Rf
