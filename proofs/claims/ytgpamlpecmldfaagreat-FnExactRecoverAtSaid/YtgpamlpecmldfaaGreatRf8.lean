import Derived.Test.YtgpamlpecmldfaaGreatRf7
import Derived.Shelf.SlicesE.Clone
import Derived.Laws.CopyOwn
import Derived.LoopN
import Derived.WalkKit
import Derived.RegionTactic
import Derived.ChangeAlike
import Derived.Lib.Bytealg
import Derived.Lib.SplitLaws
import Derived.LaidLaws
import Derived.Lay
import Derived.Shelf.Strings.OnBuilder
import Derived.Shelf.Strconv.Itoa3
import Derived.Lib.AppendIntMem
import Derived.Lib.LaidTab
import Derived.Shelf.Lay
import Derived.Shelf.SlSortCmp.NoneTotal
import Derived.Shelf.SlicesE.Delete
import Derived.Shelf.Spec.SlicesInsert
import Derived.Shelf.Spec.SlicesInsertGrow
set_option linter.all false
open Array renaming getElem?_eq_getElem → Rb9, getElem?_append_left → Ubd, getElem?_push → Ube, size_append → Ubp
open Bool renaming and_eq_true → Qb6, false_eq_true → Rbk, not_true → Sbf, false_or → Tbn, and_true → Tb1
open List renaming getElem?_eq_some_iff → Qb8, getElem?_eq_getElem → Rba, append_assoc → Rbd, mem_cons → Rbg, length_append → Rbh, getD_eq_getElem?_getD → Rbi, getElem?_append_right → Rbj, getElem?_append_left → Rbm, mem_of_getElem? → Rbn, mem_append → Rbq, replicate → Rbs, length_take → Rbv, length_cons → Rbw, map_cons → Rby, append_nil → Rb1, length_map → Rb4, all_eq_true → Rb6, getElem?_drop → Sba, getElem?_map → Sbd, getElem?_take → Sbe, length_drop → Sbj, mem_iff_getElem? → Sbt, take_length → Sbw, mem_of_mem_drop → Sbx, getElem_mem → Sb7, drop_eq_getElem_cons → Sb8, pairwise_cons → Tbc, length_set → Tbg, map_append → Tb3, mem_of_mem_take → Tb4, size_toArray → Tb7, take_succ_eq_append_getElem → Uba, all_cons → Ubi, drop_length → Ubx, all_nil → Ub0
open Nat renaming add_assoc → Rbp, le_refl → Rbt, lt_or_ge → Rbu, le_trans → Rbz, zero_add → Rb2, mul_le_mul_right → Rb7, add_zero → Sbg, add_mul → Sbs, zero_le → Tbm, div_eq_of_lt → Tb6, mul_comm → Ubb, mul_add_div → Ubh, succ_mul → Ubw
open Option renaming bind_some → Rbe, map_some → Sbq
open Option.some renaming inj → Rb5
namespace Go.Proofs.YtgpamlpecmldfaaGreat.Rf
open Go.Proofs Go.Shelf Go.RowKit Go.Lib
section
variable {P:Program} {ρ:Ren}
set_option maxHeartbeats 2000000 in
set_option maxRecDepth 100000 in
theorem Sa6 (L:SlLaysE0.n41 P ρ)(i0:TypeInfo)(z:Value)(size bytes:Nat)(hi:P.info? (ρ.t 23)=some i0)(kn:i0.zero=some z)(kf:i0.size=size)(nq:i0.bytes=bytes)(oS:z.cells.size=size)(ej:0<size)
  (z23:∀ w,(Go.sizeOf (ρ.t 23)).run P w=.ok size w) (a:Addr) (c:Nat) (w:World) :
  Calls P (ρ.f 41) #[.slice (some a) 0 c] w fun e w'=>∃ v',e=.returned v'/\w'.ownsRow w.heap.size (ρ.t 23) size v' 0 []/\Below w.heap.size w w':=by
 have mixed:=L.mixed;have t4:=L.t4;have a4:=L.a4;have z4:=L.z4;have v4:=L.v4;have t22:=L.t22;have a22:=L.a22;have z22:=L.z22;have v22:=L.v22
 have q22:∀ (w:World) (a:Option Addr) (n c n' c':Nat),(binOp .eql (ρ.t 22) (.slice a n c) (.slice none n' c')).run P w=.ok (.bool a.isNone) w:=fun w a n c n' c'=>Lib.run_eql_slice_nil w _ _ a n c n' c' L.t22
 have u22:∀ w,Sem.run P (underlying (ρ.t 22)) w=.ok (TypeDesc.slice (ρ.t 23)) w:=run_underlying t22;obtain⟨_,_,FG⟩:=L.f41
 go_enter FG,SlBodyN.n41_ntmps ρ
 go_wp2_with (at_builtin;refine wpList_append_own _ rfl _ _ (ρ.t 22) rfl w.heap.size (ρ.t 23) i0 z size bytes t22 hi kn kf nq oS ej _ _ _ rfl (World.ownsRow_made w #[] 0 (Rbt _) (Tbm _) (by simp)) a 0 c [] rfl ?qc1 ?qc2 ?qc3 ?qc4 ?qc5 ?qc6 ?_)
 case qc1=>simp
 case qc2=>intro j u hj;simp at hj
 case qc3=>intro u hu;cases hu
 case qc4=>exact Tbm _
 case qc5=>simp
 case qc6=>simp
 intro v' w1 cI sC fx
 go_wp2
 go_ret
 exact⟨v',rfl,by simpa using cI,((Below.refl _ w).alloc (Rbt _) _).grown sC (by simp) (by intro k hk;simp[Value.ownBlock]at hk;omega)⟩
theorem Fa3 {s:Sig}{G:Gh}{w:World}{vals:List Value}{ds:List D}(h:Fb6 s vals w G ds)(hb:s.boxes=[]):nX (tL s G w) G w :=
 ⟨rfl,rfl,rfl,Rbt _,fun b _ _=>⟨rfl,rfl⟩,fun b j hj he=>by
  obtain⟨h1,-⟩:=h.cells b j hj he;rw[hb]at h1;exact absurd h1 (Nat.not_lt_zero _),h.fresh⟩
theorem Dab {s:Sig}{G:Gh}{w w':World}{vals:List Value}{ds:List D}{own':Nat->Ow}(h:Fb6 s vals w G ds)(hb:s.boxes=[])(te:Below w.heap.size w w')(h1:∀ b,b<w.heap.size->own' b=G.own b)(h2:∀ b,w'.heap.size<=b->own' b=.frz) :
  nX (tL s G w) { G with own:=own' } w' :=
 ⟨te.os,te.tape,te.output,te.size,fun b bh _=>⟨te.block b bh,h1 b bh⟩,fun b j hj he=>by
  obtain⟨h1,-⟩:=h.cells b j hj he;rw[hb]at h1;exact absurd h1 (Nat.not_lt_zero _),h2⟩
theorem Fbn (L:SlLaysE0.n41 P ρ){i0:TypeInfo}{z:Value}{size bytes m key:Nat}{T1:Nat->Ent}(hi:P.info? (ρ.t 23)=some i0)(kn:i0.zero=some z)(kf:i0.size=size)(nq:i0.bytes=bytes)(oS:z.cells.size=size)(ej:0<size)
  (z23:∀ w,(Go.sizeOf (ρ.t 23)).run P w=.ok size w) (hK:∀ n,qG P T1 n key ⟨ρ.f 41,[(false,[.fz false])],[],[(false,[.ow (m+1)])]⟩) :
  Fb1 P ⟨ρ.f 41,[(false,[.fz false])],[],[(false,[.ow (m+1)])]⟩ (fun ds=>match ds with
   |[.rows _ []]=>some [.rows size []]
   |ds=>Fun T1 key ds):=by
 intro vals w G ds ir fL he;by_cases od:∃ sz,ds=[.rows sz []]
 ·obtain⟨sz,rfl⟩:=od
  simp only[Option.some.injEq]at he;subst he;obtain⟨u,us,vs,rfl,⟨v,u6,rfl,⟨jq,-⟩,rfl⟩,tW,fx⟩:=fL.params;simp only[Rbk,if_false]at tW;obtain rfl:v=u:=by simpa using tW
  simp only[nJ]at fx;subst fx;have a5p:Rd (fun b=>G.own b=.frz) w v (.rows sz []):=jq;obtain⟨A,a,n,c,vs,rfl,hn,hc,-,-⟩:=a5p.inv;obtain rfl:n=0:=hn.symm;obtain⟨nm,tp,hfn⟩:=L.f41;refine .inl ⟨oG hfn tp rfl _ _,?_⟩
  cases A with
  | none =>
   refine Calls.mono (AnyE.slices_Clone_nil L 0 c w) fun e w' ⟨h1,h2⟩=>?_
   subst h1;subst h2
   refine⟨G,[.slice none 0 0],rfl,Fa3 fL rfl,⟨_,_,_,rfl,⟨_,_,rfl,?_,rfl⟩,rfl,rfl⟩,trivial,trivial⟩;exact .sl none ⟨0,0,none⟩ 0 0 _ [] (fun _ _=>undef) rfl (Rbt _) (.inr ⟨rfl,rfl⟩) (by simp) (fun e=>by cases e) (by simp) (by simp)
  | some a' =>
   refine Calls.mono (Sa6 L i0 z size bytes hi kn kf nq oS ej z23 a' c w) fun e w' ⟨v',h1,h2,h3⟩=>?_
   subst h1
   rcases h2.2 with ⟨rfl,-⟩|⟨g,cap,cur,rfl,hg,cV,-,-,hcur,-⟩
   ·refine⟨{ G with own:=G.own },[.slice none 0 0],rfl,Dab fL rfl h3 (fun _ _=>rfl) (fun b hb=>fL.fresh b (Rbz h3.size hb)),⟨_,_,_,rfl,⟨_,_,rfl,?_,rfl⟩,rfl,rfl⟩,trivial,trivial⟩
    exact .sl none ⟨0,0,none⟩ 0 0 _ [] (fun _ _=>undef) rfl (Rbt _) (.inr ⟨rfl,rfl⟩) (by simp) (fun e=>by cases e) (by simp) (by simp)
   ·have bh:g<w'.heap.size:=(Array.getElem?_eq_some_iff.1 cV).1
    refine⟨{ G with own:=fun b=>if b=g then .slc 0 [] else G.own b },[.slice (some ⟨g,0,none⟩) 0 cap],rfl,Dab fL rfl h3 (fun b hb=>if_neg (by omega)) (fun b hb=>?_),⟨_,_,_,rfl,⟨_,_,rfl,?_,rfl⟩,rfl,rfl⟩,trivial,trivial⟩
    ·show (if b=g then _ else _)=_
     rw[if_neg (by omega)];exact fL.fresh b (Rbz h3.size hb)
    ·refine .sl (some ⟨g,0,none⟩) ⟨g,0,none⟩ 0 cap _ [] (fun _ _=>undef) rfl (Tbm _) (.inl rfl) (by simp) (fun _=>⟨rfl,if_pos rfl,fun k hk=>?_⟩) (by simp) (by simp)
     have kd:k<cur.size:=by omega
     refine⟨cur[k],?_,?_⟩
     ·have hb:((⟨g,0,none⟩:Addr).add k).block=g:=add_block _ _
      have ho:((⟨g,0,none⟩:Addr).add k)=⟨g,k,none⟩:=by unfold Addr.add;split<;>simp_all
      rw[ho];simp[World.cell?,cV,kd]
     ·have ho:((⟨g,0,none⟩:Addr).add k)=⟨g,k,none⟩:=by unfold Addr.add;split<;>simp_all
      rw[ho];simp[fzq,cV]
 ·have zo:Fun T1 key ds=some ir:=by
   dsimp only at he;split at he
   ·rename_i sz
    exact absurd ⟨sz,rfl⟩ od
   ·exact he
  obtain⟨n,hn⟩:=Ga2.1 zo;exact hK n vals w G ds ir fL hn
def Dar (P:Program)(t:TypeId):Option Nat:=match P.info? t with
 | some i => match i.zero with
  |some z=>if z.cells.size=i.size/\0<i.size then some i.size else none
  |none=>none
 |none=>none
noncomputable def Ab3 (size:Nat)(T1:Nat->Ent)(key:Nat):List D->Option (List D):=fun ds=>match ds with
 |[.rows _ []]=>some [.rows size []]
 |ds=>Fun T1 key ds
theorem Qa7 (L:SlLaysE0.n41 P ρ){size m key f:Nat}{T T1:Nat->Ent}{ti:Nat->Option TI}{sigs:List (Nat×Sig)}(hf:ρ.f 41=f)(h:Dar P (ρ.t 23)=some size)(z23:∀ w,(Go.sizeOf (ρ.t 23)).run P w=.ok size w)
  (hK:∀ n,qG P T1 n key ⟨f,[(false,[.fz false])],[],[(false,[.ow (m+1)])]⟩) (hT:T key=.ext (Ab3 size T1 key)) :
  Ran P T ti sigs key ⟨f,[(false,[.fz false])],[],[(false,[.ow (m+1)])]⟩:=by
 subst hf;unfold Dar at h;split at h
 ·rename_i i hi
  split at h
  ·rename_i z hz
   split at h
   ·rename_i h1
    cases h;exact .inr ⟨_,hT,Fbn L hi hz rfl rfl h1.1 h1.2 z23 hK⟩
   ·cases h
  ·cases h
 ·cases h
end
end Go.Proofs.YtgpamlpecmldfaaGreat.Rf
namespace Go.Proofs.YtgpamlpecmldfaaGreat.Rf
open Go.RowKit
section
variable {P:Program}
end
end Go.Proofs.YtgpamlpecmldfaaGreat.Rf
namespace Go.Proofs.YtgpamlpecmldfaaGreat.Rf
section
variable {P:Program}
end
open Go.Proofs Go.Shelf Go.RowKit Go.Lib
section
variable {P:Program} {ρ:Ren}
end
end Go.Proofs.YtgpamlpecmldfaaGreat.Rf
namespace Go.Proofs.YtgpamlpecmldfaaGreat.Rf
def ltQ (p q:Int×Int):Bool:=decide (p.1<q.1)||(p.1==q.1&&decide (p.2<q.2))
theorem xU {p q:Int×Int}:ltQ p q=true↔p.1<q.1\/(p.1=q.1/\p.2<q.2):=by
 unfold ltQ;simp only[Bool.or_eq_true,Qb6,decide_eq_true_eq,beq_iff_eq]
theorem qU {p q:Int×Int}:ltQ p q=false↔q.1<p.1\/(p.1=q.1/\q.2<=p.2):=by
 rw[<- Bool.not_eq_true,xU];omega
theorem Ebw {p q:Int×Int}(h:ltQ p q=false)(h':ltQ q p=false):p=q:=by
 rw[qU]at h h';apply Prod.ext<;>omega
def Ibc {β:Type}(k:β->Int×Int)(x:β):List β->List β
 |[]=>[x]
 |y::r=>if ltQ (k x) (k y) then x::y::r else y::Ibc k x r
def Pac {β:Type}(k:β->Int×Int):List β->List β
 |[]=>[]
 |x::r=>Ibc k x (Pac k r)
theorem Iac {β:Type}(k:β->Int×Int)(x:β):∀ l:List β,(Ibc k x l).Perm (x::l)
 |[]=>.refl _
 | y :: r => by
  unfold Ibc;split
  ·exact .refl _
  ·exact ((Iac k x r).cons y).trans (.swap x y r)
theorem Ja8 {β:Type}(k:β->Int×Int):∀ l:List β,(Pac k l).Perm l
 |[]=>.refl _
 |x::r=>(Iac k x _).trans ((Ja8 k r).cons x)
def Oah {β:Type}(k:β->Int×Int)(l:List β):Prop:=l.Pairwise fun x y=>ltQ (k y) (k x)=false
theorem Iab {β:Type}(k:β->Int×Int)(x:β):∀ {l:List β},Oah k l->Oah k (Ibc k x l)
 |[],_=>by unfold Ibc Oah;simp
 | y :: r, h => by
  obtain⟨h1,h2⟩:=Tbc.1 h;unfold Ibc;split
  ·rename_i hx
   refine Tbc.2 ⟨fun z hz=>?_,h⟩;rw[xU]at hx
   rcases Rbg.1 hz with rfl|hz
   ·rw[qU];omega
   ·have:=h1 z hz
    rw[qU]at this ⊢;omega
  ·rename_i hx
   refine Tbc.2 ⟨fun z hz=>?_,Iab k x h2⟩
   rcases Rbg.1 ((Iac k x r).mem_iff.1 hz) with rfl|hz
   ·simpa using hx
   ·exact h1 z hz
theorem Fan {β:Type}(k:β->Int×Int):∀ l:List β,Oah k (Pac k l)
 |[]=>List.Pairwise.nil
 |x::r=>Iab k x (Fan k r)
def Obn (p:Int×Int):D:=.rows 1 [[.int .i64 p.1],[.int .i64 p.2]]
section
open Go.Proofs Go.Shelf Go.Sort
variable {P:Program} {ρ:Ren} {own:Nat->Ow} {w:World}
theorem Ga0 {a:Addr}(h:a.spot=none)(k:Nat):a.add k=⟨a.block,a.off+k,none⟩:=by
 cases a with
 | mk b o s =>
  obtain rfl:s=none:=h;unfold Addr.add;split
  ·rename_i h0;subst h0;rfl
  ·rfl
end
section
open Go.Proofs Go.Shelf Go.Sort
variable {P:Program} {ρ:Ren} {own:Nat->Ow} {w:World}
def Gbz (own:Nat->Ow)(w:World)(v:Value)(p:Int×Int):Prop :=
 ∃ a c,v=.slice (some a) 2 c/\2<=c/\own a.block=.frz/\w.cell? a=some (.int .i64 p.1)/\w.cell? (a.add 1)=some (.int .i64 p.2)
theorem Gbz.rd {v:Value}{p:Int×Int}(h:Gbz own w v p):Rd (fun b=>own b=.frz) w v (Obn p):=by
 obtain⟨a,c,rfl,hc,ho,h1,h2⟩:=h;have e0:a.add 0=a:=if_pos rfl;refine .rows (some a) a 2 c 1 _ (fun i _=>if i=0 then .int .i64 p.1 else .int .i64 p.2) rfl hc (.inr rfl) (by simp) (fun i r hi j d hj=>?_) (fun i r hi j d hj=>?_)
 ·match i,j with
  |0,0=>exact⟨ho,by simpa[e0] using h1⟩
  |1,0=>exact⟨ho,by simpa using h2⟩
  |0,j+1=>simp at hi;subst hi;simp at hj
  |1,j+1=>simp at hi;subst hi;simp at hj
  |i+2,_=>simp at hi
 ·match i,j with
  |0,0=>simp at hi;subst hi;simp at hj;subst hj;exact .sc (.int _ _)
  |1,0=>simp at hi;subst hi;simp at hj;subst hj;exact .sc (.int _ _)
  |0,j+1=>simp at hi;subst hi;simp at hj
  |1,j+1=>simp at hi;subst hi;simp at hj
  |i+2,_=>simp at hi
end
section
open Go.Proofs Go.Shelf Go.Sort
variable {P:Program} {ρ:Ren} {own:Nat->Ow} {w:World}
end
section
open Go.Proofs Go.Shelf Go.RowKit Go.Lib Go.Sort
variable {P:Program} {ρ:Ren}
set_option maxHeartbeats 4000000 in
set_option maxRecDepth 1000000 in
theorem Sa1 (L:SlLaysE0.n45 P ρ){K:Nat}{i0:TypeInfo}{z:Value}(ju:P.info? (ρ.t 23)=some i0)(kn:i0.zero=some z)(kf:i0.size=K)(oS:z.cells.size=K)(hK:0<K)(hzo:∀ u∈z.cells.toList,u.oneCell'=true)
  (z23:∀ w,(Go.sizeOf (ρ.t 23)).run P w=.ok K w) (lg off n cap i j:Nat) (w:World) (olds:List Value) (xd:olds.length=n*K) (wg:∀ k u,olds[k]?=some u->w.cell? ⟨lg,off+k,none⟩=some u) (ho1:∀ u∈olds,u.oneCell'=true)
  (df:∀ k,k<cap*K->∃ u,w.cell? ⟨lg,off+k,none⟩=some u/\w.frozen? ⟨lg,off+k,none⟩=false) (vr:n<=cap) (hn:n<=4611686018427387904) (qx:i<=j) (hj:j<=n) :
  Calls P (ρ.f 45) #[.slice (some ⟨lg,off,none⟩) n cap,.int .i64 i,.int .i64 j] w fun e w'=>e=.returned (.slice (some ⟨lg,off,none⟩) (n-(j-i)) cap) /\
   ((i=j/\w'=w)\/(i<j/\w'=(w.drew.setCells lg (off+i*K) (olds.drop (j*K))).setCells lg (off+(i+(n-j))*K) (Builtin.zeroCells z.cells (n-(i+(n-j)))).toList)):=by
 have mixed:=L.mixed;have t0:=L.t0;have a0:=L.a0;have z0:=L.z0;have v0:=L.v0;have t3:=L.t3;have a3:=L.a3;have z3:=L.z3;have v3:=L.v3;have t4:=L.t4;have a4:=L.a4;have z4:=L.z4;have v4:=L.v4;have t22:=L.t22;have a22:=L.a22;have z22:=L.z22;have v22:=L.v22
 by_cases heq:i=j
 ·subst heq
  have h0:Calls P (ρ.f 45) #[.slice (some ⟨lg,off,none⟩) n cap,.int .i64 i,.int .i64 i] w fun e w'=>e=.returned (.slice (some ⟨lg,off,none⟩) n cap)/\w'=w:=by
   clear wg ho1 df xd;obtain⟨_,_,FG⟩:=L.f45
   go_enter FG,SlBodyN.n45_ntmps ρ
   go_wp2
   all_goals (go_ret;exact⟨rfl,rfl⟩)
  refine h0.mono ?_
  rintro e w' ⟨rfl,rfl⟩
  exact⟨by rw[Nat.sub_self,Nat.sub_zero],.inl ⟨rfl,rfl⟩⟩
 ·have bh:i<j:=by omega
  obtain⟨news,nc⟩:∃ news,news=olds.drop (j*K):=⟨_,rfl⟩;have hlen:news.length=(n-j)*K:=by rw[nc,Sbj,xd,Nat.sub_mul]
  have hjc:cap≠j->j<cap:=by omega
  have hmul:∀ a b:Nat,a<=b->a*K<=b*K:=fun a b h=>Rb7 K h
  obtain⟨A,hA,kb⟩:∃ A:Addr,(if cap=j then (some (⟨lg,off,none⟩:Addr)) else some ⟨lg,off+j*K,none⟩)=some A/\Hid (∀ t u,news[t]?=some u->w.drew.cell? (A.add t)=some u):=by
   by_cases h:cap=j
   ·refine⟨⟨lg,off,none⟩,by simp[h],fun t u hu=>?_⟩
    have h0:news.length=0:=by rw[hlen,show n-j=0 by omega,Nat.zero_mul]
    rw[List.length_eq_zero_iff.1 h0]at hu;simp at hu
   ·refine⟨⟨lg,off+j*K,none⟩,by simp[h],fun t u hu=>?_⟩
    rw[nc,Sba]at hu;have:=wg _ u hu;rw[Addr.add_lit,show off+j*K+t=off+(j*K+t) by omega];exact this
  have s1:Hid (news.length=(n-j)*K):=hlen;have s2:Hid (∀ u∈news,u.oneCell'=true):=fun u hu=>ho1 u (Sbx (nc▸hu))
  have dv:i*K+(n-j)*K<=cap*K:=by rw[<- Sbs];exact hmul _ _ (by omega)
  have s3:Hid (∀ t,t<news.length->(w.drew.cell? ⟨lg,off+i*K+t,none⟩).isSome=true/\w.drew.frozen? ⟨lg,off+i*K+t,none⟩=false):=by
   intro t ht;rw[hlen]at ht;obtain⟨u,h1,h2⟩:=df (i*K+t) (by omega);rw[Rbp];exact⟨by show (w.cell? _).isSome=true;rw[h1];rfl,h2⟩
  obtain⟨W1,ll⟩:∃ W1,W1=w.drew.setCells lg (off+i*K) news:=⟨_,rfl⟩
  have ma:∀ k,k<cap*K->∃ u,W1.cell? ⟨lg,off+k,none⟩=some u/\W1.frozen? ⟨lg,off+k,none⟩=false:=by
   intro k hk;obtain⟨u,h1,h2⟩:=df k hk;rw[ll];obtain⟨u',h3⟩:=dV (w:=w.drew) (B:=lg) (o:=off+i*K) (vs:=news) (b:=⟨lg,off+k,none⟩) (fun _=>rfl) (fun t ht=>(s3.out t ht).1) h1;exact⟨u',h3,by rw[World.frozen?_setCells];exact h2⟩
  generalize hZ:(Builtin.zeroCells z.cells (n-(i+(n-j)))).toList=Z;have hZl:Z.length=(n-(i+(n-j)))*K:=by rw[<- hZ];simp[Builtin.zeroCells,oS]
  have hZ1:∀ u∈Z,u.oneCell'=true:=by
   intro u hu;rw[<- hZ,Builtin.zeroCells,Array.mem_toList_iff,Array.mem_map]at hu;obtain⟨q,hq,rfl⟩:=hu;have bh:q % z.cells.size<z.cells.size:=Nat.mod_lt _ (by omega);rw[getElem!_pos z.cells _ bh];exact hzo _ (Array.getElem_mem_toList bh)
  have fw:∀ ty,(Builtin.clear_ #[ρ.t 22] ty #[.slice (some ⟨lg,off+(i+(n-j))*K,none⟩) (n-(i+(n-j))) (cap-(i+(n-j)))]).run P W1=.ok (.tuple #[]) (W1.setCells lg (off+(i+(n-j))*K) Z):=by
   intro ty
   have eM:∀ t,t<Z.length->∃ u,W1.cell? ⟨lg,off+(i+(n-j))*K+t,none⟩=some u/\W1.frozen? ⟨lg,off+(i+(n-j))*K+t,none⟩=false:=fun t ht=>by
    have h1:(i+(n-j))*K+(n-(i+(n-j)))*K<=cap*K:=by rw[<- Sbs];exact hmul _ _ (by omega)
    have:=ma ((i+(n-j))*K+t) (by omega);rwa[<- Rbp]at this
   have cT:=run_storeCells_cells (P:=P) lg (off+(i+(n-j))*K) Z 0 W1 (fun t ht=>by obtain⟨u,h1,-⟩:=eM t ht;rw[Sbg,h1];rfl) (fun t ht=>by rw[Sbg];exact (eM t ht).choose_spec.2) hZ1;obtain⟨q,hq⟩:∃ q,n-(i+(n-j))=q+1:=⟨n-(i+(n-j))-1,by omega⟩;rw[hq]at hZ ⊢;simp only[Sbg]at cT;simp[Builtin.clear_,run_underlying t22,mX ju kn,hZ,cT]
  have hW:Hid (W1=w.drew.setCells lg (off+i*K) news):=ll;have hn':Hid (news=olds.drop (j*K)):=nc;have hic:i<=cap:=by omega
  have hjc:j<=cap:=by omega
  have hK0:Hid (0<K):=hK;clear ll nc hlen ma df wg ho1 xd hmul dv hZ hZl hZ1 hK;obtain⟨_,_,FG⟩:=L.f45
  go_enter FG,SlBodyN.n45_ntmps ρ
  go_wp2_with fail
  go_region_law_o (refine step_append_room rfl (.tmp 22) (.tmp 25) (ρ.t 22) rfl (ρ.t 23) i0 K t22 ju kf lg off i cap (by simp[Act.eval,Act.put]) A (n-j) (cap-j) news (by simp[Act.eval,Act.put]) s1.out kb.out s2.out (by omega) s3.out ?_;rw[<- hW.out])
  go_wp2
  go_ret
  refine⟨by rw[show n-(j-i)=i+(n-j) by omega];rfl,.inr ⟨bh,?_⟩⟩;rw[hW.out,hn'.out]
end
section
open Go.Proofs Go.Shelf
variable {P:Program} {ρ:Ren}
def Bbq (K:Nat):List D->Option (List D)
 |[.rows sz rs,.int .i64 i,.int .i64 j]=>if sz=K/\0<=i/\i<=j/\j<=rs.length/\rs.length<=4611686018427387904/\0<rs.length then some [.rows K (rs.take i.toNat++rs.drop j.toNat)] else none
 |_=>none
def Abt (K i j:Nat):Ow->Ow
 |.slc 0 (k::p)=>if k / K<i then .slc 0 (k::p) else if k / K<j then .frz else .slc 0 ((k-(j-i)*K)::p)
 |o=>o
theorem Fbk {K i j r c:Nat}{p:List Nat}(hK:0<K)(hc:c<K)(h:r<i):Abt K i j (.slc 0 ((r*K+c)::p))=.slc 0 ((r*K+c)::p):=by
 have e:(r*K+c) / K=r:=by rw[Ubb,Ubh hK,Tb6 hc,Sbg]
 simp only[Abt];rw[e,if_pos h]
theorem Abs {K i j r c:Nat}{p:List Nat}(hK:0<K)(hc:c<K)(qx:i<=j)(h:i<=r):Abt K i j (.slc 0 (((r+(j-i))*K+c)::p))=.slc 0 ((r*K+c)::p):=by
 have e:((r+(j-i))*K+c) / K=r+(j-i):=by rw[Ubb,Ubh hK,Tb6 hc,Sbg]
 simp only[Abt];rw[e,if_neg (by omega),if_neg (by omega),Sbs];congr 2;omega
theorem Abr (L:SlLaysE0.n45 P ρ){K m:Nat}{i0:TypeInfo}{z:Value}(ju:P.info? (ρ.t 23)=some i0)(kn:i0.zero=some z)(kf:i0.size=K)(oS:z.cells.size=K)(hK:0<K)(hzo:∀ u∈z.cells.toList,u.oneCell'=true)
  (z23:∀ w,(Go.sizeOf (ρ.t 23)).run P w=.ok K w):Fb1 P ⟨ρ.f 45,[(false,[.ow (m+1)]),(false,[.sc]),(false,[.sc])],[],[(false,[.ow (m+1)])]⟩ (Bbq K):=by
 intro vals w G ds ir fL hr;unfold Bbq at hr;split at hr
 case h_2=>cases hr
 rename_i sz rs i j;split at hr
 case isFalse=>cases hr
 rename_i hc;obtain⟨rfl,h0,qx,hj,ko,qb⟩:=hc;obtain rfl:=Rb5 hr;obtain⟨u,us,vs,rfl,⟨v,u6,rfl,⟨hv,gj⟩,rfl⟩,tW,u2,us2,vs2,rfl,⟨v2,vs3,rfl,gk,rfl⟩,hsh2,u3,us3,vs4,rfl,⟨v3,vs5,rfl,zg,rfl⟩,hsh3,fx⟩:=fL.params;simp only[Rbk,if_false]at tW hsh2 hsh3;obtain rfl:v=u:=by simpa using tW
 obtain rfl:v2=u2:=by simpa using hsh2
 obtain rfl:v3=u3:=by simpa using hsh3
 simp only[nJ]at fx;subst fx;have zy:Sc v2 (.int .i64 i):=gk;have a6i:Sc v3 (.int .i64 j):=zg;obtain rfl:=zy.int_inv;obtain rfl:=a6i.int_inv;have vd:Rp G.own w 0 [] (m+1) v (.rows sz rs):=gj;obtain⟨A,a,n,c,cv,fk,hn,vr,hA,ej,cI,cV,dq⟩:=vd.sl_inv
 obtain rfl:A=some a:=by
  rcases hA with h|⟨-,h⟩
  ·exact h
  ·omega
 obtain⟨jb,mj,eM⟩:=cI rfl;have lv:=Ga0 jb;obtain⟨nm,tp,hfn⟩:=L.f45;refine .inl ⟨oG hfn tp rfl _ _,?_⟩
 have ea:(⟨a.block,a.off,none⟩:Addr)=a:=by
  cases a with
  | mk b o s =>
   obtain rfl:s=none:=jb;rfl
 have sk:=uE ej cV;have fw:(jV cv n sz).length=n*sz:=mQ _ _ _
 have vo:∀ r,r<n->∃ row,rs[r]?=some row/\row.length=sz:=fun r hr=>by
  have h1:rs[r]?=some (rs[r]'(by omega)):=Rba (by omega);exact⟨_,h1,ej _ (Rbn h1)⟩
 have kr:∀ u∈jV cv n sz,u.oneCell'=true:=by
  intro u hu;obtain⟨k,hk⟩:=Sbt.1 hu;obtain⟨k1,k2,k3,rfl⟩:=zY hk;obtain⟨row,h1,h2⟩:=vo _ k1;have h3:row[k % sz]?=some (row[k % sz]'(by omega)):=Rba (by omega);exact (dq _ _ h1 _ _ h3).one
 have si:((i.toNat:Nat):Int)=i:=by omega
 have hej:((j.toNat:Nat):Int)=j:=by omega
 have hW:=Sa1 L ju kn kf oS hK hzo z23 a.block a.off n c i.toNat j.toNat w (jV cv n sz) fw (fun k u hk=>by rw[<- lv];exact sk k u (hn.symm▸hk)) kr (fun k hk=>by rw[<- lv];exact (eM k hk).imp fun u h=>⟨h.1,pE h.2 rfl⟩) vr (by omega) (by omega) (by omega);rw[ea,<- fk,si,hej]at hW;refine hW.mono ?_
 rintro e w' ⟨rfl,hw⟩
 rcases hw with ⟨a7x,rfl⟩|⟨bh,hw⟩
 ·
  refine⟨G,[_],rfl,Fa3 fL rfl,⟨_,_,_,rfl,⟨_,_,rfl,?_,rfl⟩,rfl,rfl⟩,trivial,trivial⟩;have e1:rs.take i.toNat++rs.drop j.toNat=rs:=by rw[<- a7x];exact List.take_append_drop _ _
  show Rp G.own w' 0 [] (m+1) (.slice (some a) (n-(j.toNat-i.toNat)) c) (.rows sz (rs.take i.toNat++rs.drop j.toNat))
  rw[e1,show n-(j.toNat-i.toNat)=n by omega,<- fk];exact vd
 ·generalize hI:i.toNat=I at *
  generalize hJ:j.toNat=J at *;have hJn:J<=n:=by omega
  generalize hZ:(Builtin.zeroCells z.cells (n-(I+(n-J)))).toList=Z at hw;have hZl:Z.length=(n-(I+(n-J)))*sz:=by rw[<- hZ];simp[Builtin.zeroCells,oS]
  have hmul:∀ a b:Nat,a<=b->a*sz<=b*sz:=fun a b h=>Rb7 sz h
  have vi:((jV cv n sz).drop (J*sz)).length=(n-J)*sz:=by rw[Sbj,fw,Nat.sub_mul]
  generalize nc:(jV cv n sz).drop (J*sz)=news at hw vi;have dv:I*sz+(n-J)*sz<=c*sz:=by rw[<- Sbs];exact hmul _ _ (by omega)
  have hroom2:(I+(n-J))*sz+(n-(I+(n-J)))*sz<=c*sz:=by rw[<- Sbs];exact hmul _ _ (by omega)
  have q6:∀ k,k<c*sz->∃ u,w.cell? ⟨a.block,a.off+k,none⟩=some u/\fzq w ⟨a.block,a.off+k,none⟩=false:=fun k hk=>by rw[<- lv];exact eM k hk
  have py:∀ t,t<news.length->(w.drew.cell? ⟨a.block,a.off+I*sz+t,none⟩).isSome=true:=fun t ht=>by
   obtain⟨u,h1,-⟩:=q6 (I*sz+t) (by omega);rw[<- Rbp]at h1;show (w.cell? _).isSome=true
   rw[h1];rfl
  have xw:∀ k,k<c*sz->∃ u,(w.drew.setCells a.block (a.off+I*sz) news).cell? ⟨a.block,a.off+k,none⟩=some u/\fzq (w.drew.setCells a.block (a.off+I*sz) news) ⟨a.block,a.off+k,none⟩=false:=by
   intro k hk;obtain⟨u,h1,h2⟩:=q6 k hk;obtain⟨u',h3⟩:=dV (w:=w.drew) (B:=a.block) (o:=a.off+I*sz) (vs:=news) (b:=⟨a.block,a.off+k,none⟩) (fun _=>rfl) py h1;exact⟨u',h3,by rw[fD];exact h2⟩
  have qj:∀ t,t<Z.length->((w.drew.setCells a.block (a.off+I*sz) news).cell? ⟨a.block,a.off+(I+(n-J))*sz+t,none⟩).isSome=true:=fun t ht=>by
   obtain⟨u,h1,-⟩:=xw ((I+(n-J))*sz+t) (by omega);rw[<- Rbp]at h1;rw[h1];rfl
  have qT:∀ k,k<c*sz->∃ u,w'.cell? ⟨a.block,a.off+k,none⟩=some u/\fzq w' ⟨a.block,a.off+k,none⟩=false:=by
   intro k hk;obtain⟨u,h1,h2⟩:=xw k hk;rw[hw];obtain⟨u',h3⟩:=dV (B:=a.block) (o:=a.off+(I+(n-J))*sz) (vs:=Z) (b:=⟨a.block,a.off+k,none⟩) (fun _=>rfl) qj h1;exact⟨u',h3,by rw[fD];exact h2⟩
  have tz:∀ k u,k<I*sz->w.cell? ⟨a.block,a.off+k,none⟩=some u->w'.cell? ⟨a.block,a.off+k,none⟩=some u:=by
   intro k u hk h1;have:I*sz<=(I+(n-J))*sz:=hmul _ _ (by omega);rw[hw,World.cell?_setCells_out _ _ _ _ _ (fun _ _=>.inl (by dsimp only;omega)),World.cell?_setCells_out _ _ _ _ _ (fun _ _=>.inl (by dsimp only;omega))];exact h1
  have a04:∀ t u,news[t]?=some u->w'.cell? ⟨a.block,a.off+I*sz+t,none⟩=some u:=by
   intro t u ht;have htl:=(Qb8.1 ht).1;have e1:(I+(n-J))*sz=I*sz+(n-J)*sz:=Sbs _ _ _;rw[hw,World.cell?_setCells_out _ _ _ _ _ (fun _ _=>.inl (by dsimp only;omega)),World.cell?_setCells_in a.block news (a.off+I*sz) w.drew py t htl,<- ht,Rba]
  have dk:∀ b,b≠a.block->w'.heap[b]?=w.heap[b]?:=fun b hb=>by
   rw[hw,bO _ _ _ _ _ hb,bO _ _ _ _ _ hb];rfl
  have pB:w'.heap.size=w.heap.size:=by rw[hw,setCells_size,setCells_size];rfl
  have nj:w'.os=w.os/\w'.tape=w.tape/\w'.output=w.output:=by
   obtain⟨q1,q2,q3⟩:=dP a.block Z (a.off+(I+(n-J))*sz) (w.drew.setCells a.block (a.off+I*sz) news);obtain⟨p1,p2,p3⟩:=dP a.block news (a.off+I*sz) w.drew;rw[hw];exact⟨q1.trans p1,q2.trans p2,q3.trans p3⟩
  have zm:∀ b,(∀ p,G.own b≠.slc 0 p)->Abt sz I J (G.own b)=G.own b:=by
   intro b hb
   cases e:G.own b with
   | slc s p =>
    cases s with
    |zero=>exact absurd e (hb p)
    |succ s=>rfl
   |_=>rfl
  have ru:∀ b,G.own b=.frz->b<w.heap.size->Abt sz I J (G.own b)=.frz/\w'.heap[b]?=w.heap[b]?:=fun b hb _=>⟨by rw[hb];rfl,dk b fun e=>by rw[e,mj]at hb;cases hb⟩
  have ov:∀ {b k:Nat} {p:List Nat},G.own b=.slc 0 (k::p)->w'.heap[b]?=w.heap[b]?:=fun {b k p} hb=>dk b fun e=>by rw[e,mj]at hb;injection hb with _ hb;cases hb
  refine⟨{ G with own:=fun b=>Abt sz I J (G.own b) },[_],rfl,⟨nj.1,nj.2.1,nj.2.2,by rw[pB];exact Rbt _,fun b hb ho=>?_,fun b q hb ho=>?_,fun b hb=>?_⟩,⟨_,_,_,rfl,⟨_,_,rfl,?_,rfl⟩,rfl,rfl⟩,trivial,trivial⟩
  ·change G.own b=_\/G.own b=_ at ho
   refine⟨dk b fun e=>?_,zm b fun p e=>?_⟩
   ·rw[e,mj]at ho;rcases ho with h|h<;>cases h
   ·rw[e]at ho;rcases ho with h|h<;>cases h
  ·exact absurd (fL.cells b q hb ho).1 (Nat.not_lt_zero _)
  ·show Abt sz I J (G.own b)=.frz
   rw[fL.fresh b (by omega)];rfl
  ·show Rp (fun b=>Abt sz I J (G.own b)) w' 0 [] (m+1) (.slice (some a) (n-(J-I)) c) (.rows sz (rs.take I++rs.drop J))
   have gr:∀ r row,(rs.take I++rs.drop J)[r]?=some row->(r<I/\rs[r]?=some row)\/(I<=r/\rs[r+(J-I)]?=some row):=by
    intro r row hr;have iz:(rs.take I).length=I:=by rw[Rbv];omega
    rcases Rbu r I with h|h
    ·rw[Rbm (by omega),Sbe,if_pos h]at hr
     exact .inl ⟨h,hr⟩
    ·rw[Rbj (by omega),iz,Sba,show J+(r-I)=r+(J-I) by omega]at hr
     exact .inr ⟨h,hr⟩
   refine .sl (some a) a _ c sz _ (fun r q=>if r<I then cv r q else cv (r+(J-I)) q) ?_ (by omega) (.inl rfl) (fun row hr=>?_) (fun _=>⟨jb,?_,fun k hk=>?_⟩) (fun r row hr q d hq=>?_) (fun r row hr q d hq=>?_)
   ·rw[Rbh,Rbv,Sbj];omega
   ·rcases Rbq.1 hr with h|h
    ·exact ej row (Tb4 h)
    ·exact ej row (Sbx h)
   ·rw[mj];rfl
   ·rw[lv];exact qT k hk
   ·rcases gr r row hr with ⟨h,h1⟩|⟨h,h1⟩
    ·rw[if_pos h]
     have pC:q<sz:=by rw[<- ej row (Rbn h1)];exact (Qb8.1 hq).1
     have h2:=cV r row h1 q d hq;rw[lv]at h2 ⊢;refine tz _ _ ?_ h2;have:=hmul (r+1) I (by omega);rw[Sbs]at this;omega
    ·rw[if_neg (by omega)]
     have pC:q<sz:=by rw[<- ej row (Rbn h1)];exact (Qb8.1 hq).1
     have tl:r+(J-I)<n:=by rw[<- hn];exact (Qb8.1 h1).1
     have h3:news[(r-I)*sz+q]?=some (cv (r+(J-I)) q):=by
      rw[<- nc,Sba,show J*sz+((r-I)*sz+q)=(r+(J-I))*sz+q by rw[<- Rbp,<- Sbs];congr 2;omega];exact nW cv tl pC
     have:=a04 _ _ h3;rw[show a.off+I*sz+((r-I)*sz+q)=a.off+(r*sz+q) by rw[Rbp,<- Rbp (I*sz),<- Sbs];congr 3;omega,<- lv]at this;exact this
   ·rcases gr r row hr with ⟨h,h1⟩|⟨h,h1⟩
    ·rw[if_pos h]
     have pC:q<sz:=by rw[<- ej row (Rbn h1)];exact (Qb8.1 hq).1
     have:=(dq r row h1 q d hq).mono' (own':=fun b=>Abt sz I J (G.own b)) (w':=w') (r':=0) (q:=[r*sz+q]) (q':=[r*sz+q]) ru [] (by simp) (fun b t hb=>⟨by rw[hb];exact Fbk hK pC h,ov hb⟩);simpa using this
    ·rw[if_neg (by omega)]
     have pC:q<sz:=by rw[<- ej row (Rbn h1)];exact (Qb8.1 hq).1
     have:=(dq _ row h1 q d hq).mono' (own':=fun b=>Abt sz I J (G.own b)) (w':=w') (r':=0) (q:=[(r+(J-I))*sz+q]) (q':=[r*sz+q]) ru [] (by simp) (fun b t hb=>⟨by rw[hb];exact Abs hK pC (by omega) h,ov hb⟩);simpa using this
def Tah (P:Program)(t:TypeId):Bool:=match P.info? t with
 | some i => match i.zero with
  |some z=>z.cells.toList.all fun u=>u.oneCell'
  |none=>true
 |none=>true
theorem Kay (L:SlLaysE0.n45 P ρ){K m f key:Nat}{T:Nat->Ent}{ti:Nat->Option TI}{sigs:List (Nat×Sig)}(hf:ρ.f 45=f)(h:Dar P (ρ.t 23)=some K)(z23:∀ w,(Go.sizeOf (ρ.t 23)).run P w=.ok K w)
  (kf:Tah P (ρ.t 23)=true) (hT:T key=.ext (Bbq K)) :
  Ran P T ti sigs key ⟨f,[(false,[.ow (m+1)]),(false,[.sc]),(false,[.sc])],[],[(false,[.ow (m+1)])]⟩:=by
 subst hf;unfold Dar at h;split at h
 ·rename_i i hi
  split at h
  ·rename_i z hz
   split at h
   ·rename_i h1
    cases h
    have h2:(z.cells.toList.all fun u=>u.oneCell')=true:=by
     unfold Tah at kf;rw[hi]at kf;dsimp only at kf;rw[hz]at kf;exact kf
    rw[Rb6]at h2;exact .inr ⟨_,hT,Abr L hi hz rfl h1.1 h1.2 h2 z23⟩
   ·cases h
  ·cases h
 ·cases h
end
section
open Go.Proofs Go.Shelf Go.RowKit Go.Lib
variable {P:Program}
theorem mK (w:World)(dT sT ty elem:TypeId){K:Nat}(b o y2 a6n:Nat)(a:Addr)(yy a7o:Nat)(cs:List Value)
  (hu:P.underlying dT=some (.slice elem)) (hs:(P.info? elem).map (·.size)=some K) (hn:cs.length=Nat.min yy y2*K)
  (kb:∀ j v,cs[j]?=some v->w.cell? (a.add j)=some v) (hc:∀ j,j<cs.length->(w.cell? ⟨b,o+j,none⟩).isSome=true) (hf:∀ j,j<cs.length->w.frozen? ⟨b,o+j,none⟩=false) (h1:∀ v∈cs,v.oneCell'=true) :
  (Builtin.copy_ #[dT,sT] ty #[.slice (some ⟨b,o,none⟩) y2 a6n,.slice (some a) yy a7o]).run P w=.ok (goInt (Nat.min yy y2)) (w.setCells b o cs):=by
 have hl:=run_loadCells_list (P:=P) w a cs kb;have cT:=run_storeCells_cells (P:=P) b o cs 0 w (by simpa using hc) (by simpa using hf) h1
 cases hq:P.info? elem with
 |none=>simp[hq]at hs
 | some i =>
  have hi:i.size=K:=by simpa[hq] using hs
  simp[Builtin.copy_,run_underlying hu,Builtin.lenOf,Builtin.firstCells,sizeOf,typeInfo,hq,hi,<- hn,hl,cT]
structure Jac (w w':World) (A:Option Addr) (n cap K:Nat) (news:List Value) (B o:Nat):Prop where
 le:n+1<=cap
 place:(A=some ⟨B,o,none⟩/\w'.heap.size=w.heap.size/\∀ b,b≠B->w'.heap[b]?=w.heap[b]?)\/(B=w.heap.size/\w'.heap.size=w.heap.size+1/\∀ b,b<w.heap.size->w'.heap[b]?=w.heap[b]?)
 cell:∀ k u,news[k]?=some u->w'.cell? ⟨B,o+k,none⟩=some u
 all:∀ k,k<cap*K->∃ u,w'.cell? ⟨B,o+k,none⟩=some u
 fz:fzq w' ⟨B,o,none⟩=false
 rest:w'.os=w.os/\w'.tape=w.tape/\w'.output=w.output
def Oai (P:Program)(f K:Nat):Prop :=
 ∀ (A:Option Addr) (n c i vb de vc:Nat) (cs vs:List Value) (w:World),i<=n->n<=c->n<=100000000000->cs.length=n*K->vs.length=K->(∀ u∈cs,u.oneCell'=true)->(∀ u∈vs,u.oneCell'=true) ->
  (A=none->c=0)->(∀ a,A=some a->a.spot=none/\a.block≠vb/\(0<c->fzq w a=false)/\(∀ k u,cs[k]?=some u->w.cell? ⟨a.block,a.off+k,none⟩=some u)/\∀ k,k<c*K->∃ u,w.cell? ⟨a.block,a.off+k,none⟩=some u) ->
  (∀ k u,vs[k]?=some u->w.cell? ⟨vb,de+k,none⟩=some u)->fzq w ⟨vb,de,none⟩=false ->
  Calls P f #[.slice A n c,.int .i64 i,.slice (some ⟨vb,de,none⟩) 1 vc] w fun e w' =>
   ∃ B o cap,e=.returned (.slice (some ⟨B,o,none⟩) (n+1) cap)/\Jac w w' A n cap K (cs.take (i*K)++vs++cs.drop (i*K)) B o
end
section
open Go.Proofs Go.Shelf
variable {P:Program}
def Bbp (K:Nat):List D->Option (List D)
 |[.rows sz rs,.int .i64 i,.rows n9 [row]]=>if sz=K/\n9=K/\0<=i/\i<=rs.length/\rs.length<=100000000000 then some [.rows K (rs.take i.toNat++row::rs.drop i.toNat)] else none
 |_=>none
def Rak (K i:Nat):Ow->Ow
 |.slc 0 []=>.frz
 |.slc 0 (k::p)=>if k / K<i then .slc 0 (k::p) else .slc 0 ((k+K)::p)
 |.slc 1 []=>.frz
 |.slc 1 (k::p)=>.slc 0 ((i*K+k)::p)
 |o=>o
theorem Eb4 {K i r c:Nat}{p:List Nat}(hK:0<K)(hc:c<K)(h:r<i):Rak K i (.slc 0 ((r*K+c)::p))=.slc 0 ((r*K+c)::p):=by
 have e:(r*K+c) / K=r:=by rw[Ubb,Ubh hK,Tb6 hc,Sbg]
 simp only[Rak];rw[e,if_pos h]
theorem Za1 {K i r c:Nat}{p:List Nat}(hK:0<K)(hc:c<K)(h:i<=r):Rak K i (.slc 0 ((r*K+c)::p))=.slc 0 (((r+1)*K+c)::p):=by
 have e:(r*K+c) / K=r:=by rw[Ubb,Ubh hK,Tb6 hc,Sbg]
 simp only[Rak];rw[e,if_neg (by omega),Sbs];congr 2;omega
theorem Mbw {f K m : Nat} {fn : Func} {cd : Code} (hf : P.funcs[f]? = some fn) (hname : (fn.name == "runtime.NumGoroutine") = false) (hb : fn.body = some cd) (hK : 0 < K) (W : Oai P f K) :
  Fb1 P ⟨f,[(false,[.ow (m+1)]),(false,[.sc]),(false,[.ow (m+1)])],[],[(false,[.ow (m+1)])]⟩ (Bbp K):=by
 intro vals w G ds ir fL hr;unfold Bbp at hr;split at hr
 case h_2=>cases hr
 rename_i sz rs i n9 row0;split at hr
 case isFalse=>cases hr
 rename_i hc;obtain⟨kf,nq,h0,hi,ko⟩:=hc;replace kf:=kf.symm;replace nq:=nq.symm;subst kf nq;obtain rfl:=Rb5 hr;obtain⟨u,us,vs,rfl,⟨v,u6,rfl,⟨hv,gj⟩,rfl⟩,tW,u2,us2,vs2,rfl,⟨v2,vs3,rfl,gk,rfl⟩,hsh2,u3,us3,vs4,rfl,⟨v3,vs5,rfl,⟨hv3,a7h⟩,rfl⟩,hsh3,fx⟩:=fL.params;simp only[Rbk,if_false]at tW hsh2 hsh3;obtain rfl:v=u:=by simpa using tW
 obtain rfl:v2=u2:=by simpa using hsh2
 obtain rfl:v3=u3:=by simpa using hsh3
 simp only[nJ]at fx;subst fx;have zy:Sc v2 (.int .i64 i):=gk;obtain rfl:=zy.int_inv;have vd:Rp G.own w 0 [] (m+1) v (.rows K rs):=gj;have a1a:Rp G.own w 1 [] (m+1) v3 (.rows K [row0]):=a7h;obtain⟨A,a,n,c,cv,fk,hn,vr,hA,ej,cI,cV,dq⟩:=vd.sl_inv;obtain⟨A3,b,n3,c3,vv,a2m,hn3,hcap3,hA3,yW,a1n,a0f,xz⟩:=a1a.sl_inv;obtain rfl:1=n3:=hn3
 obtain rfl:A3=some b:=by
  rcases hA3 with h|⟨-,h⟩
  ·exact h
  ·omega
 obtain⟨sR,a6o,wc⟩:=a1n rfl;have ye:=Ga0 sR
 have ea3:(⟨b.block,b.off,none⟩:Addr)=b:=by
  cases b with
  | mk b o s =>
   obtain rfl:s=none:=sR;rfl
 have tl:row0.length=K:=yW row0 (by simp);have fw:(jV cv n K).length=n*K:=mQ _ _ _;have a03:(jV vv 1 K).length=K:=by rw[mQ,Nat.one_mul]
 have kr:∀ (cv:Nat->Nat->Value) (rs:List (List D)) (r:Nat),(∀ r∈rs,r.length=K)->(∀ i row,rs[i]?=some row->∀ j d,row[j]?=some d->Rp G.own w r ([]++[i*K+j]) m (cv i j) d)->∀ u∈jV cv rs.length K,u.oneCell'=true:=by
  intro cv rs r ej dq u hu;obtain⟨k,hk⟩:=Sbt.1 hu;obtain⟨k1,k2,k3,rfl⟩:=zY hk;have h1:rs[k / K]?=some (rs[k / K]'(by omega)):=Rba (by omega);have h2:=ej _ (Rbn h1);have h3:(rs[k / K]'(by omega))[k % K]?=some ((rs[k / K]'(by omega))[k % K]'(by omega)):=Rba (by omega);exact (dq _ _ h1 _ _ h3).one
 have si:((i.toNat:Nat):Int)=i:=by omega
 refine .inl ⟨oG hf hname hb _ _,?_⟩
 have hW:=W A n c i.toNat b.block b.off c3 (jV cv n K) (jV vv 1 K) w (by omega) vr (by omega) fw a03 (hn▸kr cv rs 0 ej dq) (kr vv [row0] 1 yW xz) (fun e=>by
   rcases hA with h|⟨-,h⟩
   ·rw[h]at e;cases e
   ·exact h) (fun a' e=>by
   obtain rfl:a=a':=by
    rcases hA with h|⟨h,-⟩
    ·exact Rb5 (h.symm.trans e)
    ·rw[h]at e;cases e
   obtain⟨jb,mj,eM⟩:=cI e;have lv:=Ga0 jb;refine⟨jb,fun e=>?_,fun hc=>?_,fun k u hk=>?_,fun k hk=>?_⟩
   ·rw[e,a6o]at mj
    injection mj with h1 _
    cases h1
   ·obtain⟨u,-,hu⟩:=eM 0 (Nat.mul_pos hc hK)
    rw[lv]at hu;exact hu
   ·rw[<- lv]
    exact uE ej cV k u (hn.symm▸hk)
   ·obtain⟨u,hu,-⟩:=eM k hk
    rw[<- lv]
    exact⟨u,hu⟩) (fun k u hk=>by rw[<- ye];exact uE yW a0f k u hk) (by
   obtain⟨u,-,hu⟩:=wc 0 (Nat.mul_pos (by omega) hK);rw[ye]at hu;exact hu)
 have ev3:v3=.slice (some ⟨b.block,b.off,none⟩) 1 c3:=by rw[ea3];exact a2m
 rw[<- fk,si,<- ev3]at hW;refine hW.mono ?_
 rintro e w' ⟨B,o,cap,rfl,D⟩
 generalize hI:i.toNat=I at *;have hIn:I<=n:=by omega
 have a2y:∀ x,B≠x\/G.own x=.slc 0 []\/w.heap.size<=x:=by
  intro x
  rcases D.place with ⟨hp,-⟩|⟨hp,-⟩
  ·by_cases hx:B=x
   ·obtain⟨-,mj,-⟩:=cI (show A=some a by
     rcases hA with h|⟨h,-⟩
     ·exact h
     ·rw[h]at hp;cases hp)
    have:a=⟨B,o,none⟩:=by
     rcases hA with h|⟨h,-⟩
     ·exact Rb5 (h.symm.trans hp)
     ·rw[h]at hp;cases hp
    rw[this]at mj;exact .inr (.inl (hx▸mj))
   ·exact .inl hx
  ·by_cases hx:B=x
   ·exact .inr (.inr (by omega))
   ·exact .inl hx
 have hBlt:B<w'.heap.size:=by
  obtain⟨u,hu⟩:=D.all 0 (Nat.mul_pos (by have:=D.le;omega) hK);exact block_lt_of_cell hu
 have sC:w.heap.size<=w'.heap.size:=by
  rcases D.place with ⟨-,h,-⟩|⟨-,h,-⟩<;>omega
 have dk:∀ x,x<w.heap.size->G.own x≠.slc 0 []->w'.heap[x]?=w.heap[x]?:=fun x hx ho=>by
  rcases D.place with ⟨-,-,h⟩|⟨-,-,h⟩
  ·refine h x fun e=>?_
   rcases a2y x with h1|h1|h1
   ·exact h1 e.symm
   ·exact ho h1
   ·omega
  ·exact h x hx
 have bh:∀ x,G.own x≠.frz->x<w.heap.size:=fun x h=>by
  rcases Rbu x w.heap.size with h1|h1
  ·exact h1
  ·exact absurd (fL.fresh x h1) h
 have fy:∀ x,x<w.heap.size->G.own x≠.slc 0 []->(if x=B then Ow.slc 0 [] else Rak K I (G.own x))=Rak K I (G.own x):=fun x hx ho=>by
  rw[if_neg];intro e
  rcases a2y x with h|h|h
  ·exact h e.symm
  ·exact ho h
  ·omega
 have ru:∀ x,G.own x=.frz->x<w.heap.size->(if x=B then Ow.slc 0 [] else Rak K I (G.own x))=.frz/\w'.heap[x]?=w.heap[x]?:=fun x hx hl=>by
  have dz:G.own x≠.slc 0 []:=by rw[hx];exact fun h=>by cases h
  exact⟨by rw[fy x hl dz,hx];rfl,dk x hl dz⟩
 have ov:∀ {x r k:Nat} {p:List Nat},G.own x=.slc r (k::p)->(if x=B then Ow.slc 0 [] else Rak K I (G.own x))=Rak K I (.slc r (k::p))/\w'.heap[x]?=w.heap[x]?:=fun {x r k p} hx=>by
  have dz:G.own x≠.slc 0 []:=by rw[hx];exact fun h=>by injection h with _ h;cases h
  have hl:=bh x (by rw[hx];exact fun h=>by cases h);exact⟨by rw[fy x hl dz,hx],dk x hl dz⟩
 refine⟨{ G with own:=fun x=>if x=B then .slc 0 [] else Rak K I (G.own x) },[_],rfl,⟨D.rest.1,D.rest.2.1,D.rest.2.2,sC,fun x hx ho=>?_,fun x q hx ho=>?_,fun x hx=>?_⟩,⟨_,_,_,rfl,⟨_,_,rfl,?_,rfl⟩,rfl,rfl⟩,trivial,trivial⟩
 ·change G.own x=_\/G.own x=_ at ho
  have dz:G.own x≠.slc 0 []:=by rcases ho with h|h<;>rw[h]<;>exact fun h=>by cases h
  refine⟨dk x hx dz,?_⟩;show (if x=B then Ow.slc 0 [] else Rak K I (G.own x))=G.own x
  rw[fy x hx dz]
  rcases ho with h|h<;>rw[h]<;>rfl
 ·exact absurd (fL.cells x q hx ho).1 (Nat.not_lt_zero _)
 ·show (if x=B then Ow.slc 0 [] else Rak K I (G.own x))=.frz
  rw[if_neg (by omega),fL.fresh x (by omega)];rfl
 ·show Rp (fun x=>if x=B then .slc 0 [] else Rak K I (G.own x)) w' 0 [] (m+1) (.slice (some ⟨B,o,none⟩) (n+1) cap) (.rows K (rs.take I++row0::rs.drop I))
  have lv:∀ k,(⟨B,o,none⟩:Addr).add k=⟨B,o+k,none⟩:=fun k=>Ga0 (a:=⟨B,o,none⟩) rfl k
  have gr:∀ r row,(rs.take I++row0::rs.drop I)[r]?=some row->(r<I/\rs[r]?=some row)\/(r=I/\row=row0)\/(I<r/\rs[r-1]?=some row):=by
   intro r row hr;have iz:(rs.take I).length=I:=by rw[Rbv];omega
   rcases Nat.lt_trichotomy r I with h|h|h
   ·rw[Rbm (by omega),Sbe,if_pos h]at hr
    exact .inl ⟨h,hr⟩
   ·subst h
    rw[Rbj (by omega),iz,Nat.sub_self,List.getElem?_cons_zero]at hr;exact .inr (.inl ⟨rfl,(Rb5 hr).symm⟩)
   ·rw[Rbj (by omega),iz,show r-I=(r-I-1)+1 by omega,List.getElem?_cons_succ,Sba,show I+(r-I-1)=r-1 by omega]at hr
    exact .inr (.inr ⟨h,hr⟩)
  have hIK:I*K<=n*K:=Rb7 K hIn;have a2b:((jV cv n K).take (I*K)).length=I*K:=by rw[Rbv,fw];omega
  refine .sl (some ⟨B,o,none⟩) ⟨B,o,none⟩ _ cap K _ (fun r q=>if r<I then cv r q else if r=I then vv 0 q else cv (r-1) q) ?_ D.le (.inl rfl) (fun row hr=>?_) (fun _=>⟨rfl,if_pos rfl,fun k hk=>?_⟩) (fun r row hr q d hq=>?_) (fun r row hr q d hq=>?_)
  ·rw[Rbh,Rbv,Rbw,Sbj];omega
  ·rcases Rbq.1 hr with h|h
   ·exact ej row (Tb4 h)
   ·rcases Rbg.1 h with h|h
    ·rw[h];exact tl
    ·exact ej row (Sbx h)
  ·obtain⟨u,hu⟩:=D.all k hk
   rw[lv];refine⟨u,hu,?_⟩;have:=D.fz;unfold fzq at this ⊢;exact this
  ·rw[lv]
   refine D.cell _ _ ?_
   rcases gr r row hr with ⟨h,h1⟩|⟨h,h1⟩|⟨h,h1⟩
   ·rw[if_pos h]
    have pC:q<K:=by rw[<- ej row (Rbn h1)];exact (Qb8.1 hq).1
    have h2:=Rb7 K (show r+1<=I by omega);rw[Sbs]at h2;rw[Rbd,Rbm (by omega),Sbe,if_pos (by omega)];exact nW cv (by omega) pC
   ·subst h h1
    rw[if_neg (by omega),if_pos rfl];have pC:q<K:=by rw[<- tl];exact (Qb8.1 hq).1
    rw[Rbd,Rbj (by omega),a2b,Nat.add_sub_cancel_left,Rbm (by omega)];have:=nW vv (n:=1) (i:=0) (by omega) pC;rwa[Nat.zero_mul,Rb2]at this
   ·rw[if_neg (by omega),if_neg (by omega)]
    have pC:q<K:=by rw[<- ej row (Rbn h1)];exact (Qb8.1 hq).1
    have pk:r-1<n:=by rw[<- hn];exact (Qb8.1 h1).1
    have h2:=Rb7 K (show I+1<=r by omega);rw[Sbs]at h2;rw[Rbd,Rbj (by omega),a2b,Rbj (by omega),a03,Sba]
    have e1:I*K+(r*K+q-I*K-K)=(r-1)*K+q:=by
     rw[Nat.sub_mul];omega
    rw[e1];exact nW cv pk pC
  ·rcases gr r row hr with ⟨h,h1⟩|⟨h,h1⟩|⟨h,h1⟩
   ·rw[if_pos h]
    have pC:q<K:=by rw[<- ej row (Rbn h1)];exact (Qb8.1 hq).1
    have:=(dq r row h1 q d hq).mono' (own':=fun x=>if x=B then .slc 0 [] else Rak K I (G.own x)) (w':=w') (r':=0) (q:=[r*K+q]) (q':=[r*K+q]) ru [] (by simp) (fun x t hx=>⟨(ov hx).1.trans (Eb4 hK pC h),(ov hx).2⟩);simpa using this
   ·subst h h1
    rw[if_neg (by omega),if_pos rfl];have pC:q<K:=by rw[<- tl];exact (Qb8.1 hq).1
    have:=(xz 0 row rfl q d hq).mono' (own':=fun x=>if x=B then .slc 0 [] else Rak K r (G.own x)) (w':=w') (r':=0) (q:=[0*K+q]) (q':=[r*K+q]) ru [] (by simp) (fun x t hx=>⟨(ov hx).1.trans (by rw[Nat.zero_mul,Rb2];rfl),(ov hx).2⟩);simpa using this
   ·rw[if_neg (by omega),if_neg (by omega)]
    have pC:q<K:=by rw[<- ej row (Rbn h1)];exact (Qb8.1 hq).1
    have:=(dq _ row h1 q d hq).mono' (own':=fun x=>if x=B then .slc 0 [] else Rak K I (G.own x)) (w':=w') (r':=0) (q:=[(r-1)*K+q]) (q':=[r*K+q]) ru [] (by simp) (fun x t hx=>⟨(ov hx).1.trans (by rw[List.singleton_append,Za1 hK pC (by omega),show r-1+1=r by omega];rfl),(ov hx).2⟩);simpa using this
theorem Zaw {f K m key : Nat} {fn : Func} {cd : Code} {T : Nat -> Ent} {ti : Nat -> Option TI} {sigs : List (Nat × Sig)} (hf : P.funcs[f]? = some fn) (hname : (fn.name == "runtime.NumGoroutine") = false) (hb : fn.body = some cd) (hK : 0 < K) (W : Oai P f K) (hT : T key = .ext (Bbp K)) :
  Ran P T ti sigs key ⟨f,[(false,[.ow (m+1)]),(false,[.sc]),(false,[.ow (m+1)])],[],[(false,[.ow (m+1)])]⟩:=.inr ⟨_,hT,Mbw hf hname hb hK W⟩
end
section
open Go.Proofs Go.Shelf Go.RowKit Go.Lib
variable {P:Program}
theorem Dau {w:World}{b o:Nat}{vs:List Value}(h:∀ j,j<vs.length->(w.cell? ⟨b,o+j,none⟩).isSome=true){k:Nat}{u:Value}(hk:vs[k]?=some u):(w.setCells b o vs).cell? ⟨b,o+k,none⟩=some u:=by
 have hl:=(Qb8.1 hk).1;rw[World.cell?_setCells_in b vs o w h k hl];rw[<- hk,Rba hl]
theorem rV {w:World}{b o k:Nat}{vs:List Value}(h:k<o\/o+vs.length<=k):(w.setCells b o vs).cell? ⟨b,k,none⟩=w.cell? ⟨b,k,none⟩ :=
 World.cell?_setCells_out b vs o w _ fun _ _=>h
theorem pQ {w:World}{b o:Nat}{v:Value}(h:w.cell? ⟨b,o,none⟩=some v):∃ t k,w.shape? b=some (t,k)/\k≠0:=by
 unfold World.cell? at h;unfold World.shape?;simp only at h
 cases hb:w.heap[b]? with
 |none=>rw[hb]at h;cases h
 | some o' =>
  rw[hb]at h
  cases o' with
  | cells c e fr =>
   refine⟨e,c.size,rfl,fun hz=>?_⟩;have:c=#[]:=Array.eq_empty_of_size_eq_zero hz;subst this;simp at h
  |_=>simp at h
theorem Fa1 {w:World}(c:Array Value)(t:TypeId)(o:Nat):fzq (w.alloc (.cells c t)) ⟨w.heap.size,o,none⟩=false:=by
 unfold fzq World.alloc;simp
theorem Qac {w w':World}{b o n c i K:Nat}{cs vs:List Value}(hi:i<n)(dv:n+1<=c)(fw:cs.length=n*K)(iS:vs.length=K)(jr:fzq w ⟨b,o,none⟩=false)
  (gE:∀ k u,cs[k]?=some u->w.cell? ⟨b,o+k,none⟩=some u) (df:∀ k,k<c*K->∃ u,w.cell? ⟨b,o+k,none⟩=some u)
  (hw:w'=(w.drew.setCells b (o+(i+1)*K) (cs.drop (i*K))).setCells b (o+i*K) vs) :
  Jac w w' (some ⟨b,o,none⟩) n c K (cs.take (i*K)++vs++cs.drop (i*K)) b o:=by
 have hIK:(i+1)*K=i*K+K:=Ubw i K;have uz:(n+1)*K<=c*K:=Rb7 K dv;have jc:(i+1)*K<=n*K:=Rb7 K hi;rw[Ubw]at uz;have lE:(cs.drop (i*K)).length=n*K-i*K:=by rw[Sbj,fw]
 have py:∀ j,j<(cs.drop (i*K)).length->(w.drew.cell? ⟨b,o+(i+1)*K+j,none⟩).isSome=true:=fun j hj=>by
  obtain⟨u,hu⟩:=df ((i+1)*K+j) (by omega);rw[<- Rbp]at hu;show (w.cell? _).isSome=true
  rw[hu];rfl
 have ma:∀ k,k<c*K->∃ u,(w.drew.setCells b (o+(i+1)*K) (cs.drop (i*K))).cell? ⟨b,o+k,none⟩=some u:=fun k hk=>by
  obtain⟨u,hu⟩:=df k hk;exact dV (w:=w.drew) (fun _=>rfl) py hu
 have qj:∀ j,j<vs.length->((w.drew.setCells b (o+(i+1)*K) (cs.drop (i*K))).cell? ⟨b,o+i*K+j,none⟩).isSome=true:=fun j hj=>by
  obtain⟨u,hu⟩:=ma (i*K+j) (by omega);rw[<- Rbp]at hu;rw[hu];rfl
 subst hw;refine⟨dv,.inl ⟨rfl,?_,fun x hx=>?_⟩,fun k u hk=>?_,fun k hk=>?_,?_,?_⟩
 ·rw[setCells_size,setCells_size];rfl
 ·rw[bO _ _ _ _ _ hx,bO _ _ _ _ _ hx];rfl
 ·have iz:(cs.take (i*K)).length=i*K:=by rw[Rbv];omega
  rcases Rbu k (i*K) with h|h
  ·rw[Rbd,Rbm (by omega),Sbe,if_pos h]at hk
   rw[rV (by omega),rV (by omega)];exact gE k u hk
  ·rcases Rbu k (i*K+K) with h2|h2
   ·rw[Rbd,Rbj (by omega),iz,Rbm (by omega)]at hk
    have:=Dau qj hk;rwa[show o+i*K+(k-i*K)=o+k by omega]at this
   ·rw[Rbj (by rw[Rbh];omega),Rbh,iz,iS]at hk
    have:=Dau py hk;rw[rV (by omega)];rwa[show o+(i+1)*K+(k-(i*K+K))=o+k by omega]at this
 ·obtain⟨u,hu⟩:=ma k hk
  exact dV (fun _=>rfl) qj hu
 ·rw[fD,fD];exact jr
 ·have h1:=dP b vs (o+i*K) (w.drew.setCells b (o+(i+1)*K) (cs.drop (i*K)))
  have h2:=dP b (cs.drop (i*K)) (o+(i+1)*K) w.drew;exact⟨h1.1.trans h2.1,h1.2.1.trans h2.2.1,h1.2.2.trans h2.2.2⟩
theorem Fax {w w':World}{b o n c K:Nat}{cs vs:List Value}(dv:n+1<=c)(fw:cs.length=n*K)(iS:vs.length=K)(jr:fzq w ⟨b,o,none⟩=false)
  (gE:∀ k u,cs[k]?=some u->w.cell? ⟨b,o+k,none⟩=some u) (df:∀ k,k<c*K->∃ u,w.cell? ⟨b,o+k,none⟩=some u)
  (hw:w'=w.setCells b (o+n*K) vs) :
  Jac w w' (some ⟨b,o,none⟩) n c K (cs.take (n*K)++vs++cs.drop (n*K)) b o:=by
 have uz:(n+1)*K<=c*K:=Rb7 K dv;rw[Ubw]at uz
 have hex:∀ j,j<vs.length->(w.cell? ⟨b,o+n*K+j,none⟩).isSome=true:=fun j hj=>by
  obtain⟨u,hu⟩:=df (n*K+j) (by omega);rw[<- Rbp]at hu;rw[hu];rfl
 rw[<- fw,Sbw,Ubx,Rb1];subst hw;refine⟨dv,.inl ⟨rfl,?_,fun x hx=>?_⟩,fun k u hk=>?_,fun k hk=>?_,?_,dP b vs _ w⟩
 ·rw[setCells_size]
 ·rw[bO _ _ _ _ _ hx]
 ·rcases Rbu k (n*K) with h|h
  ·rw[Rbm (by omega)]at hk
   rw[rV (by omega)];exact gE k u hk
  ·rw[Rbj (by omega),fw]at hk
   have:=Dau hex hk;rwa[show o+n*K+(k-n*K)=o+k by omega]at this
 ·obtain⟨u,hu⟩:=df k hk
  exact dV (fun _=>rfl) hex hu
 ·rw[fD];exact jr
theorem Fay {w w':World}{A:Option Addr}{n G K:Nat}{cs vs:List Value}{zs:Array Value}{t:TypeId}(hG:n+1<=G)(fw:cs.length=n*K)(iS:vs.length=K)(hz:zs.size=(G-(n+1))*K)
  (hw:w'=w.drew.alloc (.cells ((cs++vs).toArray++zs) t)) :
  Jac w w' A n G K (cs.take (n*K)++vs++cs.drop (n*K)) w.heap.size 0:=by
 have hl:(cs++vs).length=(n+1)*K:=by rw[Rbh,fw,iS,Ubw]
 have hs:((cs++vs).toArray++zs).size=G*K:=by
  rw[Ubp,Tb7,hl,hz,<- Sbs];congr 1;omega
 rw[show cs.take (n*K)++vs++cs.drop (n*K)=cs++vs by rw[<- fw,Sbw,Ubx,Rb1]];subst hw;refine⟨hG,.inr ⟨rfl,?_,fun x hx=>?_⟩,fun k u hk=>?_,fun k hk=>?_,Fa1 (w:=w.drew) _ _ _,rfl,rfl,rfl⟩
 ·show (w.heap.push _).size=_;rw[Array.size_push]
 ·show (w.heap.push _)[x]?=_;rw[Ube];rw[if_neg (by omega)]
 ·have bh:=(Qb8.1 hk).1
  rw[World.cell?_alloc_at (w:=w.drew) _ _ w.heap.size _ rfl,Rb2,Ubd (by rw[Tb7];exact bh)];simpa using hk
 ·rw[World.cell?_alloc_at (w:=w.drew) _ _ w.heap.size _ rfl,Rb2]
  exact⟨_,Rb9 (by omega)⟩
theorem Uaj {w w':World}{A:Option Addr}{n G i K:Nat}{cs vs:List Value}{z1 z2:Array Value}{t:TypeId}(hi:i<n)(hG:n+1<=G)(fw:cs.length=n*K)(iS:vs.length=K)(h1:z1.size=(n+1-i)*K)(h2:z2.size=(G-(n+1))*K)
  (hw:w'=(((w.alloc (.cells ((cs.take (i*K)).toArray++z1++z2) t)).drew.setCells w.heap.size (i*K) vs).drew).setCells w.heap.size ((i+1)*K) (cs.drop (i*K))) :
  Jac w w' A n G K (cs.take (i*K)++vs++cs.drop (i*K)) w.heap.size 0:=by
 have hIK:(i+1)*K=i*K+K:=Ubw i K;have jc:(i+1)*K<=n*K:=Rb7 K hi;have hnG:(n+1)*K<=G*K:=Rb7 K hG;have hnK:(n+1)*K=n*K+K:=Ubw n K;have htl:(cs.take (i*K)).length=i*K:=by rw[Rbv];omega
 have lE:(cs.drop (i*K)).length=n*K-i*K:=by rw[Sbj,fw]
 have hs:((cs.take (i*K)).toArray++z1++z2).size=G*K:=by
  rw[Ubp,Ubp,Tb7,htl,h1,h2,<- Sbs,<- Sbs];congr 1;omega
 generalize hR:(cs.take (i*K)).toArray++z1++z2=R at *
 have tz:∀ k u,k<i*K->cs[k]?=some u->R[k]?=some u:=fun k u hk h=>by
  rw[<- hR,Array.append_assoc,Ubd (by rw[Tb7,htl];exact hk)];rw[List.getElem?_toArray,Sbe,if_pos hk];exact h
 have wy:∀ k,k<G*K->∃ u,((w.alloc (.cells R t)).drew).cell? ⟨w.heap.size,k,none⟩=some u:=fun k hk=>by
  show ∃ u,(w.alloc (.cells R t)).cell? ⟨w.heap.size,k,none⟩=some u
  rw[World.cell?_alloc_at _ _ _ _ rfl];exact⟨_,Rb9 (by omega)⟩
 have py:∀ j,j<vs.length->(((w.alloc (.cells R t)).drew).cell? ⟨w.heap.size,i*K+j,none⟩).isSome=true:=fun j hj=>by
  obtain⟨u,hu⟩:=wy (i*K+j) (by omega);rw[hu];rfl
 have ma:∀ k,k<G*K->∃ u,(((w.alloc (.cells R t)).drew.setCells w.heap.size (i*K) vs).drew).cell? ⟨w.heap.size,k,none⟩=some u:=fun k hk=>by
  obtain⟨u,hu⟩:=wy k hk;exact dV (w:=(w.alloc (.cells R t)).drew) (fun _=>rfl) py hu
 have qj:∀ j,j<(cs.drop (i*K)).length->((((w.alloc (.cells R t)).drew.setCells w.heap.size (i*K) vs).drew).cell? ⟨w.heap.size,(i+1)*K+j,none⟩).isSome=true:=fun j hj=>by
  obtain⟨u,hu⟩:=ma ((i+1)*K+j) (by omega);rw[hu];rfl
 subst hw;refine⟨hG,.inr ⟨rfl,?_,fun x hx=>?_⟩,fun k u hk=>?_,fun k hk=>?_,?_,?_⟩
 ·rw[setCells_size]
  show (((w.alloc (.cells R t)).drew.setCells w.heap.size (i*K) vs)).heap.size=_
  rw[setCells_size];show (w.heap.push _).size=_;rw[Array.size_push]
 ·rw[bO _ _ _ _ _ (by omega)]
  show (((w.alloc (.cells R t)).drew.setCells w.heap.size (i*K) vs)).heap[x]?=_
  rw[bO _ _ _ _ _ (by omega)];show (w.heap.push _)[x]?=_;rw[Ube];rw[if_neg (by omega)]
 ·rw[Rb2]
  rcases Rbu k (i*K) with h|h
  ·rw[Rbd,Rbm (by omega),Sbe,if_pos h]at hk
   rw[rV (by omega)];show ((w.alloc (.cells R t)).drew.setCells w.heap.size (i*K) vs).cell? _=_
   rw[rV (by omega)];show (w.alloc (.cells R t)).cell? _=_
   rw[World.cell?_alloc_at _ _ _ _ rfl];exact tz k u h hk
  ·rcases Rbu k (i*K+K) with h2|h2
   ·rw[Rbd,Rbj (by omega),htl,Rbm (by omega)]at hk
    have:=Dau py hk;rw[rV (by omega)];show ((w.alloc (.cells R t)).drew.setCells w.heap.size (i*K) vs).cell? _=_
    rwa[show i*K+(k-i*K)=k by omega]at this
   ·rw[Rbj (by rw[Rbh];omega),Rbh,htl,iS]at hk
    have:=Dau qj hk;rwa[show (i+1)*K+(k-(i*K+K))=k by omega]at this
 ·rw[Rb2]
  obtain⟨u,hu⟩:=ma k hk;exact dV (fun _=>rfl) qj hu
 ·rw[fD]
  show fzq ((w.alloc (.cells R t)).drew.setCells w.heap.size (i*K) vs) _=false
  rw[fD];exact Fa1 R t 0
 ·have a:=dP w.heap.size (cs.drop (i*K)) ((i+1)*K) (((w.alloc (.cells R t)).drew.setCells w.heap.size (i*K) vs).drew)
  have b:=dP w.heap.size vs (i*K) ((w.alloc (.cells R t)).drew);exact⟨a.1.trans b.1,a.2.1.trans b.2.1,a.2.2.trans b.2.2⟩
end
class Enc (α:Type) where
 sz:Nat
 enc:α->List D
 len:∀ a,(enc a).length=sz
instance:Enc Int:=⟨1,fun n=>[i64 n],fun _=>rfl⟩
instance:Enc Bool:=⟨1,fun b=>[.bool b],fun _=>rfl⟩
instance:Enc (List UInt8):=⟨1,fun s=>[.str s],fun _=>rfl⟩
def rL {α:Type}[Enc α](xs:List α):D:=.rows (Enc.sz α) (xs.map Enc.enc)
instance {α:Type} [Enc α]:Enc (List α):=⟨1,fun xs=>[rL xs],fun _=>rfl⟩
def InB {α:Type}(xs:List α)(k:Int):Prop:=0<=k/\k<xs.length
def atI {α:Type}[Inhabited α](xs:List α)(k:Int):α:=xs.getD k.toNat default
def dK {α:Type}(xs:List α)(k:Int)(a:α):List α:=xs.set k.toNat a
theorem aN {α:Type}{xs:List α}{i:Nat}:InB xs (i:Int)↔i<xs.length:=by unfold InB;omega
theorem wE {α:Type}[Inhabited α]{xs:List α}{i:Nat}:atI xs (i:Int)=xs.getD i default:=rfl
theorem bN {α:Type}[Inhabited α]{xs:List α}{i:Nat}(h:i<xs.length):atI xs (i:Int)=xs[i]:=by
 rw[wE,Rbi,Rba h];rfl
theorem InB.lt {α:Type}{xs:List α}{k:Int}(h:InB xs k):k.toNat<xs.length:=by unfold InB at h;omega
def tick:Nat:=0
def Qbr:Nat:=0
def jY {γ:Type}(c:Bool)(a b:γ):γ:=match c with
 |true=>a
 |false=>b
theorem Waa {γ:Type}{a b:γ}:jY true a b=a:=rfl
theorem Sav {γ:Type}{a b:γ}:jY false a b=b:=rfl
@[congr] theorem Ibn {γ:Type} {c c':Bool} {a b:γ} (h:c=c') {dd:Nat} (hd:tick=dd):jY c a b=jY c' a b:=by rw[h]
theorem aA {γ:Type}{c:Bool}{a b r:γ}(h1:c=true->a=r)(h2:c=false->b=r):jY c a b=r:=by
 cases c with
 |true=>exact h1 rfl
 |false=>exact h2 rfl
section
variable {T:Nat->Ent} {β:Type}
@[congr] theorem Nbx {t:Tm β} {ρ gy:List D} (h:ρ=gy) {dd:Nat} (hd:tick=dd):Er T t ρ=Er T t gy:=by rw[h]
@[congr] theorem Hbg {k:Tm β} {ρ gy:List D} {n:Nat} {a a':Option (List D)} (h:ρ=gy) (h2:a=a') {dd:Nat} (hd:tick=dd):stepT T k ρ n a=stepT T k gy n a':=by rw[h,h2]
@[congr] theorem Gb8 {i:Nat} {k:Tm β} {ρ gy:List D} {r r':Option (Kind×List D)} (h:ρ=gy) (h2:r=r') {dd:Nat} (hd:tick=dd):pO T i k ρ r=pO T i k gy r':=by rw[h,h2]
@[congr] theorem Mbc {p:aS} {xs xs':List D} (h:xs=xs') {dd:Nat} (hd:tick=dd):p.run xs=p.run xs':=by rw[h]
def nth:List D->Nat->D
 |[],_=>.undef
 |a::_,0=>a
 |_::r,n+1=>nth r n
theorem Pbu {a:D}{r:List D}:nth (a::r) 0=a:=rfl
theorem Pbt {a:D}{r:List D}{n:Nat}:nth (a::r) (n+1)=nth r n:=rfl
theorem Uac (r:List D)(n:Nat):r.getD n .undef=nth r n:=by
 induction r generalizing n with
 |nil=>rfl
 | cons a r ih => cases n with
  |zero=>rfl
  |succ n=>exact ih n
def vals (ρ:List D):List aP->List D
 |[]=>[]
 |.v i::r=>nth ρ i::vals ρ r
 |.c d::r=>d::vals ρ r
@[congr] theorem Jbb {ρ gy:List D} {xs:List aP} (h:ρ=gy) {dd:Nat} (hd:tick=dd):vals ρ xs=vals gy xs:=by rw[h]
theorem yX (ρ:List D)(xs:List aP):xs.map (·.val ρ)=vals ρ xs:=by
 induction xs with
 |nil=>rfl
 | cons x xs ih =>
  rw[Rby,ih]
  cases x with
  |v i=>show ρ.getD i .undef::_=_;rw[Uac];rfl
  |c d=>rfl
theorem Jbk {ρ:List D}:vals ρ []=[]:=rfl
theorem Jbj {ρ:List D}{i:Nat}{r:List aP}:vals ρ (.v i::r)=nth ρ i::vals ρ r:=rfl
theorem Jbl {ρ:List D}{d:D}{r:List aP}:vals ρ (.c d::r)=d::vals ρ r:=rfl
def Ua7 (ρ:List D):aP->D
 |.v i=>nth ρ i
 |.c d=>d
theorem Jbm {ρ:List D}{i:Nat}:Ua7 ρ (.v i)=nth ρ i:=rfl
theorem Jbn {ρ:List D}{d:D}:Ua7 ρ (.c d)=d:=rfl
theorem Lae (ρ:List D)(a:aP):a.val ρ=Ua7 ρ a:=by
 cases a with
 |v i=>exact Uac ρ i
 |c d=>rfl
@[congr] theorem Jbc {ρ gy:List D} {a:aP} (h:ρ=gy) {dd:Nat} (hd:tick=dd):Ua7 ρ a=Ua7 gy a:=by rw[h]
theorem Ib7 (k:Kind)(xs:List aP)(e:β)(ρ:List D):Er T (.leaf k xs e) ρ=some (k,vals ρ xs):=by rw[Ib5,yX]
theorem Qbd (p:aS)(xs:List aP)(n:Nat)(k:Tm β)(ρ:List D):Er T (.lt none p xs n k) ρ=stepT T k ρ n (p.run (vals ρ xs)):=by rw[Nbf,yX]
theorem Ib8 (f:Nat)(xs:List aP)(n:Nat)(os:List aP)(k:Tm β)(ρ:List D):Er T (.call none f xs n os k) ρ=stepT T k ρ n (Fun T f (vals ρ xs)):=by rw[Fb4,yX]
def Baf (w:Bool)(a b:Option (Kind×List D))(c:D):Option (Kind×List D):=if gdR c w=true then a else b
@[congr] theorem Ibk {w:Bool} {a b:Option (Kind×List D)} {c c':D} (h:c=c') {dd:Nat} (hd:tick=dd):Baf w a b c=Baf w a b c':=by rw[h]
theorem Ibi {a b:Option (Kind×List D)}{c:Bool}:Baf true a b (.bool c)=jY c a b:=by cases c<;>rfl
theorem Ibj {a b:Option (Kind×List D)}{c:Bool}:Baf false a b (.bool c)=jY c b a:=by cases c<;>rfl
theorem Ibh {w:Bool}{a b:Option (Kind×List D)}:Baf w a b .undef=b:=by simp[Baf,gdR]
theorem Nbh (a:aP)(w:Bool)(p:aS)(xs:List aP)(n:Nat)(k:Tm β)(ρ:List D) :
  Er T (.lt (some (a,w)) p xs n k) ρ=Baf w (stepT T k ρ n (p.run (vals ρ xs))) (Er T k (ρ++Rbs n .undef)) (Ua7 ρ a):=by
 rw[Nbe,ltT,Baf,yX,Lae]
theorem Fb5 (a:aP)(w:Bool)(f:Nat)(xs:List aP)(n:Nat)(os:List aP)(k:Tm β)(ρ:List D) :
  Er T (.call (some (a,w)) f xs n os k) ρ=Baf w (stepT T k ρ n (Fun T f (vals ρ xs))) (Er T k (ρ++(Rbs (n-os.length) .undef++vals ρ os))) (Ua7 ρ a):=by
 rw[Fb3,Ibt,Baf,yX,yX,Lae]
def Rar {γ:Type}(a b:Option γ)(c:D):Option γ:=Qbl c a b
@[congr] theorem Gb9 {γ:Type} {a b:Option γ} {c c':D} (h:c=c') {dd:Nat} (hd:tick=dd):Rar a b c=Rar a b c':=by rw[h]
theorem Hba {γ:Type}{a b:Option γ}{c:Bool}:Rar a b (.bool c)=jY c a b:=by cases c<;>rfl
theorem Nbi (c:aP)(t e:Tm β)(ρ:List D):Er T (.ite c t e) ρ=Rar (Er T t ρ) (Er T e ρ) (Ua7 ρ c):=by rw[Nbg,Pbx,Rar,Lae]
theorem Ib9 (i:Nat)(t k:Tm β)(ρ:List D):Er T (.bind i t k) ρ=pO T i k ρ (Er T t ρ):=Ib6 i t k ρ
theorem Vaa {i:Nat}{k:Tm β}{ρ:List D}{c:Bool}{a b:Option (Kind×List D)}:pO T i k ρ (jY c a b)=jY c (pO T i k ρ a) (pO T i k ρ b):=by cases c<;>rfl
theorem Raq {i j:Nat}{k:Tm β}{ρ ds:List D}:pO T i k ρ (some (.yield j,ds))=if j=i then Er T k (ρ++ds) else some (.yield j,ds):=by
 by_cases h:j=i
 ·subst h;rw[Ua9,if_pos rfl]
 ·rw[Eba h,if_neg h]
noncomputable def fin (o:Option (Kind×List D)):Option (List D):=o.bind Qbh
theorem Eb6 {c:Bool}{a b:Option (Kind×List D)}:fin (jY c a b)=jY c (fin a) (fin b):=by cases c<;>rfl
theorem Ibo {ds:List D}:fin (some (.ret,ds))=some ds:=rfl
theorem aK {f:Nat}{t:Tm Unit}(h:T f=.tm t)(args:List D):Fun T f args=fin (Er T t args):=Qbc h args
theorem Pb6 {ρ:List D}:ρ++[]=ρ:=Rb1 ρ
theorem Pb7 {a:D}{r s:List D}:(a::r)++s=a::(r++s):=rfl
theorem Pb8 {s:List D}:[]++s=s:=rfl
theorem Hbf {k:Tm β}{ρ ds:List D}{n:Nat}:stepT T k ρ n (some ds)=if ds.length=n then Er T k (ρ++ds) else none:=rfl
end
section
variable {α:Type} [Enc α]
theorem Mbh {xs:List α}:aS.len.run [rL xs]=some [i64 xs.length]:=by simp[rL,aS.run]
theorem Mbi {xs:List α}{k:Int}(h:InB xs k):aS.inb.run [rL xs,i64 k]=some []:=by
 unfold InB at h;simp only[rL,aS.run,Rb4];rw[if_pos ⟨h.1,h.2⟩]
def rowOf (off:Nat)(ks:List Bool)(r:List D):Option (List D):=if off+ks.length<=r.length/\Eat ks (r.drop off)=true then some ((r.drop off).take ks.length) else none
theorem dA [Inhabited α]{xs:List α}{k:Int}{sz off:Nat}{ks:List Bool}(hs:Enc.sz α=sz)(h:InB xs k):(aS.row sz off ks).run [rL xs,i64 k]=rowOf off ks (Enc.enc (atI xs k)):=by
 have h2:=h.lt;unfold InB at h;subst hs
 have e:xs[k.toNat]?=some (atI xs k):=by
  rw[Rba h2,atI,Rbi,Rba h2];rfl
 simp only[rL,aS.run,Sbd,e,Sbq];simp only[true_and];rw[if_pos h.1];rfl
theorem dC [Inhabited α]{xs:List α}{k:Int}{sz off n:Nat}{vs:List D}{a:α}(hs:Enc.sz α=sz)(hl:vs.length=n)(ho:off+n<=sz)(ha:Enc.enc a=(Enc.enc (atI xs k)).take off++vs++(Enc.enc (atI xs k)).drop (off+n))(h:InB xs k) :
  (aS.set sz off n).run (rL xs::i64 k::vs)=some [rL (dK xs k a)]:=by
 have h2:=h.lt;unfold InB at h;subst hs
 have e:xs[k.toNat]?=some (atI xs k):=by
  rw[Rba h2,atI,Rbi,Rba h2];rfl
 simp only[rL,aS.run,Sbd,e,Sbq];simp only[true_and];rw[if_pos h.1,if_pos ⟨by rw[Enc.len];exact ho,hl⟩,<- ha,dK,List.map_set]
theorem Ma9 {b:Nat}{n:Int}{zero:List D}{a:α}(ha:Enc.enc a=zero)(h:0<=n)(h2:n.toNat*b<=iM):(aS.make b zero).run [i64 n]=some [rL (Rbs n.toNat a)]:=by
 simp only[aS.run];rw[if_pos ⟨h,h2⟩,rL,List.map_replicate,ha,<- Enc.len a,ha]
theorem Ya5 {sz:Nat}{vs:List D}{a:α}(hs:Enc.sz α=sz)(ha:Enc.enc a=vs):(aS.mk sz 1).run vs=some [rL [a]]:=by
 subst hs;subst ha
 have:=Enc.len a;simp[rL,aS.run,chunk,this,List.take_of_length_le (Nat.le_of_eq this)]
theorem Fat {sz b:Nat}{fl:Bool}{xs ys:List α}(hs:Enc.sz α=sz)(hf:fl=true->∀ a:α,(Enc.enc a).all D.isSc=true)(h:(xs.length+ys.length)*b<=iM):(aS.app sz b fl).run [rL xs,rL ys]=some [rL (xs++ys)]:=by
 subst hs
 have df:(!fl||(xs.map Enc.enc++ys.map Enc.enc).all fun r=>r.all D.isSc)=true:=by
  cases fl with
  |false=>rfl
  | true =>
   rw[Sbf,Tbn,<- Tb3,List.all_map,Rb6];exact fun a _=>hf rfl a
 simp only[rL,aS.run,Rb4];rw[if_pos ⟨trivial,trivial,df,h⟩,<- Tb3]
theorem Aa8 {sz b:Nat}{fl:Bool}{ys:List α}(hs:Enc.sz α=sz)(hf:fl=true->∀ a:α,(Enc.enc a).all D.isSc=true)(h:ys.length*b<=iM):(aS.app sz b fl).run [.rows sz [],rL ys]=some [rL ys]:=by
 have:=Fat (xs:=[]) (ys:=ys) (b:=b) hs hf (by simpa using h);subst hs;exact this
theorem Mbf {sz:Nat}{fl:Bool}{xs:List α}{lo hi:Int}(hs:Enc.sz α=sz)(hf:fl=true->∀ a:α,(Enc.enc a).all D.isSc=true)(h0:0<=lo)(h1:lo<=hi)(h2:hi<=xs.length):(aS.sub sz fl).run [rL xs,i64 lo,i64 hi]=some [rL ((xs.take hi.toNat).drop lo.toNat)]:=by
 subst hs
 have df:(!fl||(xs.map Enc.enc).all fun r=>r.all D.isSc)=true:=by
  cases fl with
  |false=>rfl
  | true =>
   rw[Sbf,Tbn,List.all_map,Rb6];exact fun a _=>hf rfl a
 simp only[rL,aS.run,Rb4];rw[if_pos ⟨trivial,df,h0,h1,h2⟩,<- List.map_take,<- List.map_drop]
theorem Gbf {xs:List α}:aS.emp.run [rL xs]=some [.bool xs.isEmpty]:=by simp[rL,aS.run]
theorem Mbg {x:α}{xs:List α}:aS.ne.run [rL (x::xs)]=some []:=by simp[rL,aS.run]
class Fits (α:Type) [Enc α] (m:Nat):Prop where
 fits:∀ a:α,(Enc.enc a).all (rJ m)=true
theorem Mbj {m:Nat}[Fits α m]{xs:List α}:(aS.dep (m+1)).run [rL xs]=some []:=by
 have:rJ (m+1) (rL xs)=true:=by
  unfold rL;simp only[rJ,List.all_map,Rb6];intro a _;exact Fits.fits a
 simp only[aS.run,this,if_true]
end
instance {m:Nat}:Fits Int m:=⟨fun a=>by cases m<;>rfl⟩
instance {m:Nat}:Fits Bool m:=⟨fun a=>by cases m<;>rfl⟩
instance {m:Nat}:Fits (List UInt8) m:=⟨fun a=>by cases m<;>rfl⟩
theorem yI {α:Type}[Enc α]{m:Nat}[Fits α m](xs:List α):rJ (m+1) (rL xs)=true:=by
 unfold rL;simp only[rJ,List.all_map,Rb6];intro a _;exact Fits.fits a
instance {α:Type} [Enc α] {m:Nat} [Fits α m]:Fits (List α) (m+1):=⟨fun xs=>by
 show [rL xs].all (rJ (m+1))=true
 simp[yI]⟩
theorem Ebf {a b:Int}:aS.min.run [i64 a,i64 b]=some [i64 (min a b)]:=by
 simp only[aS.run,Na1,Mbl,if_true,Rbe,Sbq];congr 3;by_cases h:b<a
 ·rw[if_pos (by simpa using h)];omega
 ·rw[if_neg (by simpa using h)];omega
theorem Ebh {a b:Int}:aS.max.run [i64 a,i64 b]=some [i64 (max a b)]:=by
 simp only[aS.run,Na1,Mbl,if_true,Rbe,Sbq];congr 3;by_cases h:b>a
 ·rw[if_pos (by simpa using h)];omega
 ·rw[if_neg (by simpa using h)];omega
theorem Vac {a b:Int}(ha:-9223372036854775808<=a)(ha':a<=9223372036854775807)(hb:0<b):-9223372036854775808<=a.tdiv b/\a.tdiv b<=9223372036854775807:=by
 rcases Int.le_total 0 a with h|h
 ·have h1:=Int.tdiv_nonneg h (Int.le_of_lt hb)
  have h2:=Int.tdiv_le_self b h;omega
 ·have h1:(-a).tdiv b=-(a.tdiv b):=Int.neg_tdiv ..
  have h2:=Int.tdiv_nonneg (show 0<=-a by omega) (Int.le_of_lt hb);have h3:=Int.tdiv_le_self b (show 0<=-a by omega);omega
theorem Ebe {a b:Int}(ha:0<=a)(ha':a<=9223372036854775807)(hb:0<b):(aS.bin .quo).run [i64 a,i64 b]=some [i64 (a / b)]:=by
 have h:=Vac (by omega) ha' hb;have e9:¬ b=0:=by omega
 rw[<- Int.tdiv_eq_ediv_of_nonneg ha];simp only[aS.run,Rad,Ca7,if_true,if_neg e9,Sbq,wrap_i64 h.1 h.2]
theorem Ebd {a b:Int}(ha:0<=a)(hb:0<b):(aS.bin .rem).run [i64 a,i64 b]=some [i64 (a % b)]:=by
 have e9:¬ b=0:=by omega
 simp only[aS.run,Rad,Ca7,if_true,if_neg e9,Sbq,Int.tmod_eq_emod_of_nonneg ha]
theorem Qav:∀ xs ys:List Int,xs.length=ys.length->Ral (Rbs xs.length 0) (xs.map i64) (ys.map i64)=some (decide (xs=ys))
 |[],[],_=>rfl
 | x :: xs, y :: ys, h => by
  have ih:=Qav xs ys (by simpa using h);simp only[Rbw,List.replicate_succ,Rby,Ral,eqD,if_true,Rbe,ih,List.cons.injEq,Bool.decide_and];by_cases e:x=y
  ·simp[e]
  ·simp[e]
theorem Fba {p:Prop}[Decidable p](xs ys:List Int)(h:xs.length=ys.length)(hp:p↔xs=ys):(Ral (Rbs xs.length 0) (xs.map i64) (ys.map i64)).map (fun b=>[D.bool b])=some [.bool (decide p)]:=by
 rw[Qav xs ys h,Sbq,decide_eq_decide.2 hp]
theorem Mb0 (i:Nat):((i+1:Nat):Int)=(i:Int)+1:=rfl
theorem SA:(∀ {T β} (k:Kind) (xs:List aP) (e:β) (ρ:List D),Er T (.leaf k xs e) ρ=some (k,vals ρ xs)) /\
  (∀ {T} {β:Type} (p:aS) (xs:List aP) (n:Nat) (k:Tm β) (ρ:List D),Er T (.lt none p xs n k) ρ=stepT T k ρ n (p.run (vals ρ xs))) /\
  (∀ {T} {β:Type} (f:Nat) (xs:List aP) (n:Nat) (os:List aP) (k:Tm β) (ρ:List D),Er T (.call none f xs n os k) ρ=stepT T k ρ n (Fun T f (vals ρ xs))) /\
  (∀ {T} {β:Type} (c:aP) (t e:Tm β) (ρ:List D),Er T (.ite c t e) ρ=Rar (Er T t ρ) (Er T e ρ) (Ua7 ρ c)) /\
  (∀ {T} {β:Type} (i:Nat) (t k:Tm β) (ρ:List D),Er T (.bind i t k) ρ=pO T i k ρ (Er T t ρ)) /\
  (∀ {T} {β:Type} (a:aP) (w:Bool) (p:aS) (xs:List aP) (n:Nat) (k:Tm β) (ρ:List D),
   Er T (.lt (some (a,w)) p xs n k) ρ=Baf w (stepT T k ρ n (p.run (vals ρ xs))) (Er T k (ρ++Rbs n .undef)) (Ua7 ρ a)) /\
  (∀ {T} {β:Type} (a:aP) (w:Bool) (f:Nat) (xs:List aP) (n:Nat) (os:List aP) (k:Tm β) (ρ:List D),
   Er T (.call (some (a,w)) f xs n os k) ρ=Baf w (stepT T k ρ n (Fun T f (vals ρ xs))) (Er T k (ρ++(Rbs (n-os.length) .undef++vals ρ os))) (Ua7 ρ a)) :=
 ⟨Ib7,Qbd,Ib8,Nbi,Ib9,Nbh,Fb5⟩
theorem SB:(tick=Qbr)/\(∀ {γ:Type} {c:Bool} {a b:γ},jY (!c) a b=jY c b a)/\(∀ {a b:Option (Kind×List D)} {c:Bool},Baf true a b (.bool c)=jY c a b)/\(∀ {a b:Option (Kind×List D)} {c:Bool},Baf false a b (.bool c)=jY c b a) /\
  (∀ {w:Bool} {a b:Option (Kind×List D)},Baf w a b .undef=b)/\(∀ {γ:Type} {a b:Option γ} {c:Bool},Rar a b (.bool c)=jY c a b) /\
  (∀ {T} {β:Type} {i:Nat} {k:Tm β} {ρ:List D} {c:Bool} {a b:Option (Kind×List D)},pO T i k ρ (jY c a b)=jY c (pO T i k ρ a) (pO T i k ρ b)) /\
  (∀ {T} {β:Type} {i j:Nat} {k:Tm β} {ρ ds:List D},pO T i k ρ (some (.yield j,ds))=if j=i then Er T k (ρ++ds) else some (.yield j,ds)) /\
  (∀ {T} {β:Type} {i:Nat} {k:Tm β} {ρ ds:List D},pO T i k ρ (some (.ret,ds))=some (.ret,ds))/\(∀ {T} {β:Type} {i:Nat} {k:Tm β} {ρ ds:List D},pO T i k ρ (some (.cont,ds))=some (.cont,ds)) /\
  (∀ {c:Bool} {a b:Option (Kind×List D)},fin (jY c a b)=jY c (fin a) (fin b))/\(∀ {ds:List D},fin (some (.ret,ds))=some ds) /\
  (∀ {γ:Type} {a b:γ},jY true a b=a)/\(∀ {γ:Type} {a b:γ},jY false a b=b) :=
 ⟨rfl,by intro γ c a b;cases c<;>rfl,Ibi,Ibj,Ibh,Hba,Vaa,Raq,Xae,Vab,Eb6,Ibo,Waa,Sav⟩
theorem SC:(∀ {a:D} {r:List D},nth (a::r) 0=a)/\(∀ {a:D} {r:List D} {n:Nat},nth (a::r) (n+1)=nth r n) /\
  (∀ {ρ:List D},vals ρ []=[])/\(∀ {ρ:List D} {i:Nat} {r:List aP},vals ρ (.v i::r)=nth ρ i::vals ρ r)/\(∀ {ρ:List D} {d:D} {r:List aP},vals ρ (.c d::r)=d::vals ρ r) /\
  (∀ {ρ:List D} {i:Nat},Ua7 ρ (.v i)=nth ρ i)/\(∀ {ρ:List D} {d:D},Ua7 ρ (.c d)=d) /\
  (∀ {ρ:List D},ρ++[]=ρ)/\(∀ {a:D} {r s:List D},(a::r)++s=a::(r++s))/\(∀ {s:List D},[]++s=s) /\
  (∀ {T} {β:Type} {k:Tm β} {ρ ds:List D} {n:Nat},stepT T k ρ n (some ds)=if ds.length=n then Er T k (ρ++ds) else none) /\
  (∀ {α:Type} {a:α} {l:List α},(a::l).length=l.length+1)/\(∀ {α:Type},([]:List α).length=0)/\(∀ {α:Type} {x:α} {n:Nat},Rbs (n+1) x=x::Rbs n x)/\(∀ {α:Type} {x:α},Rbs 0 x=[]) :=
 ⟨Pbu,Pbt,Jbk,Jbj,Jbl,Jbm,Jbn,Pb6,Pb7,Pb8,Hbf,Rbw,List.length_nil,List.replicate_succ,List.replicate_zero⟩
theorem SP:(∀ {a b:Int},(aS.bin .lss).run [i64 a,i64 b]=some [.bool (decide (a<b))])/\(∀ {a b:Int},(aS.bin .gtr).run [i64 a,i64 b]=some [.bool (decide (b<a))]) /\
  (∀ {a b:Int},(aS.bin .leq).run [i64 a,i64 b]=some [.bool (decide (a<=b))])/\(∀ {a b:Int},(aS.bin .geq).run [i64 a,i64 b]=some [.bool (decide (b<=a))]) /\
  (∀ {a b:Int},(aS.bin .neq).run [i64 a,i64 b]=some [.bool (!(a==b))])/\(∀ {a b:Int},(aS.bin .eql).run [i64 a,i64 b]=some [.bool (a==b)]) /\
  (∀ {b:Bool},aS.not.run [.bool b]=some [.bool (!b)])/\(∀ {c:Bool} {a b:D},aS.pick.run [.bool c,a,b]=some [jY c a b])/\(∀ {a b:Bool},(aS.eqb true).run [.bool a,.bool b]=some [.bool (!(a==b))])/\(∀ {a b:Bool},(aS.eqb false).run [.bool a,.bool b]=some [.bool (a==b)]) /\
  (∀ {d:D},aS.id.run [d]=some [d])/\(∀ {α:Type} [Enc α] {xs:List α},aS.len.run [rL xs]=some [i64 xs.length]) /\
  (∀ {α:Type} [Enc α] {xs:List α} {k:Int},InB xs k->aS.inb.run [rL xs,i64 k]=some []) /\
  (∀ {a b:Int},aS.min.run [i64 a,i64 b]=some [i64 (min a b)])/\(∀ {a b:Int},aS.max.run [i64 a,i64 b]=some [i64 (max a b)]) /\
  (∀ {α:Type} [Enc α] {m:Nat} [Fits α m] {xs:List α},(aS.dep (m+1)).run [rL xs]=some []) :=
 ⟨Hbm,Hbo,Hbn,Hbp,Hbl,Hbq,Hbk,by intro c a b;cases c<;>rfl,Hbr,rfl,Mbb,Mbh,Mbi,Ebf,Ebh,Mbj⟩
set_option maxRecDepth 4000
structure wW where
 kind:Int
 id:Int
 src:Int
 dst:Int
 amt:Int
 deriving DecidableEq
instance:Inhabited wW:=⟨⟨0,0,0,0,0⟩⟩
instance:Enc wW:=⟨5,fun x=>[i64 x.kind,i64 x.id,i64 x.src,i64 x.dst,i64 x.amt],fun _=>rfl⟩
instance {m:Nat}:Fits wW m:=⟨fun x=>by cases m<;>rfl⟩
structure bY where
 seq:Int
 deps:(List Int)
 deriving DecidableEq
instance:Inhabited bY:=⟨⟨0,[]⟩⟩
instance:Enc bY:=⟨2,fun x=>[i64 x.seq,rL x.deps],fun _=>rfl⟩
theorem Abo (x:bY):Enc.enc x=[i64 x.seq,rL x.deps]:=rfl
instance {m:Nat}:Fits bY (m+1):=⟨fun x=>by
 rw[Abo];simp only[Ubi,Ub0,Tb1,Qb6];refine⟨?_,?_⟩
 all_goals first|rfl|exact yI _⟩
structure aZ where
 ballot:Int
 vote:Int
 state:Int
 cmd:wW
 attr:bY
 deriving DecidableEq
instance:Inhabited aZ:=⟨⟨0,0,0,default,default⟩⟩
instance:Enc aZ:=⟨10,fun x=>[i64 x.ballot,i64 x.vote,i64 x.state,i64 x.cmd.kind,i64 x.cmd.id,i64 x.cmd.src,i64 x.cmd.dst,i64 x.cmd.amt,i64 x.attr.seq,rL x.attr.deps],fun _=>rfl⟩
theorem Fbe (x:aZ):Enc.enc x=[i64 x.ballot,i64 x.vote,i64 x.state,i64 x.cmd.kind,i64 x.cmd.id,i64 x.cmd.src,i64 x.cmd.dst,i64 x.cmd.amt,i64 x.attr.seq,rL x.attr.deps]:=rfl
instance {m:Nat}:Fits aZ (m+1):=⟨fun x=>by
 rw[Fbe];simp only[Ubi,Ub0,Tb1,Qb6];refine⟨?_,?_,?_,?_,?_,?_,?_,?_,?_,?_⟩
 all_goals first|rfl|exact yI _⟩
structure aY where
 n:Int
 rows:(List (List aZ))
 deriving DecidableEq
instance:Inhabited aY:=⟨⟨0,[]⟩⟩
instance:Enc aY:=⟨2,fun x=>[i64 x.n,rL x.rows],fun _=>rfl⟩
theorem Wai (x:aY):Enc.enc x=[i64 x.n,rL x.rows]:=rfl
instance {m:Nat}:Fits aY (m+3):=⟨fun x=>by
 rw[Wai];simp only[Ubi,Ub0,Tb1,Qb6];refine⟨?_,?_⟩
 all_goals first|rfl|exact yI _⟩
structure aQ where
 rep:Int
 no:Int
 ballot:Int
 phase:Int
 cmd:wW
 first:bY
 attr:bY
 same:Bool
 who:(List Int)
 seen:(List aZ)
 deriving DecidableEq
instance:Inhabited aQ:=⟨⟨0,0,0,0,default,default,default,false,[],[]⟩⟩
instance:Enc aQ:=⟨16,fun x=>[i64 x.rep,i64 x.no,i64 x.ballot,i64 x.phase,i64 x.cmd.kind,i64 x.cmd.id,i64 x.cmd.src,i64 x.cmd.dst,i64 x.cmd.amt,i64 x.first.seq,rL x.first.deps,i64 x.attr.seq,rL x.attr.deps,.bool x.same,rL x.who,rL x.seen],fun _=>rfl⟩
theorem Abn (x:aQ):Enc.enc x=[i64 x.rep,i64 x.no,i64 x.ballot,i64 x.phase,i64 x.cmd.kind,i64 x.cmd.id,i64 x.cmd.src,i64 x.cmd.dst,i64 x.cmd.amt,i64 x.first.seq,rL x.first.deps,i64 x.attr.seq,rL x.attr.deps,.bool x.same,rL x.who,rL x.seen]:=rfl
instance {m:Nat}:Fits aQ (m+2):=⟨fun x=>by
 rw[Abn];simp only[Ubi,Ub0,Tb1,Qb6];refine⟨?_,?_,?_,?_,?_,?_,?_,?_,?_,?_,?_,?_,?_,?_,?_,?_⟩
 all_goals first|rfl|exact yI _⟩
structure wQ where
 me:Int
 table:aY
 leads:(List aQ)
 deriving DecidableEq
instance:Inhabited wQ:=⟨⟨0,default,[]⟩⟩
instance:Enc wQ:=⟨4,fun x=>[i64 x.me,i64 x.table.n,rL x.table.rows,rL x.leads],fun _=>rfl⟩
theorem Fbf (x:wQ):Enc.enc x=[i64 x.me,i64 x.table.n,rL x.table.rows,rL x.leads]:=rfl
instance {m:Nat}:Fits wQ (m+3):=⟨fun x=>by
 rw[Fbf];simp only[Ubi,Ub0,Tb1,Qb6];refine⟨?_,?_,?_,?_⟩
 all_goals first|rfl|exact yI _⟩
structure gH where
 kind:Int
 src:Int
 dst:Int
 rep:Int
 no:Int
 ballot:Int
 vote:Int
 state:Int
 cmd:wW
 attr:bY
 deriving DecidableEq
instance:Inhabited gH:=⟨⟨0,0,0,0,0,0,0,0,default,default⟩⟩
instance:Enc gH:=⟨15,fun x=>[i64 x.kind,i64 x.src,i64 x.dst,i64 x.rep,i64 x.no,i64 x.ballot,i64 x.vote,i64 x.state,i64 x.cmd.kind,i64 x.cmd.id,i64 x.cmd.src,i64 x.cmd.dst,i64 x.cmd.amt,i64 x.attr.seq,rL x.attr.deps],fun _=>rfl⟩
theorem Fbh (x:gH):Enc.enc x=[i64 x.kind,i64 x.src,i64 x.dst,i64 x.rep,i64 x.no,i64 x.ballot,i64 x.vote,i64 x.state,i64 x.cmd.kind,i64 x.cmd.id,i64 x.cmd.src,i64 x.cmd.dst,i64 x.cmd.amt,i64 x.attr.seq,rL x.attr.deps]:=rfl
instance {m:Nat}:Fits gH (m+1):=⟨fun x=>by
 rw[Fbh];simp only[Ubi,Ub0,Tb1,Qb6];refine⟨?_,?_,?_,?_,?_,?_,?_,?_,?_,?_,?_,?_,?_,?_,?_⟩
 all_goals first|rfl|exact yI _⟩
structure Ka9 where
 rep:Int
 no:Int
 cmd:wW
 deriving DecidableEq
instance:Inhabited Ka9:=⟨⟨0,0,default⟩⟩
instance:Enc Ka9:=⟨7,fun x=>[i64 x.rep,i64 x.no,i64 x.cmd.kind,i64 x.cmd.id,i64 x.cmd.src,i64 x.cmd.dst,i64 x.cmd.amt],fun _=>rfl⟩
instance {m:Nat}:Fits Ka9 m:=⟨fun x=>by cases m<;>rfl⟩
structure Tae where
 reps:(List wQ)
 bag:(List gH)
 asked:(List Ka9)
 deriving DecidableEq
instance:Inhabited Tae:=⟨⟨[],[],[]⟩⟩
instance:Enc Tae:=⟨3,fun x=>[rL x.reps,rL x.bag,rL x.asked],fun _=>rfl⟩
theorem Fbg (x:Tae):Enc.enc x=[rL x.reps,rL x.bag,rL x.asked]:=rfl
instance {m:Nat}:Fits Tae (m+4):=⟨fun x=>by
 rw[Fbg];simp only[Ubi,Ub0,Tb1,Qb6];refine⟨?_,?_,?_⟩
 all_goals first|rfl|exact yI _⟩
theorem Mb3:(∀ x:wW,wW.mk x.kind x.id x.src x.dst x.amt=x) /\
  (∀ x:bY,bY.mk x.seq x.deps=x) /\
  (∀ x:aZ,aZ.mk x.ballot x.vote x.state x.cmd x.attr=x) /\
  (∀ x:aY,aY.mk x.n x.rows=x) /\
  (∀ x:aQ,aQ.mk x.rep x.no x.ballot x.phase x.cmd x.first x.attr x.same x.who x.seen=x) /\
  (∀ x:wQ,wQ.mk x.me x.table x.leads=x) /\
  (∀ x:gH,gH.mk x.kind x.src x.dst x.rep x.no x.ballot x.vote x.state x.cmd x.attr=x) /\
  (∀ x:Ka9,Ka9.mk x.rep x.no x.cmd=x) /\
  (∀ x:Tae,Tae.mk x.reps x.bag x.asked=x) :=
 ⟨fun _=>rfl,
  fun _=>rfl,
  fun _=>rfl,
  fun _=>rfl,
  fun _=>rfl,
  fun _=>rfl,
  fun _=>rfl,
  fun _=>rfl,
  fun _=>rfl⟩
theorem aM:(∀ {xs:List Int} {k:Int},InB xs k->(aS.row 1 0 [true]).run [rL xs,i64 k]=some [i64 (atI xs k)]) /\
  (∀ {xs:List (List UInt8)} {k:Int},InB xs k->(aS.row 1 0 [true]).run [rL xs,i64 k]=some [.str (atI xs k)]) /\
  (∀ {xs:List (List Int)} {k:Int},InB xs k->(aS.row 1 0 [false]).run [rL xs,i64 k]=some [rL (atI xs k)]) /\
  (∀ {xs:List (List aZ)} {k:Int},InB xs k->(aS.row 1 0 [false]).run [rL xs,i64 k]=some [rL (atI xs k)]) /\
  (∀ {xs:List (List (List Int))} {k:Int},InB xs k->(aS.row 1 0 [false]).run [rL xs,i64 k]=some [rL (atI xs k)]) /\
  (∀ {xs:List aZ} {k:Int},InB xs k->(aS.row 10 0 [true,true,true,true,true,true,true,true,true,false]).run [rL xs,i64 k]=some [i64 (atI xs k).ballot,i64 (atI xs k).vote,i64 (atI xs k).state,i64 (atI xs k).cmd.kind,i64 (atI xs k).cmd.id,i64 (atI xs k).cmd.src,i64 (atI xs k).cmd.dst,i64 (atI xs k).cmd.amt,i64 (atI xs k).attr.seq,rL (atI xs k).attr.deps]) /\
  (∀ {xs:List aZ} {k:Int},InB xs k->(aS.row 10 0 [true]).run [rL xs,i64 k]=some [i64 (atI xs k).ballot]) /\
  (∀ {xs:List aZ} {k:Int},InB xs k->(aS.row 10 1 [true]).run [rL xs,i64 k]=some [i64 (atI xs k).vote]) /\
  (∀ {xs:List aZ} {k:Int},InB xs k->(aS.row 10 2 [true]).run [rL xs,i64 k]=some [i64 (atI xs k).state]) /\
  (∀ {xs:List aZ} {k:Int},InB xs k->(aS.row 10 3 [true]).run [rL xs,i64 k]=some [i64 (atI xs k).cmd.kind]) /\
  (∀ {xs:List aZ} {k:Int},InB xs k->(aS.row 10 4 [true]).run [rL xs,i64 k]=some [i64 (atI xs k).cmd.id]) /\
  (∀ {xs:List aZ} {k:Int},InB xs k->(aS.row 10 5 [true]).run [rL xs,i64 k]=some [i64 (atI xs k).cmd.src]) /\
  (∀ {xs:List aZ} {k:Int},InB xs k->(aS.row 10 6 [true]).run [rL xs,i64 k]=some [i64 (atI xs k).cmd.dst]) /\
  (∀ {xs:List aZ} {k:Int},InB xs k->(aS.row 10 7 [true]).run [rL xs,i64 k]=some [i64 (atI xs k).cmd.amt]) /\
  (∀ {xs:List aZ} {k:Int},InB xs k->(aS.row 10 8 [true]).run [rL xs,i64 k]=some [i64 (atI xs k).attr.seq]) /\
  (∀ {xs:List aZ} {k:Int},InB xs k->(aS.row 10 9 [false]).run [rL xs,i64 k]=some [rL (atI xs k).attr.deps]) /\
  (∀ {xs:List aQ} {k:Int},InB xs k->(aS.row 16 0 [true,true,true,true,true,true,true,true,true,true,false,true,false,true,false,false]).run [rL xs,i64 k]=some [i64 (atI xs k).rep,i64 (atI xs k).no,i64 (atI xs k).ballot,i64 (atI xs k).phase,i64 (atI xs k).cmd.kind,i64 (atI xs k).cmd.id,i64 (atI xs k).cmd.src,i64 (atI xs k).cmd.dst,i64 (atI xs k).cmd.amt,i64 (atI xs k).first.seq,rL (atI xs k).first.deps,i64 (atI xs k).attr.seq,rL (atI xs k).attr.deps,.bool (atI xs k).same,rL (atI xs k).who,rL (atI xs k).seen]) /\
  (∀ {xs:List aQ} {k:Int},InB xs k->(aS.row 16 0 [true]).run [rL xs,i64 k]=some [i64 (atI xs k).rep]) /\
  (∀ {xs:List aQ} {k:Int},InB xs k->(aS.row 16 1 [true]).run [rL xs,i64 k]=some [i64 (atI xs k).no]) /\
  (∀ {xs:List aQ} {k:Int},InB xs k->(aS.row 16 10 [false]).run [rL xs,i64 k]=some [rL (atI xs k).first.deps]) /\
  (∀ {xs:List aQ} {k:Int},InB xs k->(aS.row 16 11 [true]).run [rL xs,i64 k]=some [i64 (atI xs k).attr.seq]) /\
  (∀ {xs:List aQ} {k:Int},InB xs k->(aS.row 16 12 [false]).run [rL xs,i64 k]=some [rL (atI xs k).attr.deps]) /\
  (∀ {xs:List aQ} {k:Int},InB xs k->(aS.row 16 13 [true]).run [rL xs,i64 k]=some [.bool (atI xs k).same]) /\
  (∀ {xs:List aQ} {k:Int},InB xs k->(aS.row 16 14 [false]).run [rL xs,i64 k]=some [rL (atI xs k).who]) /\
  (∀ {xs:List aQ} {k:Int},InB xs k->(aS.row 16 15 [false]).run [rL xs,i64 k]=some [rL (atI xs k).seen]) /\
  (∀ {xs:List aQ} {k:Int},InB xs k->(aS.row 16 2 [true]).run [rL xs,i64 k]=some [i64 (atI xs k).ballot]) /\
  (∀ {xs:List aQ} {k:Int},InB xs k->(aS.row 16 3 [true]).run [rL xs,i64 k]=some [i64 (atI xs k).phase]) /\
  (∀ {xs:List aQ} {k:Int},InB xs k->(aS.row 16 4 [true]).run [rL xs,i64 k]=some [i64 (atI xs k).cmd.kind]) /\
  (∀ {xs:List aQ} {k:Int},InB xs k->(aS.row 16 5 [true]).run [rL xs,i64 k]=some [i64 (atI xs k).cmd.id]) /\
  (∀ {xs:List aQ} {k:Int},InB xs k->(aS.row 16 6 [true]).run [rL xs,i64 k]=some [i64 (atI xs k).cmd.src]) /\
  (∀ {xs:List aQ} {k:Int},InB xs k->(aS.row 16 7 [true]).run [rL xs,i64 k]=some [i64 (atI xs k).cmd.dst]) /\
  (∀ {xs:List aQ} {k:Int},InB xs k->(aS.row 16 8 [true]).run [rL xs,i64 k]=some [i64 (atI xs k).cmd.amt]) /\
  (∀ {xs:List aQ} {k:Int},InB xs k->(aS.row 16 9 [true]).run [rL xs,i64 k]=some [i64 (atI xs k).first.seq]) /\
  (∀ {xs:List gH} {k:Int},InB xs k->(aS.row 15 0 [true,true,true,true,true,true,true,true,true,true,true,true,true,true,false]).run [rL xs,i64 k]=some [i64 (atI xs k).kind,i64 (atI xs k).src,i64 (atI xs k).dst,i64 (atI xs k).rep,i64 (atI xs k).no,i64 (atI xs k).ballot,i64 (atI xs k).vote,i64 (atI xs k).state,i64 (atI xs k).cmd.kind,i64 (atI xs k).cmd.id,i64 (atI xs k).cmd.src,i64 (atI xs k).cmd.dst,i64 (atI xs k).cmd.amt,i64 (atI xs k).attr.seq,rL (atI xs k).attr.deps]) /\
  (∀ {xs:List gH} {k:Int},InB xs k->(aS.row 15 0 [true]).run [rL xs,i64 k]=some [i64 (atI xs k).kind]) /\
  (∀ {xs:List gH} {k:Int},InB xs k->(aS.row 15 1 [true]).run [rL xs,i64 k]=some [i64 (atI xs k).src]) /\
  (∀ {xs:List gH} {k:Int},InB xs k->(aS.row 15 10 [true]).run [rL xs,i64 k]=some [i64 (atI xs k).cmd.src]) /\
  (∀ {xs:List gH} {k:Int},InB xs k->(aS.row 15 11 [true]).run [rL xs,i64 k]=some [i64 (atI xs k).cmd.dst]) /\
  (∀ {xs:List gH} {k:Int},InB xs k->(aS.row 15 12 [true]).run [rL xs,i64 k]=some [i64 (atI xs k).cmd.amt]) /\
  (∀ {xs:List gH} {k:Int},InB xs k->(aS.row 15 13 [true]).run [rL xs,i64 k]=some [i64 (atI xs k).attr.seq]) /\
  (∀ {xs:List gH} {k:Int},InB xs k->(aS.row 15 14 [false]).run [rL xs,i64 k]=some [rL (atI xs k).attr.deps]) /\
  (∀ {xs:List gH} {k:Int},InB xs k->(aS.row 15 2 [true]).run [rL xs,i64 k]=some [i64 (atI xs k).dst]) /\
  (∀ {xs:List gH} {k:Int},InB xs k->(aS.row 15 3 [true]).run [rL xs,i64 k]=some [i64 (atI xs k).rep]) /\
  (∀ {xs:List gH} {k:Int},InB xs k->(aS.row 15 4 [true]).run [rL xs,i64 k]=some [i64 (atI xs k).no]) /\
  (∀ {xs:List gH} {k:Int},InB xs k->(aS.row 15 5 [true]).run [rL xs,i64 k]=some [i64 (atI xs k).ballot]) /\
  (∀ {xs:List gH} {k:Int},InB xs k->(aS.row 15 6 [true]).run [rL xs,i64 k]=some [i64 (atI xs k).vote]) /\
  (∀ {xs:List gH} {k:Int},InB xs k->(aS.row 15 7 [true]).run [rL xs,i64 k]=some [i64 (atI xs k).state]) /\
  (∀ {xs:List gH} {k:Int},InB xs k->(aS.row 15 8 [true]).run [rL xs,i64 k]=some [i64 (atI xs k).cmd.kind]) /\
  (∀ {xs:List gH} {k:Int},InB xs k->(aS.row 15 9 [true]).run [rL xs,i64 k]=some [i64 (atI xs k).cmd.id]) :=
 ⟨fun h=>(dA rfl h),
  fun h=>(dA rfl h),
  fun h=>(dA rfl h),
  fun h=>(dA rfl h),
  fun h=>(dA rfl h),
  fun h=>(dA rfl h),
  fun h=>(dA rfl h),
  fun h=>(dA rfl h),
  fun h=>(dA rfl h),
  fun h=>(dA rfl h),
  fun h=>(dA rfl h),
  fun h=>(dA rfl h),
  fun h=>(dA rfl h),
  fun h=>(dA rfl h),
  fun h=>(dA rfl h),
  fun h=>(dA rfl h),
  fun h=>(dA rfl h),
  fun h=>(dA rfl h),
  fun h=>(dA rfl h),
  fun h=>(dA rfl h),
  fun h=>(dA rfl h),
  fun h=>(dA rfl h),
  fun h=>(dA rfl h),
  fun h=>(dA rfl h),
  fun h=>(dA rfl h),
  fun h=>(dA rfl h),
  fun h=>(dA rfl h),
  fun h=>(dA rfl h),
  fun h=>(dA rfl h),
  fun h=>(dA rfl h),
  fun h=>(dA rfl h),
  fun h=>(dA rfl h),
  fun h=>(dA rfl h),
  fun h=>(dA rfl h),
  fun h=>(dA rfl h),
  fun h=>(dA rfl h),
  fun h=>(dA rfl h),
  fun h=>(dA rfl h),
  fun h=>(dA rfl h),
  fun h=>(dA rfl h),
  fun h=>(dA rfl h),
  fun h=>(dA rfl h),
  fun h=>(dA rfl h),
  fun h=>(dA rfl h),
  fun h=>(dA rfl h),
  fun h=>(dA rfl h),
  fun h=>(dA rfl h),
  fun h=>(dA rfl h),
  fun h=>(dA rfl h)⟩
theorem lS:(∀ {xs:List Int} {k:Int} {v:Int},InB xs k->(aS.set 1 0 1).run [rL xs,i64 k,i64 v]=some [rL (dK xs k v)]) /\
  (∀ {xs:List (List UInt8)} {k:Int} {v:(List UInt8)},InB xs k->(aS.set 1 0 1).run [rL xs,i64 k,.str v]=some [rL (dK xs k v)]) /\
  (∀ {xs:List (List Int)} {k:Int} {v:(List Int)},InB xs k->(aS.set 1 0 1).run [rL xs,i64 k,rL v]=some [rL (dK xs k v)]) /\
  (∀ {xs:List (List aZ)} {k:Int} {v:(List aZ)},InB xs k->(aS.set 1 0 1).run [rL xs,i64 k,rL v]=some [rL (dK xs k v)]) /\
  (∀ {xs:List (List (List Int))} {k:Int} {v:(List (List Int))},InB xs k->(aS.set 1 0 1).run [rL xs,i64 k,rL v]=some [rL (dK xs k v)]) /\
  (∀ {xs:List aZ} {k:Int} {v:Int},InB xs k->(aS.set 10 0 1).run [rL xs,i64 k,i64 v]=some [rL (dK xs k { (atI xs k) with ballot:=v })]) /\
  (∀ {xs:List aZ} {k:Int} {eJ j9 il dm eI ee eg ef dt:Int} {dh:(List Int)},InB xs k->(aS.set 10 0 10).run [rL xs,i64 k,i64 eJ,i64 j9,i64 il,i64 dm,i64 eI,i64 ee,i64 eg,i64 ef,i64 dt,rL dh]=some [rL (dK xs k ⟨eJ,j9,il,⟨dm,eI,ee,eg,ef⟩,⟨dt,dh⟩⟩)]) /\
  (∀ {xs:List aZ} {k:Int} {v:Int},InB xs k->(aS.set 10 1 1).run [rL xs,i64 k,i64 v]=some [rL (dK xs k { (atI xs k) with vote:=v })]) /\
  (∀ {xs:List aZ} {k:Int} {v:Int},InB xs k->(aS.set 10 2 1).run [rL xs,i64 k,i64 v]=some [rL (dK xs k { (atI xs k) with state:=v })]) /\
  (∀ {xs:List aZ} {k:Int} {v:Int},InB xs k->(aS.set 10 3 1).run [rL xs,i64 k,i64 v]=some [rL (dK xs k { (atI xs k) with cmd:={ (atI xs k).cmd with kind:=v } })]) /\
  (∀ {xs:List aZ} {k:Int} {v:Int},InB xs k->(aS.set 10 4 1).run [rL xs,i64 k,i64 v]=some [rL (dK xs k { (atI xs k) with cmd:={ (atI xs k).cmd with id:=v } })]) /\
  (∀ {xs:List aZ} {k:Int} {v:Int},InB xs k->(aS.set 10 5 1).run [rL xs,i64 k,i64 v]=some [rL (dK xs k { (atI xs k) with cmd:={ (atI xs k).cmd with src:=v } })]) /\
  (∀ {xs:List aZ} {k:Int} {v:Int},InB xs k->(aS.set 10 6 1).run [rL xs,i64 k,i64 v]=some [rL (dK xs k { (atI xs k) with cmd:={ (atI xs k).cmd with dst:=v } })]) /\
  (∀ {xs:List aZ} {k:Int} {v:Int},InB xs k->(aS.set 10 7 1).run [rL xs,i64 k,i64 v]=some [rL (dK xs k { (atI xs k) with cmd:={ (atI xs k).cmd with amt:=v } })]) /\
  (∀ {xs:List aZ} {k:Int} {v:Int},InB xs k->(aS.set 10 8 1).run [rL xs,i64 k,i64 v]=some [rL (dK xs k { (atI xs k) with attr:={ (atI xs k).attr with seq:=v } })]) /\
  (∀ {xs:List aZ} {k:Int} {v:(List Int)},InB xs k->(aS.set 10 9 1).run [rL xs,i64 k,rL v]=some [rL (dK xs k { (atI xs k) with attr:={ (atI xs k).attr with deps:=v } })]) /\
  (∀ {xs:List aQ} {k:Int} {v:Int},InB xs k->(aS.set 16 0 1).run [rL xs,i64 k,i64 v]=some [rL (dK xs k { (atI xs k) with rep:=v })]) /\
  (∀ {xs:List aQ} {k:Int} {lO pw eJ kx dm eI ee eg ef gn:Int} {gf:(List Int)} {dt:Int} {dh:(List Int)} {mA:Bool} {p0:(List Int)} {mC:(List aZ)},InB xs k->(aS.set 16 0 16).run [rL xs,i64 k,i64 lO,i64 pw,i64 eJ,i64 kx,i64 dm,i64 eI,i64 ee,i64 eg,i64 ef,i64 gn,rL gf,i64 dt,rL dh,.bool mA,rL p0,rL mC]=some [rL (dK xs k ⟨lO,pw,eJ,kx,⟨dm,eI,ee,eg,ef⟩,⟨gn,gf⟩,⟨dt,dh⟩,mA,p0,mC⟩)]) /\
  (∀ {xs:List aQ} {k:Int} {v:Int},InB xs k->(aS.set 16 1 1).run [rL xs,i64 k,i64 v]=some [rL (dK xs k { (atI xs k) with no:=v })]) /\
  (∀ {xs:List aQ} {k:Int} {v:(List Int)},InB xs k->(aS.set 16 10 1).run [rL xs,i64 k,rL v]=some [rL (dK xs k { (atI xs k) with first:={ (atI xs k).first with deps:=v } })]) /\
  (∀ {xs:List aQ} {k:Int} {v:Int},InB xs k->(aS.set 16 11 1).run [rL xs,i64 k,i64 v]=some [rL (dK xs k { (atI xs k) with attr:={ (atI xs k).attr with seq:=v } })]) /\
  (∀ {xs:List aQ} {k:Int} {v:(List Int)},InB xs k->(aS.set 16 12 1).run [rL xs,i64 k,rL v]=some [rL (dK xs k { (atI xs k) with attr:={ (atI xs k).attr with deps:=v } })]) /\
  (∀ {xs:List aQ} {k:Int} {v:Bool},InB xs k->(aS.set 16 13 1).run [rL xs,i64 k,.bool v]=some [rL (dK xs k { (atI xs k) with same:=v })]) /\
  (∀ {xs:List aQ} {k:Int} {v:(List Int)},InB xs k->(aS.set 16 14 1).run [rL xs,i64 k,rL v]=some [rL (dK xs k { (atI xs k) with who:=v })]) /\
  (∀ {xs:List aQ} {k:Int} {v:(List aZ)},InB xs k->(aS.set 16 15 1).run [rL xs,i64 k,rL v]=some [rL (dK xs k { (atI xs k) with seen:=v })]) /\
  (∀ {xs:List aQ} {k:Int} {v:Int},InB xs k->(aS.set 16 2 1).run [rL xs,i64 k,i64 v]=some [rL (dK xs k { (atI xs k) with ballot:=v })]) /\
  (∀ {xs:List aQ} {k:Int} {v:Int},InB xs k->(aS.set 16 3 1).run [rL xs,i64 k,i64 v]=some [rL (dK xs k { (atI xs k) with phase:=v })]) /\
  (∀ {xs:List aQ} {k:Int} {v:Int},InB xs k->(aS.set 16 4 1).run [rL xs,i64 k,i64 v]=some [rL (dK xs k { (atI xs k) with cmd:={ (atI xs k).cmd with kind:=v } })]) /\
  (∀ {xs:List aQ} {k:Int} {v:Int},InB xs k->(aS.set 16 5 1).run [rL xs,i64 k,i64 v]=some [rL (dK xs k { (atI xs k) with cmd:={ (atI xs k).cmd with id:=v } })]) /\
  (∀ {xs:List aQ} {k:Int} {v:Int},InB xs k->(aS.set 16 6 1).run [rL xs,i64 k,i64 v]=some [rL (dK xs k { (atI xs k) with cmd:={ (atI xs k).cmd with src:=v } })]) /\
  (∀ {xs:List aQ} {k:Int} {v:Int},InB xs k->(aS.set 16 7 1).run [rL xs,i64 k,i64 v]=some [rL (dK xs k { (atI xs k) with cmd:={ (atI xs k).cmd with dst:=v } })]) /\
  (∀ {xs:List aQ} {k:Int} {v:Int},InB xs k->(aS.set 16 8 1).run [rL xs,i64 k,i64 v]=some [rL (dK xs k { (atI xs k) with cmd:={ (atI xs k).cmd with amt:=v } })]) /\
  (∀ {xs:List aQ} {k:Int} {v:Int},InB xs k->(aS.set 16 9 1).run [rL xs,i64 k,i64 v]=some [rL (dK xs k { (atI xs k) with first:={ (atI xs k).first with seq:=v } })]) /\
  (∀ {xs:List gH} {k:Int} {v:Int},InB xs k->(aS.set 15 0 1).run [rL xs,i64 k,i64 v]=some [rL (dK xs k { (atI xs k) with kind:=v })]) /\
  (∀ {xs:List gH} {k:Int} {v:Int},InB xs k->(aS.set 15 1 1).run [rL xs,i64 k,i64 v]=some [rL (dK xs k { (atI xs k) with src:=v })]) /\
  (∀ {xs:List gH} {k:Int} {v:Int},InB xs k->(aS.set 15 10 1).run [rL xs,i64 k,i64 v]=some [rL (dK xs k { (atI xs k) with cmd:={ (atI xs k).cmd with src:=v } })]) /\
  (∀ {xs:List gH} {k:Int} {v:Int},InB xs k->(aS.set 15 11 1).run [rL xs,i64 k,i64 v]=some [rL (dK xs k { (atI xs k) with cmd:={ (atI xs k).cmd with dst:=v } })]) /\
  (∀ {xs:List gH} {k:Int} {v:Int},InB xs k->(aS.set 15 12 1).run [rL xs,i64 k,i64 v]=some [rL (dK xs k { (atI xs k) with cmd:={ (atI xs k).cmd with amt:=v } })]) /\
  (∀ {xs:List gH} {k:Int} {v:Int},InB xs k->(aS.set 15 13 1).run [rL xs,i64 k,i64 v]=some [rL (dK xs k { (atI xs k) with attr:={ (atI xs k).attr with seq:=v } })]) /\
  (∀ {xs:List gH} {k:Int} {v:(List Int)},InB xs k->(aS.set 15 14 1).run [rL xs,i64 k,rL v]=some [rL (dK xs k { (atI xs k) with attr:={ (atI xs k).attr with deps:=v } })]) /\
  (∀ {xs:List gH} {k:Int} {v:Int},InB xs k->(aS.set 15 2 1).run [rL xs,i64 k,i64 v]=some [rL (dK xs k { (atI xs k) with dst:=v })]) /\
  (∀ {xs:List gH} {k:Int} {v:Int},InB xs k->(aS.set 15 3 1).run [rL xs,i64 k,i64 v]=some [rL (dK xs k { (atI xs k) with rep:=v })]) /\
  (∀ {xs:List gH} {k:Int} {v:Int},InB xs k->(aS.set 15 4 1).run [rL xs,i64 k,i64 v]=some [rL (dK xs k { (atI xs k) with no:=v })]) /\
  (∀ {xs:List gH} {k:Int} {v:Int},InB xs k->(aS.set 15 5 1).run [rL xs,i64 k,i64 v]=some [rL (dK xs k { (atI xs k) with ballot:=v })]) /\
  (∀ {xs:List gH} {k:Int} {v:Int},InB xs k->(aS.set 15 6 1).run [rL xs,i64 k,i64 v]=some [rL (dK xs k { (atI xs k) with vote:=v })]) /\
  (∀ {xs:List gH} {k:Int} {v:Int},InB xs k->(aS.set 15 7 1).run [rL xs,i64 k,i64 v]=some [rL (dK xs k { (atI xs k) with state:=v })]) /\
  (∀ {xs:List gH} {k:Int} {v:Int},InB xs k->(aS.set 15 8 1).run [rL xs,i64 k,i64 v]=some [rL (dK xs k { (atI xs k) with cmd:={ (atI xs k).cmd with kind:=v } })]) /\
  (∀ {xs:List gH} {k:Int} {v:Int},InB xs k->(aS.set 15 9 1).run [rL xs,i64 k,i64 v]=some [rL (dK xs k { (atI xs k) with cmd:={ (atI xs k).cmd with id:=v } })]) :=
 ⟨fun h=>(dC rfl rfl (by decide) rfl h),
  fun h=>(dC rfl rfl (by decide) rfl h),
  fun h=>(dC rfl rfl (by decide) rfl h),
  fun h=>(dC rfl rfl (by decide) rfl h),
  fun h=>(dC rfl rfl (by decide) rfl h),
  fun h=>(dC rfl rfl (by decide) rfl h),
  fun h=>(dC rfl rfl (by decide) rfl h),
  fun h=>(dC rfl rfl (by decide) rfl h),
  fun h=>(dC rfl rfl (by decide) rfl h),
  fun h=>(dC rfl rfl (by decide) rfl h),
  fun h=>(dC rfl rfl (by decide) rfl h),
  fun h=>(dC rfl rfl (by decide) rfl h),
  fun h=>(dC rfl rfl (by decide) rfl h),
  fun h=>(dC rfl rfl (by decide) rfl h),
  fun h=>(dC rfl rfl (by decide) rfl h),
  fun h=>(dC rfl rfl (by decide) rfl h),
  fun h=>(dC rfl rfl (by decide) rfl h),
  fun h=>(dC rfl rfl (by decide) rfl h),
  fun h=>(dC rfl rfl (by decide) rfl h),
  fun h=>(dC rfl rfl (by decide) rfl h),
  fun h=>(dC rfl rfl (by decide) rfl h),
  fun h=>(dC rfl rfl (by decide) rfl h),
  fun h=>(dC rfl rfl (by decide) rfl h),
  fun h=>(dC rfl rfl (by decide) rfl h),
  fun h=>(dC rfl rfl (by decide) rfl h),
  fun h=>(dC rfl rfl (by decide) rfl h),
  fun h=>(dC rfl rfl (by decide) rfl h),
  fun h=>(dC rfl rfl (by decide) rfl h),
  fun h=>(dC rfl rfl (by decide) rfl h),
  fun h=>(dC rfl rfl (by decide) rfl h),
  fun h=>(dC rfl rfl (by decide) rfl h),
  fun h=>(dC rfl rfl (by decide) rfl h),
  fun h=>(dC rfl rfl (by decide) rfl h),
  fun h=>(dC rfl rfl (by decide) rfl h),
  fun h=>(dC rfl rfl (by decide) rfl h),
  fun h=>(dC rfl rfl (by decide) rfl h),
  fun h=>(dC rfl rfl (by decide) rfl h),
  fun h=>(dC rfl rfl (by decide) rfl h),
  fun h=>(dC rfl rfl (by decide) rfl h),
  fun h=>(dC rfl rfl (by decide) rfl h),
  fun h=>(dC rfl rfl (by decide) rfl h),
  fun h=>(dC rfl rfl (by decide) rfl h),
  fun h=>(dC rfl rfl (by decide) rfl h),
  fun h=>(dC rfl rfl (by decide) rfl h),
  fun h=>(dC rfl rfl (by decide) rfl h),
  fun h=>(dC rfl rfl (by decide) rfl h),
  fun h=>(dC rfl rfl (by decide) rfl h),
  fun h=>(dC rfl rfl (by decide) rfl h)⟩
theorem uT:(∀ {v0:Int},(aS.mk 1 1).run [i64 v0]=some [rL [v0]]) /\
  (∀ {v0 v1:Int},(aS.mk 1 2).run [i64 v0,i64 v1]=some [rL [v0,v1]]) /\
  aS.ne.run []=none /\
  aS.ne.run []=none /\
  aS.ne.run []=none /\
  aS.ne.run []=none /\
  aS.ne.run []=none /\
  aS.ne.run []=none /\
  (∀ {v0:(List UInt8)},(aS.mk 1 1).run [.str v0]=some [rL [v0]]) /\
  (∀ {v0 v1:(List UInt8)},(aS.mk 1 2).run [.str v0,.str v1]=some [rL [v0,v1]]) /\
  aS.ne.run []=none /\
  aS.ne.run []=none /\
  aS.ne.run []=none /\
  aS.ne.run []=none /\
  aS.ne.run []=none /\
  aS.ne.run []=none /\
  (∀ {v0:(List Int)},(aS.mk 1 1).run [rL v0]=some [rL [v0]]) /\
  (∀ {v0:(List aZ)},(aS.mk 1 1).run [rL v0]=some [rL [v0]]) /\
  (∀ {v0:(List (List Int))},(aS.mk 1 1).run [rL v0]=some [rL [v0]]) /\
  aS.ne.run []=none /\
  (∀ {eJ j9 il dm eI ee eg ef dt:Int} {dh:(List Int)},(aS.mk 10 1).run [i64 eJ,i64 j9,i64 il,i64 dm,i64 eI,i64 ee,i64 eg,i64 ef,i64 dt,rL dh]=some [rL [(⟨eJ,j9,il,⟨dm,eI,ee,eg,ef⟩,⟨dt,dh⟩⟩:aZ)]]) /\
  aS.ne.run []=none /\
  (∀ {lO pw eJ kx dm eI ee eg ef gn:Int} {gf:(List Int)} {dt:Int} {dh:(List Int)} {mA:Bool} {p0:(List Int)} {mC:(List aZ)},(aS.mk 16 1).run [i64 lO,i64 pw,i64 eJ,i64 kx,i64 dm,i64 eI,i64 ee,i64 eg,i64 ef,i64 gn,rL gf,i64 dt,rL dh,.bool mA,rL p0,rL mC]=some [rL [(⟨lO,pw,eJ,kx,⟨dm,eI,ee,eg,ef⟩,⟨gn,gf⟩,⟨dt,dh⟩,mA,p0,mC⟩:aQ)]]) /\
  aS.ne.run []=none /\
  (∀ {tR xT xi lO pw eJ j9 il dm eI ee eg ef dt:Int} {dh:(List Int)},(aS.mk 15 1).run [i64 tR,i64 xT,i64 xi,i64 lO,i64 pw,i64 eJ,i64 j9,i64 il,i64 dm,i64 eI,i64 ee,i64 eg,i64 ef,i64 dt,rL dh]=some [rL [(⟨tR,xT,xi,lO,pw,eJ,j9,il,⟨dm,eI,ee,eg,ef⟩,⟨dt,dh⟩⟩:gH)]]) /\
  aS.ne.run []=none :=
 ⟨rfl,
  rfl,
  rfl,
  rfl,
  rfl,
  rfl,
  rfl,
  rfl,
  rfl,
  rfl,
  rfl,
  rfl,
  rfl,
  rfl,
  rfl,
  rfl,
  rfl,
  rfl,
  rfl,
  rfl,
  (Ya5 rfl rfl),
  rfl,
  (Ya5 rfl rfl),
  rfl,
  (Ya5 rfl rfl),
  rfl⟩
theorem sU:(∀ {n:Int},0<=n->n<=100000000000->(aS.make 8 [(.int .i64 0)]).run [i64 n]=some [rL (Rbs n.toNat (0:Int))]) /\
  aS.ne.run []=none /\
  aS.ne.run []=none /\
  (∀ {n:Int},0<=n->n<=100000000000->(aS.make 24 [(.rows 10 [])]).run [i64 n]=some [rL (Rbs n.toNat ([]:(List aZ)))]) /\
  aS.ne.run []=none /\
  aS.ne.run []=none /\
  (∀ {n:Int},0<=n->n<=100000000000->(aS.make 96 [(.int .i64 0),(.int .i64 0),(.int .i64 0),(.int .i64 0),(.int .i64 0),(.int .i64 0),(.int .i64 0),(.int .i64 0),(.int .i64 0),(.rows 1 [])]).run [i64 n]=some [rL (Rbs n.toNat (default:aZ))]) /\
  aS.ne.run []=none /\
  (∀ {n:Int},0<=n->n<=100000000000->(aS.make 192 [(.int .i64 0),(.int .i64 0),(.int .i64 0),(.int .i64 0),(.int .i64 0),(.int .i64 0),(.int .i64 0),(.int .i64 0),(.int .i64 0),(.int .i64 0),(.rows 1 []),(.int .i64 0),(.rows 1 []),(.bool false),(.rows 1 []),(.rows 10 [])]).run [i64 n]=some [rL (Rbs n.toNat (default:aQ))]) /\
  aS.ne.run []=none :=
 ⟨fun h h2=>(Ma9 rfl h (by unfold iM;omega)),
  rfl,
  rfl,
  fun h h2=>(Ma9 rfl h (by unfold iM;omega)),
  rfl,
  rfl,
  fun h h2=>(Ma9 rfl h (by unfold iM;omega)),
  rfl,
  fun h h2=>(Ma9 rfl h (by unfold iM;omega)),
  rfl⟩
theorem jW:(∀ {xs ys:List Int},xs.length+ys.length<=100000000000->(aS.app 1 8 true).run [rL xs,rL ys]=some [rL (xs++ys)]) /\
  (∀ {ys:List Int},ys.length<=100000000000->(aS.app 1 8 true).run [.rows 1 [],rL ys]=some [rL ys]) /\
  (∀ {xs ys:List (List Int)},xs.length+ys.length<=100000000000->(aS.app 1 24 false).run [rL xs,rL ys]=some [rL (xs++ys)]) /\
  (∀ {ys:List (List Int)},ys.length<=100000000000->(aS.app 1 24 false).run [.rows 1 [],rL ys]=some [rL ys]) /\
  (∀ {xs ys:List (List aZ)},xs.length+ys.length<=100000000000->(aS.app 1 24 false).run [rL xs,rL ys]=some [rL (xs++ys)]) /\
  (∀ {ys:List (List aZ)},ys.length<=100000000000->(aS.app 1 24 false).run [.rows 1 [],rL ys]=some [rL ys]) /\
  (∀ {xs ys:List (List (List Int))},xs.length+ys.length<=100000000000->(aS.app 1 24 false).run [rL xs,rL ys]=some [rL (xs++ys)]) /\
  (∀ {ys:List (List (List Int))},ys.length<=100000000000->(aS.app 1 24 false).run [.rows 1 [],rL ys]=some [rL ys]) /\
  (∀ {xs ys:List aZ},xs.length+ys.length<=100000000000->(aS.app 10 96 false).run [rL xs,rL ys]=some [rL (xs++ys)]) /\
  (∀ {ys:List aZ},ys.length<=100000000000->(aS.app 10 96 false).run [.rows 10 [],rL ys]=some [rL ys]) /\
  (∀ {xs ys:List aQ},xs.length+ys.length<=100000000000->(aS.app 16 192 false).run [rL xs,rL ys]=some [rL (xs++ys)]) /\
  (∀ {ys:List aQ},ys.length<=100000000000->(aS.app 16 192 false).run [.rows 16 [],rL ys]=some [rL ys]) /\
  (∀ {xs ys:List gH},xs.length+ys.length<=100000000000->(aS.app 15 136 false).run [rL xs,rL ys]=some [rL (xs++ys)]) /\
  (∀ {ys:List gH},ys.length<=100000000000->(aS.app 15 136 false).run [.rows 15 [],rL ys]=some [rL ys]) :=
 ⟨fun h=>(Fat rfl (fun _ _=>rfl) (by unfold iM;omega)),
  fun h=>(Aa8 rfl (fun _ _=>rfl) (by unfold iM;omega)),
  fun h=>(Fat rfl (fun h=>by cases h) (by unfold iM;omega)),
  fun h=>(Aa8 rfl (fun h=>by cases h) (by unfold iM;omega)),
  fun h=>(Fat rfl (fun h=>by cases h) (by unfold iM;omega)),
  fun h=>(Aa8 rfl (fun h=>by cases h) (by unfold iM;omega)),
  fun h=>(Fat rfl (fun h=>by cases h) (by unfold iM;omega)),
  fun h=>(Aa8 rfl (fun h=>by cases h) (by unfold iM;omega)),
  fun h=>(Fat rfl (fun h=>by cases h) (by unfold iM;omega)),
  fun h=>(Aa8 rfl (fun h=>by cases h) (by unfold iM;omega)),
  fun h=>(Fat rfl (fun h=>by cases h) (by unfold iM;omega)),
  fun h=>(Aa8 rfl (fun h=>by cases h) (by unfold iM;omega)),
  fun h=>(Fat rfl (fun h=>by cases h) (by unfold iM;omega)),
  fun h=>(Aa8 rfl (fun h=>by cases h) (by unfold iM;omega))⟩
theorem Fbz:aS.ne.run []=none /\
  aS.ne.run []=none /\
  aS.ne.run []=none /\
  aS.ne.run []=none /\
  aS.ne.run []=none /\
  aS.ne.run []=none /\
  aS.ne.run []=none /\
  aS.ne.run []=none /\
  aS.ne.run []=none /\
  aS.ne.run []=none /\
  aS.ne.run []=none /\
  (∀ {xs:List aQ} {lo hi:Int},0<=lo->lo<=hi->hi<=xs.length->(aS.sub 16 false).run [rL xs,i64 lo,i64 hi]=some [rL ((xs.take hi.toNat).drop lo.toNat)]) /\
  aS.ne.run []=none :=
 ⟨rfl,
  rfl,
  rfl,
  rfl,
  rfl,
  rfl,
  rfl,
  rfl,
  rfl,
  rfl,
  rfl,
  fun h0 h1 h2=>(Mbf rfl (fun h=>by cases h) h0 h1 h2),
  rfl⟩
theorem rZ:(∀ {om wj q7 qo qy oe u7 q8 qt qz:Int},(aS.eqs [0,0,0,0,0]).run [i64 om,i64 wj,i64 q7,i64 qo,i64 qy,i64 oe,i64 u7,i64 q8,i64 qt,i64 qz]=some [.bool (decide ((⟨om,wj,q7,qo,qy⟩:wW)=⟨oe,u7,q8,qt,qz⟩))]) /\
  aS.ne.run []=none :=
 ⟨(fun {om wj q7 qo qy oe u7 q8 qt qz}=>Fba [om,wj,q7,qo,qy] [oe,u7,q8,qt,qz] rfl (by simp[wW.mk.injEq])),
  rfl⟩
section
variable {T:Nat->Ent} {β:Type} {α:Type} [Inhabited α]
inductive Rd1 (σ:Type) where
 |go (s:σ)
 |out (r:Kind×List D)
def Dac {σ:Type}(f:Nat->α->σ->Rd1 σ):Nat->List α->σ->Rd1 σ
 |_,[],s=>.go s
 | i, x :: xs, s => match f i x s with
  |.go s'=>Dac f (i+1) xs s'
  |.out r=>.out r
def Qbt {σ:Type}(vs:Int->σ->List D)(i:Int):Rd1 σ->Kind×List D
 |.go s=>(.cont,vs (i+1) s)
 |.out r=>r
theorem Mbn {σ:Type}{body:Tm β}{ρ:List D}{init:List aP}(xs:List α)(vs:Int->σ->List D)(s0:σ)(f:Nat->α->σ->Rd1 σ)(inv:Nat->σ->Prop)(fin:σ->Kind×List D)
  (h0:init.map (·.val ρ)=vs 0 s0) (hi:inv 0 s0)
  (h1:∀ (i:Nat) s,i<xs.length->inv i s->Er T body (ρ++vs i s)=some (Qbt vs i (f i (atI xs i) s))/\(∀ s',f i (atI xs i) s=.go s'->inv (i+1) s')/\∀ r,f i (atI xs i) s=.out r->r.1≠.cont)
  (h2:∀ s,inv xs.length s->Er T body (ρ++vs xs.length s)=some (fin s)/\(fin s).1≠.cont) :
  ∃ r,Er T (.loop init body) ρ=some r/\((∃ s,Dac f 0 xs s0=.go s/\inv xs.length s/\r=fin s)\/Dac f 0 xs s0=.out r):=by
 have key:=Pa3 (T:=T) (body:=body) (ρ:=ρ) (γ:=Nat×σ) (fun c=>xs.length-c.1) (fun c=>c.1<=xs.length/\inv c.1 c.2/\Dac f c.1 (xs.drop c.1) c.2=Dac f 0 xs s0) (fun c=>vs (c.1:Int) c.2)
  (fun r=>(∃ s,Dac f 0 xs s0=.go s/\inv xs.length s/\r=fin s)\/Dac f 0 xs s0=.out r)
  (fun ⟨i,s⟩ ⟨hle,hv,hf⟩=>by
   simp only at hle hv hf ⊢
   rcases Rbu i xs.length with bh|mo
   ·obtain⟨h3,h4,h5⟩:=h1 i s bh hv
    have hd:xs.drop i=atI xs i::xs.drop (i+1):=by
     rw[Sb8 bh,bN bh]
    rw[hd,Dac]at hf;refine⟨_,h3,?_⟩
    cases e:f i (atI xs i) s with
    | go s' =>
     rw[e]at hf;exact .inl ⟨rfl,(i+1,s'),⟨by simp only;omega,h4 s' e,hf⟩,by simp only;omega,rfl⟩
    | out r =>
     rw[e]at hf;exact .inr ⟨h5 r e,.inr hf.symm⟩
   ·obtain rfl:i=xs.length:=by omega
    obtain⟨h3,h4⟩:=h2 s hv;rw[Ubx,Dac]at hf;exact⟨_,h3,.inr ⟨h4,.inl ⟨s,hf.symm,hv,rfl⟩⟩⟩)
  xs.length (0,s0) (by simp) ⟨by simp,hi,by simp⟩ init h0
 exact key
theorem Aaa {body:Tm β}{ρ:List D}(j:Nat)(n:Nat)(p:Nat->Bool)(r:List D)
  (h1:∀ i:Nat,i<n->p i=true->Er T body (ρ++[i64 i])=some (.cont,[i64 ((i:Int)+1)]))
  (h2:∀ i:Nat,i<n->p i=false->Er T body (ρ++[i64 i])=some (.ret,r))
  (h3:Er T body (ρ++[i64 n])=some (.yield j,[])) :
  Er T (.loop [.c (i64 0)] body) ρ=jY (wV p n) (some (.yield j,[])) (some (.ret,r)):=by
 have key:=Pa3 (T:=T) (body:=body) (ρ:=ρ) (fun i=>n-i) (fun i=>i<=n/\∀ j,j<i->p j=true) (fun i=>[i64 (i:Nat)])
  (fun q=>(∀ j,j<n->p j=true)/\q=(.yield j,[])\/(∃ j,j<n/\p j=false)/\q=(.ret,r))
  (fun i ⟨hi,df⟩=>by
   rcases Rbu i n with bh|mo
   ·cases e:p i with
    | true => exact ⟨_, h1 i bh e, .inl ⟨rfl, i + 1, ⟨by omega, fun j hj => by
      rcases Rbu j i with h|h
      ·exact df j h
      ·obtain rfl:j=i:=by omega
       exact e⟩,by omega,rfl⟩⟩
    |false=>exact⟨_,h2 i bh e,.inr ⟨by simp,.inr ⟨⟨i,bh,e⟩,rfl⟩⟩⟩
   ·obtain rfl:i=n:=by omega
    exact⟨_,h3,.inr ⟨by simp,.inl ⟨df,rfl⟩⟩⟩)
  n 0 (by omega) ⟨by omega,fun j hj=>by omega⟩ [.c (i64 0)] (by simp[aP.val])
 obtain⟨q,h4,h5⟩:=key;rw[h4]
 rcases h5 with ⟨h6,rfl⟩|⟨h6,rfl⟩
 ·rw[jB.2 h6];rfl
 ·rw[Faa.2 h6];rfl
theorem Oag (xs:List α)(p:α->Bool):wV (fun i=>p (atI xs i)) xs.length=xs.all p:=by
 cases e:xs.all p with
 | true =>
  rw[Rb6]at e;rw[jB];intro i hi;rw[bN hi];exact e _ (Sb7 hi)
 | false =>
  rw[List.all_eq_false]at e;obtain⟨x,hx,hp⟩:=e;obtain⟨i,hi,rfl⟩:=List.getElem_of_mem hx;exact Faa.2 ⟨i,hi,by rw[bN hi];simpa using hp⟩
theorem nH [DecidableEq α]{xs ys:List α}(hl:xs.length=ys.length):wV (fun i=>decide (atI xs i=atI ys i)) xs.length=decide (xs=ys):=by
 by_cases e:xs=ys
 ·subst e
  rw[decide_eq_true rfl,jB];exact fun i _=>decide_eq_true rfl
 ·rw[decide_eq_false e]
  cases h:wV (fun i=>decide (atI xs i=atI ys i)) xs.length with
  |false=>rfl
  | true =>
   rw[jB]at h;refine absurd (List.ext_getElem hl fun i h1 h2=>?_) e;have:=of_decide_eq_true (h i h1);rwa[bN h1,bN h2]at this
theorem sP {xs ys:List α}[DecidableEq α](h:¬ xs.length=ys.length):decide (xs=ys)=false:=decide_eq_false fun e=>h (by rw[e])
theorem Pb9 {body:Tm β}{ρ:List D}(j:Nat)(xs:List α)(p:α->Bool)(r:List D)
  (h1:∀ i:Nat,i<xs.length->InB xs (i:Int)->decide ((i:Int)<xs.length)=true->p (atI xs i)=true->Er T body (ρ++[i64 i])=some (.cont,[i64 ((i:Int)+1)]))
  (h2:∀ i:Nat,i<xs.length->InB xs (i:Int)->decide ((i:Int)<xs.length)=true->p (atI xs i)=false->Er T body (ρ++[i64 i])=some (.ret,r))
  (h3:decide ((xs.length:Int)<xs.length)=false->Er T body (ρ++[i64 xs.length])=some (.yield j,[])) :
  Er T (.loop [.c (i64 0)] body) ρ=jY (xs.all p) (some (.yield j,[])) (some (.ret,r)):=by
 rw[Aaa j xs.length (fun i=>p (atI xs i)) r (fun i hi hp=>h1 i hi (aN.2 hi) (by simp;omega) hp) (fun i hi hp=>h2 i hi (aN.2 hi) (by simp;omega) hp) (h3 (by simp)),Oag]
omit [Inhabited α] in
theorem Vas {body:Tm β}{ρ:List D}(j:Nat)(n:Nat)(p:Nat->Bool)(r:List D)
  (h1:∀ i:Nat,i<n->decide ((i:Int)<n)=true->Er T body (ρ++[i64 i])=jY (p i) (some (.cont,[i64 ((i:Int)+1)])) (some (.ret,r)))
  (h3:decide ((n:Int)<n)=false->Er T body (ρ++[i64 n])=some (.yield j,[])) :
  Er T (.loop [.c (i64 0)] body) ρ=jY (wV p n) (some (.yield j,[])) (some (.ret,r)) :=
 Aaa j n p r (fun i hi hp=>by rw[h1 i hi (by simp;omega),hp];rfl) (fun i hi hp=>by rw[h1 i hi (by simp;omega),hp];rfl) (h3 (by simp))
theorem Jbg {body:Tm β}{ρ:List D}(j:Nat)(xs:List α)(p:α->Bool)(r:List D)
  (h1:∀ i:Nat,i<xs.length->InB xs (i:Int)->decide ((i:Int)<xs.length)=true->atI xs (i:Int)∈xs->Er T body (ρ++[i64 i])=jY (p (atI xs i)) (some (.cont,[i64 ((i:Int)+1)])) (some (.ret,r)))
  (h3:decide ((xs.length:Int)<xs.length)=false->Er T body (ρ++[i64 xs.length])=some (.yield j,[])) :
  Er T (.loop [.c (i64 0)] body) ρ=jY (xs.all p) (some (.yield j,[])) (some (.ret,r)) :=
 Pb9 j xs p r (fun i hi hb hl hp=>by rw[h1 i hi hb hl (by rw[bN hi];exact Sb7 hi),hp];rfl) (fun i hi hb hl hp=>by rw[h1 i hi hb hl (by rw[bN hi];exact Sb7 hi),hp];rfl) h3
def ixF (p:α->Bool)(xs:List α):Int:=match xs.findIdx? p with
 |some i=>i
 |none=>-1
omit [Inhabited α] in
theorem eB (p:α->Bool)(xs:List α):decide (0<=ixF p xs)=xs.any p:=by
 unfold ixF
 cases h:xs.findIdx? p with
 | none =>
  rw[List.findIdx?_eq_none_iff]at h
  have:xs.any p=false:=by
   rw[List.any_eq_false];exact fun x hx=>by simp[h x hx]
  rw[this];rfl
 | some i =>
  have:xs.any p=true:=by
   rw[List.findIdx?_eq_some_iff_getElem]at h;obtain⟨hi,hp,-⟩:=h;rw[List.any_eq_true];exact⟨_,Sb7 hi,hp⟩
  rw[this];simp
theorem Bag {body:Tm β}{ρ:List D}(j:Nat)(xs:List α)(p:α->Bool)(rf:Int->List D)
  (h1:∀ i:Nat,i<xs.length->InB xs (i:Int)->decide ((i:Int)<xs.length)=true->p (atI xs i)=true->Er T body (ρ++[i64 i])=some (.ret,rf i))
  (h2:∀ i:Nat,i<xs.length->InB xs (i:Int)->decide ((i:Int)<xs.length)=true->p (atI xs i)=false->Er T body (ρ++[i64 i])=some (.cont,[i64 ((i:Int)+1)]))
  (h3:decide ((xs.length:Int)<xs.length)=false->Er T body (ρ++[i64 xs.length])=some (.yield j,[])) :
  Er T (.loop [.c (i64 0)] body) ρ=jY (xs.any p) (some (.ret,rf (ixF p xs))) (some (.yield j,[])):=by
 have df:∀ (i:Nat) (ys:List α),Dac (fun (i:Nat) x (_:Unit)=>if p x then Rd1.out (.ret,rf i) else .go ()) i ys ()=match ys.findIdx? p with|some k=>.out (.ret,rf ((i+k:Nat):Int))|none=>.go ():=by
  intro i ys
  induction ys generalizing i with
  |nil=>rfl
  | cons y ys ih =>
   rw[Dac,List.findIdx?_cons]
   cases p y with
   |true=>simp
   | false =>
    simp only[Rbk,if_false];rw[ih (i+1)]
    cases ys.findIdx? p with
    |none=>rfl
    |some k=>simp only[Sbq];congr 4;omega
 obtain⟨q,h4,h5⟩:=Mbn (T:=T) (body:=body) (ρ:=ρ) (init:=[.c (i64 0)]) xs (fun i (_:Unit)=>[i64 i]) () (fun i x _=>if p x then .out (.ret,rf i) else .go ()) (fun _ _=>True) (fun _=>(.yield j,[])) rfl trivial
  (fun i _ hi _=>by
   cases e:p (atI xs i) with
   |true=>exact⟨by rw[h1 i hi (aN.2 hi) (by simp;omega) e];rfl,fun _ _=>trivial,fun r h=>by simp at h;rw[<- h];simp⟩
   |false=>exact⟨by rw[h2 i hi (aN.2 hi) (by simp;omega) e];rfl,fun _ _=>trivial,fun r h=>by simp at h⟩)
  (fun _ _=>⟨h3 (by simp),by simp⟩)
 rw[h4,<- eB];rw[df]at h5;unfold ixF
 cases e:xs.findIdx? p with
 | none =>
  rw[e]at h5
  rcases h5 with ⟨s,-,-,rfl⟩|h5
  ·rfl
  ·simp at h5
 | some k =>
  rw[e]at h5
  rcases h5 with ⟨s,h5,-⟩|h5
  ·simp at h5
  ·simp only[Rb2,Rd1.out.injEq]at h5
   rw[<- h5];simp[jY]
theorem at_mem {xs:List α}{i:Nat}(h:i<xs.length):atI xs (i:Int)∈xs:=by rw[bN h];exact Sb7 h
omit [Inhabited α] in
theorem uK {body:Tm β}{ρ:List D}{init:List aP}(n:Nat)(vs:Nat->List D)(r:Kind×List D)(h0:init.map (·.val ρ)=vs 0)(hr:r.1≠.cont)
  (h1:∀ i:Nat,i<n->decide ((i:Int)<n)=true->Er T body (ρ++vs i)=some (.cont,vs (i+1)))
  (h2:decide ((n:Int)<n)=false->Er T body (ρ++vs n)=some r):Er T (.loop init body) ρ=some r:=by
 obtain⟨q,h3,rfl⟩:=Pa3 (T:=T) (body:=body) (ρ:=ρ) (fun i=>n-i) (fun i=>i<=n) vs (fun q=>q=r)
  (fun i hi=>by
   rcases Rbu i n with bh|mo
   ·exact⟨_,h1 i bh (by simp;omega),.inl ⟨rfl,i+1,by omega,by omega,rfl⟩⟩
   ·obtain rfl:i=n:=by omega
    exact⟨_,h2 (by simp),.inr ⟨hr,rfl⟩⟩) n 0 (by omega) (by omega) init h0
 exact h3
omit [Inhabited α] in
theorem wI {γ:Type}{body:Tm β}{ρ:List D}{init:List aP}(r:Kind×List D)(m:γ->Nat)(inv:γ->Prop)(vs:γ->List D)(c0:γ)(h0:init.map (·.val ρ)=vs c0)(hi:inv c0)(hr:r.1≠.cont)
  (h:∀ c,inv c->(∃ c',Er T body (ρ++vs c)=some (.cont,vs c')/\inv c'/\m c'<m c)\/Er T body (ρ++vs c)=some r):Er T (.loop init body) ρ=some r:=by
 obtain⟨q,h1,rfl⟩:=Pa3 (T:=T) (body:=body) (ρ:=ρ) m inv vs (fun q=>q=r)
  (fun c hc=>by
   rcases h c hc with ⟨c',h2,h3,h4⟩|h2
   ·exact⟨_,h2,.inl ⟨rfl,c',h3,h4,rfl⟩⟩
   ·exact⟨_,h2,.inr ⟨hr,rfl⟩⟩) (m c0) c0 (Rbt _) hi init h0
 exact h1
end
theorem take_at {α:Type}[Inhabited α]{xs:List α}{i:Nat}(h:i<xs.length):xs.take i++[atI xs (i:Int)]=xs.take (i+1):=by rw[Uba h,bN h]
theorem Ead {α:Type}[Inhabited α]{xs:List α}{k:Int}(h:InB xs k):dK xs k (atI xs k)=xs:=by
 have h2:=h.lt;unfold dK atI;rw[Rbi,Rba h2];exact List.set_getElem_self h2
def Ibf {α:Type}[Enc α](xs:List (List α))(k:Int):D:=.rows 1 ((xs.map Enc.enc).set k.toNat [.hole])
theorem Aaw:(∀ {α:Type} [Enc α] {xs:List (List α)} {k:Int},InB xs k->(aS.set 1 0 1).run [rL xs,i64 k,.hole]=some [Ibf xs k])/\(∀ {α:Type} [Enc α] {xs:List (List α)} {k j:Int},InB xs j->aS.inb.run [Ibf xs k,i64 j]=some []) /\
  (∀ {α:Type} [Enc α] {xs:List (List α)} {k:Int} {l:List α},InB xs k->(aS.set 1 0 1).run [Ibf xs k,i64 k,rL l]=some [rL (dK xs k l)]):=by
 refine⟨?_,?_,?_⟩
 ·intro α _ xs k h
  have h2:=h.lt;unfold InB at h;have e:(xs.map Enc.enc)[k.toNat]?=some [rL xs[k.toNat]]:=by rw[Sbd,Rba h2];rfl
  show (if _ then _ else _)=_
  rw[if_pos ⟨rfl,h.1⟩,e];rfl
 ·intro α _ xs k j h
  unfold InB at h;show (if _ then _ else _)=_
  rw[if_pos ⟨h.1,by simpa using h.2⟩]
 ·intro α _ xs k l h
  have h2:=h.lt;unfold InB at h;have e:((xs.map Enc.enc).set k.toNat [.hole])[k.toNat]?=some [.hole]:=by rw[List.getElem?_set_self (by simpa using h2)]
  show (if _ then _ else _)=_
  rw[if_pos ⟨rfl,h.1⟩,e];show some _=_
  simp only[rL,dK,List.map_set,List.set_set];rfl
theorem SQ:(∀ {a b:Int},-9223372036854775808<=a+b->a+b<=9223372036854775807->(aS.bin .add).run [i64 a,i64 b]=some [i64 (a+b)]) /\
  (∀ {a b:Int},-9223372036854775808<=a-b->a-b<=9223372036854775807->(aS.bin .sub).run [i64 a,i64 b]=some [i64 (a-b)]) /\
  (∀ {a b:Int},0<=a->a<=9223372036854775807->0<b->(aS.bin .quo).run [i64 a,i64 b]=some [i64 (a / b)])/\(∀ {a b:Int},0<=a->0<b->(aS.bin .rem).run [i64 a,i64 b]=some [i64 (a % b)]) :=
 ⟨Hbt,Hbj,Ebe,Ebd⟩
theorem gN:(∀ {α:Type} [Inhabited α] {xs:List α} {k:Int} {a:α},InB xs k->atI (dK xs k a) k=a)/\(∀ {α:Type} {xs:List α} {k:Int} {a b:α},dK (dK xs k a) k b=dK xs k b) /\
  (∀ {α:Type} {xs:List α} {j k:Int} {a:α},InB (dK xs j a) k=InB xs k)/\(∀ {α:Type} {xs:List α} {j:Int} {a:α},(dK xs j a).length=xs.length):=by
 refine⟨?_,?_,?_,?_⟩
 ·intro α _ xs k a h
  have:=h.lt;rw[dK,atI,Rbi,List.getElem?_set_self this];rfl
 ·intro α xs k a b
  rw[dK,dK,dK,List.set_set]
 ·intro α xs j k a
  unfold InB dK;rw[Tbg]
 ·intro α xs j a
  exact Tbg ..
def szL {α:Type}(f:α->Nat)(xs:List α):Nat:=xs.length+(xs.map f).sum
def szR (l:Int)(n:Nat):Int:=if (n:Int)<=l then l-n else -1
theorem Man {α:Type}{f:α->Nat}{x:α}{xs:List α}:szL f (x::xs)=1+f x+szL f xs:=by simp[szL];omega
theorem bS {α:Type}{f:α->Nat}:∀ {xs:List α} {x:α},x∈xs->1+f x<=szL f xs
 |[],x,h=>by cases h
 | y :: ys, x, h => by
  rw[Man]
  rcases Rbg.1 h with rfl|h
  ·omega
  ·have:=bS (f:=f) h
   omega
theorem iO {α:Type}{xs:List α}:szL (fun _=>0) xs=xs.length:=by
 have:∀ xs:List α,(xs.map fun _=>0).sum=0:=fun xs=>by
  induction xs with
  |nil=>rfl
  |cons x xs ih=>simp only[Rby,List.sum_cons,ih]
 rw[szL,this];rfl
theorem bW {α:Type}{f:α->Nat}{xs:List α}:xs.length<=szL f xs:=by unfold szL;omega
section
variable {T:Nat->Ent} {β:Type} {α:Type} [Inhabited α]
theorem Ja0 {body:Tm β}{ρ:List D}{a:aP}(xs:List α)(f:α->Nat)(l:Int)(h0:a.val ρ=i64 l)(hl:0<=l)(fS:l<=1048576)
  (h1:∀ (i:Nat) (m:Int),i<xs.length->InB xs (i:Int)->decide ((i:Int)<xs.length)=true->0<=m->m<=1048576->(f (atI xs i):Int)<=m->szR m (f (atI xs i))=m-f (atI xs i)->decide (m-(f (atI xs i):Int)<0)=false->Er T body (ρ++[i64 m,i64 i])=some (.cont,[i64 (m-f (atI xs i)),i64 ((i:Int)+1)]))
  (h2:∀ (i:Nat) (m:Int),i<xs.length->InB xs (i:Int)->decide ((i:Int)<xs.length)=true->0<=m->m<=1048576->m<f (atI xs i)->szR m (f (atI xs i))=-1->decide ((-1:Int)<0)=true->Er T body (ρ++[i64 m,i64 i])=some (.ret,[i64 (-1)]))
  (h3:∀ m:Int,decide ((xs.length:Int)<xs.length)=false->Er T body (ρ++[i64 m,i64 xs.length])=some (.yield 1,[i64 m])) :
  Er T (.loop [a,.c (i64 0)] body) ρ=jY (decide (((xs.map f).sum:Int)<=l)) (some (.yield 1,[i64 (l-(xs.map f).sum)])) (some (.ret,[i64 (-1)])):=by
 have df:∀ (ys:List α) (i:Nat) (m:Int),0<=m->Dac (fun (_:Nat) x (m:Int)=>if (f x:Int)<=m then Rd1.go (m-f x) else .out (.ret,[i64 (-1)])) i ys m=if ((ys.map f).sum:Int)<=m then .go (m-(ys.map f).sum) else .out (.ret,[i64 (-1)]):=by
  intro ys
  induction ys with
  | nil =>
   intro i m hm;simp only[Dac,List.map_nil,List.sum_nil];rw[if_pos (by simpa using hm)];simp
  | cons y ys ih =>
   intro i m hm;simp only[Dac,Rby,List.sum_cons];by_cases h:(f y:Int)<=m
   ·rw[if_pos h]
    simp only;rw[ih (i+1) _ (by omega)];by_cases h4:((ys.map f).sum:Int)<=m-f y
    ·rw[if_pos h4,if_pos (by omega)]
     congr 1;omega
    ·rw[if_neg h4,if_neg (by omega)]
   ·rw[if_neg h]
    simp only;rw[if_neg (by omega)]
 obtain⟨q,h4,h5⟩:=Mbn (T:=T) (body:=body) (ρ:=ρ) (init:=[a,.c (i64 0)]) xs (fun i (m:Int)=>[i64 m,i64 i]) l (fun _ x m=>if (f x:Int)<=m then .go (m-f x) else .out (.ret,[i64 (-1)])) (fun _ m=>0<=m/\m<=1048576) (fun m=>(.yield 1,[i64 m])) (by show [a.val ρ,_]=_;rw[h0];rfl) ⟨hl,fS⟩
  (fun i m hi hm=>by
   by_cases e:(f (atI xs i):Int)<=m
   ·rw[if_pos e]
    refine⟨h1 i m hi (aN.2 hi) (by simp;omega) hm.1 hm.2 e (by rw[szR,if_pos e]) (by simp;omega),fun s' h=>?_,fun r h=>by cases h⟩;simp only[Rd1.go.injEq]at h;omega
   ·rw[if_neg e]
    refine⟨h2 i m hi (aN.2 hi) (by simp;omega) hm.1 hm.2 (by omega) (by rw[szR,if_neg e]) rfl,fun s' h=>by simp at h,fun r h=>?_⟩;simp only[Rd1.out.injEq]at h;rw[<- h];simp)
  (fun m hm=>⟨h3 m (by simp),by simp⟩)
 rw[h4];rw[df xs 0 l hl]at h5;by_cases h:((xs.map f).sum:Int)<=l
 ·rw[if_pos h]at h5
  rw[decide_eq_true h]
  rcases h5 with ⟨s,h5,-,rfl⟩|h5
  ·simp only[Rd1.go.injEq]at h5
   rw[<- h5];rfl
  ·cases h5
 ·rw[if_neg h]at h5
  rw[decide_eq_false h]
  rcases h5 with ⟨s,h5,-⟩|h5
  ·cases h5
  ·simp only[Rd1.out.injEq]at h5
   rw[<- h5];rfl
theorem Fah {body:Tm β}{ρ:List D}{a:aP}[Enc α](xs:List α)(h0:a.val ρ=rL (Rbs xs.length (default:α)))
  (h1:∀ (i:Nat) (ys:List α),i<xs.length->InB xs (i:Int)->InB ys (i:Int)->decide ((i:Int)<xs.length)=true->Er T body (ρ++[rL ys,i64 i])=some (.cont,[rL (dK ys i (atI xs i)),i64 ((i:Int)+1)]))
  (h2:∀ ys:List α,decide ((xs.length:Int)<xs.length)=false->Er T body (ρ++[rL ys,i64 xs.length])=some (.yield 1,[rL ys])) :
  Er T (.loop [a,.c (i64 0)] body) ρ=some (.yield 1,[rL xs]):=by
 have key:=Pa3 (T:=T) (body:=body) (ρ:=ρ) (fun i=>xs.length-i) (fun i=>i<=xs.length) (fun i=>[rL (upto default xs i),i64 (i:Nat)]) (fun q=>q=(.yield 1,[rL xs]))
  (fun i hi=>by
   rcases Rbu i xs.length with bh|mo
   ·refine⟨_,h1 i (upto default xs i) bh (aN.2 bh) (aN.2 (by rw[Lag _ _ hi];exact bh)) (by simp;omega),.inl ⟨rfl,i+1,by omega,by omega,?_⟩⟩
    have:dK (upto default xs i) (i:Int) (atI xs i)=upto default xs (i+1):=by
     rw[dK];exact Laf default xs (by rw[bN bh];exact Rba bh)
    rw[this];simp
   ·obtain rfl:i=xs.length:=by omega
    refine⟨_,h2 _ (by simp),.inr ⟨by simp,?_⟩⟩;rw[Lah])
  xs.length 0 (by omega) (by omega) [a,.c (i64 0)] (by show [a.val ρ,_]=_;rw[h0,Ga8];rfl)
 obtain⟨q,h4,rfl⟩:=key;exact h4
def mkL {α:Type}(c:α->Nat)(f:α->Int->α):List α->Int->List α
 |[],_=>[]
 |x::xs,k=>f x k::mkL c f xs (k+c x)
def ctL {α:Type}(c:α->Nat)(xs:List α):Nat:=(xs.map c).sum
theorem qP {α:Type}{c:α->Nat}{f:α->Int->α}:∀ {xs:List α} {k:Int},(mkL c f xs k).length=xs.length
 |[],_=>rfl
 |x::xs,k=>by simp[mkL,qP]
theorem Zak {c:α->Nat}{f:α->Int->α}:∀ {xs:List α} {k:Int} {i:Nat},i<xs.length->atI (mkL c f xs k) (i:Int)=f (atI xs i) (k+ctL c (xs.take i))
 |x::xs,k,0,h=>by simp[mkL,atI,ctL]
 | x :: xs, k, i + 1, h => by
  have ih:=Zak (c:=c) (f:=f) (xs:=xs) (k:=k+c x) (i:=i) (by simpa using h);rw[mkL,wE,wE,List.getD_cons_succ,List.getD_cons_succ,<- wE,ih,<- wE];congr 1;simp only[ctL,List.take_succ_cons,Rby,List.sum_cons];omega
theorem Na7 {c:α->Nat}{xs:List α}{i:Nat}(h:i<xs.length):ctL c (xs.take (i+1))=ctL c (xs.take i)+c (atI xs i):=by
 rw[Uba h,bN h];unfold ctL;rw[Tb3,List.sum_append];simp
omit [Inhabited α] in
theorem Iaz {c:α->Nat}:∀ {xs:List α} {i:Nat},ctL c (xs.take i)<=ctL c xs
 |[],i=>by simp
 |x::xs,0=>by simp[ctL]
 | x :: xs, i + 1 => by
  have:=Iaz (c:=c) (xs:=xs) (i:=i);simp only[ctL,List.take_succ_cons,Rby,List.sum_cons]at this ⊢;omega
theorem Kaz {c:α->Nat}{xs:List α}{i:Nat}(h:i<xs.length):ctL c (xs.take i)+c (atI xs i)<=ctL c xs:=by
 rw[<- Na7 h];exact Iaz
def upM (c:α->Nat)(f:α->Int->α)(xs:List α)(k:Int)(i:Nat):List α:=(mkL c f xs k).take i++xs.drop i
omit [Inhabited α] in
theorem Laj {c:α->Nat}{f:α->Int->α}{xs:List α}{k:Int}{i:Nat}(h:i<=xs.length):(upM c f xs k i).length=xs.length:=by
 simp[upM,qP];omega
theorem Jbo {c:α->Nat}{f:α->Int->α}{xs:List α}{k:Int}{i:Nat}(h:i<xs.length):atI (upM c f xs k i) (i:Int)=atI xs i:=by
 rw[bN (by rw[Laj (by omega)];exact h),bN h];unfold upM;rw[List.getElem_append_right (by simp[qP];omega)];simp[qP,Nat.min_eq_left (Nat.le_of_lt h)]
theorem Gb1 {c:α->Nat}{f:α->Int->α}{xs:List α}{k:Int}{i:Nat}(h:i<xs.length):dK (upM c f xs k i) (i:Int) (f (atI xs i) (k+ctL c (xs.take i)))=upM c f xs k (i+1):=by
 have hm:i<(mkL c f xs k).length:=by rw[qP];exact h
 unfold upM dK;rw[Int.toNat_natCast,List.set_append_right _ _ (by simp[qP];omega),Uba hm,Rbd];congr 1;have e:i-((mkL c f xs k).take i).length=0:=by simp[qP];omega
 rw[e,Sb8 h,List.set_cons_zero];have:=Zak (c:=c) (f:=f) (k:=k) h;rw[bN hm]at this;rw[this];rfl
theorem nZ {body:Tm β}{ρ:List D}{a b d:aP}[Enc α](xs:List α)(c:α->Nat)(f:α->Int->α)(k:Int)(h0:a.val ρ=rL xs)(h0':b.val ρ=i64 k)(hd:d.val ρ=.undef)(hk:0<=k)(hb:k+ctL c xs<=1152921504606846976)
  (h1:∀ (i:Nat) (ys:List α) (m:Int),i<xs.length->ys.length=xs.length->InB ys (i:Int)->decide ((i:Int)<xs.length)=true->atI ys i=atI xs i->0<=m->m+c (atI xs i)<=1152921504606846976->xs.length<=1152921504606846976->Er T body (ρ++[rL ys,.undef,i64 m,i64 i])=some (.cont,[rL (dK ys i (f (atI xs i) m)),.undef,i64 (m+c (atI xs i)),i64 ((i:Int)+1)]))
  (h2:∀ (ys:List α) (m:Int),ys.length=xs.length->decide ((xs.length:Int)<xs.length)=false->Er T body (ρ++[rL ys,.undef,i64 m,i64 xs.length])=some (.yield 1,[rL ys,i64 m])) (hlen:xs.length<=1152921504606846976) :
  Er T (.loop [a,d,b,.c (i64 0)] body) ρ=some (.yield 1,[rL (mkL c f xs k),i64 (k+ctL c xs)]):=by
 have key:=Pa3 (T:=T) (body:=body) (ρ:=ρ) (fun i=>xs.length-i) (fun i=>i<=xs.length) (fun i=>[rL (upM c f xs k i),.undef,i64 (k+ctL c (xs.take i)),i64 (i:Nat)]) (fun q=>q=(.yield 1,[rL (mkL c f xs k),i64 (k+ctL c xs)]))
  (fun i hi=>by
   rcases Rbu i xs.length with bh|mo
   ·have h3:=Kaz (c:=c) bh
    refine⟨_,h1 i (upM c f xs k i) (k+ctL c (xs.take i)) bh (Laj hi) (aN.2 (by rw[Laj hi];exact bh)) (by simp;omega) (Jbo bh) (by omega) (by omega) hlen,.inl ⟨rfl,i+1,by omega,by omega,?_⟩⟩;rw[Gb1 bh,Na7 bh];simp only[Int.natCast_add,Int.add_assoc];rfl
   ·obtain rfl:i=xs.length:=by omega
    refine⟨_,h2 _ _ (Laj hi) (by simp),.inr ⟨by simp,?_⟩⟩
    have e:upM c f xs k xs.length=mkL c f xs k:=by
     unfold upM;rw[Ubx,Rb1,List.take_of_length_le (by rw[qP];omega)]
    rw[e,Sbw])
  xs.length 0 (by omega) (by omega) [a,d,b,.c (i64 0)] (by show [a.val ρ,d.val ρ,b.val ρ,_]=_;rw[h0,h0',hd];simp[upM,ctL,aP.val])
 obtain⟨q,h4,rfl⟩:=key;exact h4
theorem oC {body:Tm β}{ρ:List D}{b:aP}(xs:List α)(c:α->Nat)(f:α->Int->α)(k:Int)(h0':b.val ρ=i64 k)(hk:0<=k)(hb:k+ctL c xs<=1152921504606846976)(hlen:xs.length<=1152921504606846976)
  (h1:∀ (i:Nat) (m:Int),i<xs.length->InB (mkL c f xs k) (i:Int)->(mkL c f xs k).length=xs.length->decide ((i:Int)<xs.length)=true->atI (mkL c f xs k) i=f (atI xs i) m->0<=m->m+c (atI xs i)<=1152921504606846976->xs.length<=1152921504606846976->Er T body (ρ++[i64 m,i64 i])=some (.cont,[i64 (m+c (atI xs i)),i64 ((i:Int)+1)]))
  (h2:∀ m:Int,(mkL c f xs k).length=xs.length->decide ((xs.length:Int)<xs.length)=false->Er T body (ρ++[i64 m,i64 xs.length])=some (.yield 1,[i64 m])) :
  Er T (.loop [b,.c (i64 0)] body) ρ=some (.yield 1,[i64 (k+ctL c xs)]):=by
 have key:=Pa3 (T:=T) (body:=body) (ρ:=ρ) (fun i=>xs.length-i) (fun i=>i<=xs.length) (fun i=>[i64 (k+ctL c (xs.take i)),i64 (i:Nat)]) (fun q=>q=(.yield 1,[i64 (k+ctL c xs)]))
  (fun i hi=>by
   rcases Rbu i xs.length with bh|mo
   ·have h3:=Kaz (c:=c) bh
    refine⟨_,h1 i (k+ctL c (xs.take i)) bh (aN.2 (by rw[qP];exact bh)) qP (by simp;omega) (Zak bh) (by omega) (by omega) hlen,.inl ⟨rfl,i+1,by omega,by omega,?_⟩⟩;rw[Na7 bh];simp only[Int.natCast_add,Int.add_assoc];rfl
   ·obtain rfl:i=xs.length:=by omega
    refine⟨_,h2 _ qP (by simp),.inr ⟨by simp,?_⟩⟩;rw[Sbw])
  xs.length 0 (by omega) (by omega) [b,.c (i64 0)] (by show [b.val ρ,_]=_;rw[h0'];simp[ctL,aP.val])
 obtain⟨q,h4,rfl⟩:=key;exact h4
end
theorem oN {α:Type}{c f:α->Nat}{m:Nat}(hm:1<=m)(h:∀ x,c x<=m+m*f x):∀ xs:List α,ctL c xs<=m*szL f xs
 |[]=>by simp[ctL]
 | x :: xs => by
  have ih:=oN hm h xs;have h1:=h x;rw[Man];simp only[ctL,Rby,List.sum_cons]at ih ⊢;rw[Nat.mul_add,Nat.mul_add];omega
theorem lt0 {k:Int}(h:0<=k):decide (k<0)=false:=by simp;omega
theorem Nbp:decide ((-1:Int)<0)=true:=rfl
theorem Rah {α:Type}[Enc α]{ie:List Ty}{bytes:Nat}{P:α->Prop}{d:D}(hs:ie.length=Enc.sz α)(hd:∀ ds,WTs ie ds->∃ a:α,ds=Enc.enc a/\P a)(h:WT (.sl bytes ie) d):∃ xs:List α,d=rL xs/\xs.length*bytes<=reachBytes/\∀ x∈xs,P x:=by
 simp only[WT]at h;obtain⟨rs,rfl,h1,h2⟩:=h
 have key:∀ rs:List (List D),(∀ r∈rs,WTs ie r)->∃ xs:List α,rs=xs.map Enc.enc/\∀ x∈xs,P x:=by
  intro rs
  induction rs with
  |nil=>exact fun _=>⟨[],rfl,by simp⟩
  | cons r rs ih =>
   intro h;obtain⟨xs,hx,hp⟩:=ih fun r hr=>h r (List.mem_cons_of_mem _ hr)
   obtain⟨a,ha,hpa⟩:=hd r (h r List.mem_cons_self);exact⟨a::xs,by rw[hx,ha];rfl,by simpa using ⟨hpa,hp⟩⟩
 obtain⟨xs,rfl,hp⟩:=key rs h2;exact⟨xs,by rw[hs];rfl,by simpa using h1,hp⟩
theorem jC {d:D}(h:WT (.int .i64) d):∃ n:Int,d=i64 n/\-9223372036854775808<=n/\n<=9223372036854775807:=by
 obtain⟨n,rfl,h1,h2⟩:=h;exact⟨n,rfl,h1,h2⟩
theorem Ib0 {d:D}(h:WT .bool d):∃ b:Bool,d=.bool b:=h
theorem oI {n b:Nat}(h:n*b<=reachBytes)(hb:0<b):n<=reachBytes:=Rbz (Nat.le_mul_of_pos_right n hb) h
end Go.Proofs.YtgpamlpecmldfaaGreat.Rf
