import Derived.Test.YtgpamlpecmldfaaGreatRf7
import Derived.Shelf.SlicesE.Clone
import Derived.Laws.CopyOwn
import Derived.LoopN
import Derived.WalkKit
import Derived.RegionTactic
import Derived.ChangeAlike
import Derived.Lib.Bytealg
import Derived.Lib.SplitLaws
import Derived.LaidLaws
import Derived.Lay
import Derived.Shelf.Strings.OnBuilder
import Derived.Shelf.Strconv.Itoa3
import Derived.Lib.AppendIntMem
import Derived.Lib.LaidTab
import Derived.Shelf.Lay
import Derived.Shelf.SlSortCmp.NoneTotal
import Derived.Shelf.SlicesE.Delete
import Derived.Shelf.Spec.SlicesInsert
import Derived.Shelf.Spec.SlicesInsertGrow
set_option linter.all false
open Array renaming getElem?_eq_getElem → Sbv, getElem?_append_left → Ubr, getElem?_push → Ubu, size_append → Vbl
open Bool renaming and_eq_true → Rbu, false_eq_true → Sbb, not_true → Sb3, false_or → Tby, and_true → Ubm
open List renaming getElem?_eq_some_iff → Rbw, getElem?_eq_getElem → Rbz, append_assoc → Rb3, mem_cons → Rb4, getD_eq_getElem?_getD → Rb5, getElem?_append_right → Rb6, length_append → Rb8, getElem?_append_left → Rb9, mem_of_getElem? → Sba, mem_append → Sbd, replicate → Sbi, map_cons → Sbk, length_cons → Sbm, length_take → Sbn, all_eq_true → Sbp, length_map → Sbr, append_nil → Sbu, getElem?_map → Sbx, getElem?_drop → Sby, getElem?_take → Sb0, length_drop → Sb8, mem_iff_getElem? → Tbe, mem_of_mem_drop → Tbn, drop_eq_getElem_cons → Tbp, getElem_mem → Tbq, pairwise_cons → Tbu, take_length → Tbv, map_append → Ubg, mem_of_mem_take → Ubh, take_succ_eq_append_getElem → Ubo, length_set → Ubt, size_toArray → Ubz, all_cons → Ub0, drop_length → Vbj, all_nil → Vbn
open Nat renaming add_assoc → Sbf, le_refl → Sbg, lt_or_ge → Sbh, zero_add → Sbo, mul_le_mul_right → Sbt, add_zero → Sbz, le_trans → Sb1, add_mul → Tbd, zero_le → Tb5, div_eq_of_lt → Ubn, mul_comm → Ubp, mul_add_div → Ubx, succ_mul → Vbf
open Option renaming bind_some → Rb1, map_some → Sb9
open Option.some renaming inj → Sbs
namespace Go.Proofs.YtgpamlpecmldfaaGreat.Rf
open Go.Proofs Go.Shelf Go.RowKit Go.Lib
section
variable {P:Program} {ρ:Ren}
set_option maxHeartbeats 2000000 in
set_option maxRecDepth 100000 in
theorem Pa8 (L:SlLaysE0.n41 P ρ)(i0:TypeInfo)(z:Value)(size bytes:Nat)(hi:P.info? (ρ.t 23)=some i0)(nz:i0.zero=some z)(ku:i0.size=size)(ny:i0.bytes=bytes)(qn:z.cells.size=size)(ef:0<size)
  (z23:∀ w,(Go.sizeOf (ρ.t 23)).run P w=.ok size w) (a:Addr) (c:Nat) (w:World) :
  Calls P (ρ.f 41) #[.slice (some a) 0 c] w fun e w'=>∃ v',e=.returned v'/\w'.ownsRow w.heap.size (ρ.t 23) size v' 0 []/\Below w.heap.size w w':=by
 have mixed:=L.mixed;have t4:=L.t4;have a4:=L.a4;have z4:=L.z4;have v4:=L.v4;have t22:=L.t22;have a22:=L.a22;have z22:=L.z22;have v22:=L.v22
 have q22:∀ (w:World) (a:Option Addr) (n c n' c':Nat),(binOp .eql (ρ.t 22) (.slice a n c) (.slice none n' c')).run P w=.ok (.bool a.isNone) w:=fun w a n c n' c'=>Lib.run_eql_slice_nil w _ _ a n c n' c' L.t22
 have u22:∀ w,Sem.run P (underlying (ρ.t 22)) w=.ok (TypeDesc.slice (ρ.t 23)) w:=run_underlying t22;obtain⟨_,_,FG⟩:=L.f41
 go_enter FG,SlBodyN.n41_ntmps ρ
 go_wp2_with (at_builtin;refine wpList_append_own _ rfl _ _ (ρ.t 22) rfl w.heap.size (ρ.t 23) i0 z size bytes t22 hi nz ku ny qn ef _ _ _ rfl (World.ownsRow_made w #[] 0 (Sbg _) (Tb5 _) (by simp)) a 0 c [] rfl ?qc1 ?qc2 ?qc3 ?qc4 ?qc5 ?qc6 ?_)
 case qc1=>simp
 case qc2=>intro j u hj;simp at hj
 case qc3=>intro u hu;cases hu
 case qc4=>exact Tb5 _
 case qc5=>simp
 case qc6=>simp
 intro v' w1 bz tf fR
 go_wp2
 go_ret
 exact⟨v',rfl,by simpa using bz,((Below.refl _ w).alloc (Sbg _) _).grown tf (by simp) (by intro k hk;simp[Value.ownBlock]at hk;omega)⟩
theorem Dab {s:Sig}{G:Gh}{w:World}{vals:List Value}{ds:List D}(h:Cbh s vals w G ds)(hb:s.boxes=[]):lC (pE s G w) G w :=
 ⟨rfl,rfl,rfl,Sbg _,fun b _ _=>⟨rfl,rfl⟩,fun b j hj he=>by
  obtain⟨h1,-⟩:=h.cells b j hj he;rw[hb]at h1;exact absurd h1 (Nat.not_lt_zero _),h.fresh⟩
theorem Aaq {s:Sig}{G:Gh}{w w':World}{vals:List Value}{ds:List D}{own':Nat->Ow}(h:Cbh s vals w G ds)(hb:s.boxes=[])(rK:Below w.heap.size w w')(h1:∀ b,b<w.heap.size->own' b=G.own b)(h2:∀ b,w'.heap.size<=b->own' b=.frz) :
  lC (pE s G w) { G with own:=own' } w' :=
 ⟨rK.os,rK.tape,rK.output,rK.size,fun b aw _=>⟨rK.block b aw,h1 b aw⟩,fun b j hj he=>by
  obtain⟨h1,-⟩:=h.cells b j hj he;rw[hb]at h1;exact absurd h1 (Nat.not_lt_zero _),h2⟩
theorem Bb1 (L:SlLaysE0.n41 P ρ){i0:TypeInfo}{z:Value}{size bytes m key:Nat}{T1:Nat->Ent}(hi:P.info? (ρ.t 23)=some i0)(nz:i0.zero=some z)(ku:i0.size=size)(ny:i0.bytes=bytes)(qn:z.cells.size=size)(ef:0<size)
  (z23:∀ w,(Go.sizeOf (ρ.t 23)).run P w=.ok size w) (hK:∀ n,sO P T1 n key ⟨ρ.f 41,[(false,[.fz false])],[],[(false,[.ow (m+1)])]⟩) :
  Cbc P ⟨ρ.f 41,[(false,[.fz false])],[],[(false,[.ow (m+1)])]⟩ (fun ds=>match ds with
   |[.rows _ []]=>some [.rows size []]
   |ds=>Fun T1 key ds):=by
 intro vals w G ds iy fq he;by_cases py:∃ sz,ds=[.rows sz []]
 ·obtain⟨sz,rfl⟩:=py
  simp only[Option.some.injEq]at he;subst he;obtain⟨u,us,vs,rfl,⟨v,tP,rfl,⟨jk,-⟩,rfl⟩,sr,fR⟩:=fq.params;simp only[Sbb,if_false]at sr;obtain rfl:v=u:=by simpa using sr
  simp only[kN]at fR;subst fR;have a3j:Rd (fun b=>G.own b=.frz) w v (.rows sz []):=jk;obtain⟨A,a,n,c,vs,rfl,hn,hc,-,-⟩:=a3j.inv;obtain rfl:n=0:=hn.symm;obtain⟨nm,sj,hfn⟩:=L.f41;refine .inl ⟨lI hfn sj rfl _ _,?_⟩
  cases A with
  | none =>
   refine Calls.mono (AnyE.slices_Clone_nil L 0 c w) fun e w' ⟨h1,h2⟩=>?_
   subst h1;subst h2
   refine⟨G,[.slice none 0 0],rfl,Dab fq rfl,⟨_,_,_,rfl,⟨_,_,rfl,?_,rfl⟩,rfl,rfl⟩,trivial,trivial⟩;exact .sl none ⟨0,0,none⟩ 0 0 _ [] (fun _ _=>undef) rfl (Sbg _) (.inr ⟨rfl,rfl⟩) (by simp) (fun e=>by cases e) (by simp) (by simp)
  | some a' =>
   refine Calls.mono (Pa8 L i0 z size bytes hi nz ku ny qn ef z23 a' c w) fun e w' ⟨v',h1,h2,h3⟩=>?_
   subst h1
   rcases h2.2 with ⟨rfl,-⟩|⟨g,cap,cur,rfl,hg,cu,-,-,hcur,-⟩
   ·refine⟨{ G with own:=G.own },[.slice none 0 0],rfl,Aaq fq rfl h3 (fun _ _=>rfl) (fun b hb=>fq.fresh b (Sb1 h3.size hb)),⟨_,_,_,rfl,⟨_,_,rfl,?_,rfl⟩,rfl,rfl⟩,trivial,trivial⟩
    exact .sl none ⟨0,0,none⟩ 0 0 _ [] (fun _ _=>undef) rfl (Sbg _) (.inr ⟨rfl,rfl⟩) (by simp) (fun e=>by cases e) (by simp) (by simp)
   ·have aw:g<w'.heap.size:=(Array.getElem?_eq_some_iff.1 cu).1
    refine⟨{ G with own:=fun b=>if b=g then .slc 0 [] else G.own b },[.slice (some ⟨g,0,none⟩) 0 cap],rfl,Aaq fq rfl h3 (fun b hb=>if_neg (by omega)) (fun b hb=>?_),⟨_,_,_,rfl,⟨_,_,rfl,?_,rfl⟩,rfl,rfl⟩,trivial,trivial⟩
    ·show (if b=g then _ else _)=_
     rw[if_neg (by omega)];exact fq.fresh b (Sb1 h3.size hb)
    ·refine .sl (some ⟨g,0,none⟩) ⟨g,0,none⟩ 0 cap _ [] (fun _ _=>undef) rfl (Tb5 _) (.inl rfl) (by simp) (fun _=>⟨rfl,if_pos rfl,fun k hk=>?_⟩) (by simp) (by simp)
     have kk:k<cur.size:=by omega
     refine⟨cur[k],?_,?_⟩
     ·have hb:((⟨g,0,none⟩:Addr).add k).block=g:=add_block _ _
      have ho:((⟨g,0,none⟩:Addr).add k)=⟨g,k,none⟩:=by unfold Addr.add;split<;>simp_all
      rw[ho];simp[World.cell?,cu,kk]
     ·have ho:((⟨g,0,none⟩:Addr).add k)=⟨g,k,none⟩:=by unfold Addr.add;split<;>simp_all
      rw[ho];simp[fzq,cu]
 ·have he':Fun T1 key ds=some iy:=by
   dsimp only at he;split at he
   ·rename_i sz
    exact absurd ⟨sz,rfl⟩ py
   ·exact he
  obtain⟨n,hn⟩:=Eal.1 he';exact hK n vals w G ds iy fq hn
def Aa7 (P:Program)(t:TypeId):Option Nat:=match P.info? t with
 | some i => match i.zero with
  |some z=>if z.cells.size=i.size/\0<i.size then some i.size else none
  |none=>none
 |none=>none
noncomputable def Cb1 (size:Nat)(T1:Nat->Ent)(key:Nat):List D->Option (List D):=fun ds=>match ds with
 |[.rows _ []]=>some [.rows size []]
 |ds=>Fun T1 key ds
theorem Xa1 (L:SlLaysE0.n41 P ρ){size m key f:Nat}{T T1:Nat->Ent}{ti:Nat->Option TI}{sigs:List (Nat×Sig)}(hf:ρ.f 41=f)(h:Aa7 P (ρ.t 23)=some size)(z23:∀ w,(Go.sizeOf (ρ.t 23)).run P w=.ok size w)
  (hK:∀ n,sO P T1 n key ⟨f,[(false,[.fz false])],[],[(false,[.ow (m+1)])]⟩) (hT:T key=.ext (Cb1 size T1 key)) :
  Uag P T ti sigs key ⟨f,[(false,[.fz false])],[],[(false,[.ow (m+1)])]⟩:=by
 subst hf;unfold Aa7 at h;split at h
 ·rename_i i hi
  split at h
  ·rename_i z hz
   split at h
   ·rename_i h1
    cases h;exact .inr ⟨_,hT,Bb1 L hi hz rfl rfl h1.1 h1.2 z23 hK⟩
   ·cases h
  ·cases h
 ·cases h
end
end Go.Proofs.YtgpamlpecmldfaaGreat.Rf
namespace Go.Proofs.YtgpamlpecmldfaaGreat.Rf
open Go.RowKit
section
variable {P:Program}
end
end Go.Proofs.YtgpamlpecmldfaaGreat.Rf
namespace Go.Proofs.YtgpamlpecmldfaaGreat.Rf
section
variable {P:Program}
end
open Go.Proofs Go.Shelf Go.RowKit Go.Lib
section
variable {P:Program} {ρ:Ren}
end
end Go.Proofs.YtgpamlpecmldfaaGreat.Rf
namespace Go.Proofs.YtgpamlpecmldfaaGreat.Rf
def ltQ (p q:Int×Int):Bool:=decide (p.1<q.1)||(p.1==q.1&&decide (p.2<q.2))
theorem uO {p q:Int×Int}:ltQ p q=true↔p.1<q.1\/(p.1=q.1/\p.2<q.2):=by
 unfold ltQ;simp only[Bool.or_eq_true,Rbu,decide_eq_true_eq,beq_iff_eq]
theorem nI {p q:Int×Int}:ltQ p q=false↔q.1<p.1\/(p.1=q.1/\q.2<=p.2):=by
 rw[<- Bool.not_eq_true,uO];omega
theorem Abx {p q:Int×Int}(h:ltQ p q=false)(h':ltQ q p=false):p=q:=by
 rw[nI]at h h';apply Prod.ext<;>omega
def Ebf {β:Type}(k:β->Int×Int)(x:β):List β->List β
 |[]=>[x]
 |y::r=>if ltQ (k x) (k y) then x::y::r else y::Ebf k x r
def La4 {β:Type}(k:β->Int×Int):List β->List β
 |[]=>[]
 |x::r=>Ebf k x (La4 k r)
theorem Fau {β:Type}(k:β->Int×Int)(x:β):∀ l:List β,(Ebf k x l).Perm (x::l)
 |[]=>.refl _
 | y :: r => by
  unfold Ebf;split
  ·exact .refl _
  ·exact ((Fau k x r).cons y).trans (.swap x y r)
theorem Iaa {β:Type}(k:β->Int×Int):∀ l:List β,(La4 k l).Perm l
 |[]=>.refl _
 |x::r=>(Fau k x _).trans ((Iaa k r).cons x)
def Laa {β:Type}(k:β->Int×Int)(l:List β):Prop:=l.Pairwise fun x y=>ltQ (k y) (k x)=false
theorem Fat {β:Type}(k:β->Int×Int)(x:β):∀ {l:List β},Laa k l->Laa k (Ebf k x l)
 |[],_=>by unfold Ebf Laa;simp
 | y :: r, h => by
  obtain⟨h1,h2⟩:=Tbu.1 h;unfold Ebf;split
  ·rename_i hx
   refine Tbu.2 ⟨fun z hz=>?_,h⟩;rw[uO]at hx
   rcases Rb4.1 hz with rfl|hz
   ·rw[nI];omega
   ·have:=h1 z hz
    rw[nI]at this ⊢;omega
  ·rename_i hx
   refine Tbu.2 ⟨fun z hz=>?_,Fat k x h2⟩
   rcases Rb4.1 ((Fau k x r).mem_iff.1 hz) with rfl|hz
   ·simpa using hx
   ·exact h1 z hz
theorem Cau {β:Type}(k:β->Int×Int):∀ l:List β,Laa k (La4 k l)
 |[]=>List.Pairwise.nil
 |x::r=>Fat k x (Cau k r)
def Lbv (p:Int×Int):D:=.rows 1 [[.int .i64 p.1],[.int .i64 p.2]]
section
open Go.Proofs Go.Shelf Go.Sort
variable {P:Program} {ρ:Ren} {own:Nat->Ow} {w:World}
theorem Eaj {a:Addr}(h:a.spot=none)(k:Nat):a.add k=⟨a.block,a.off+k,none⟩:=by
 cases a with
 | mk b o s =>
  obtain rfl:s=none:=h;unfold Addr.add;split
  ·rename_i h0;subst h0;rfl
  ·rfl
end
section
open Go.Proofs Go.Shelf Go.Sort
variable {P:Program} {ρ:Ren} {own:Nat->Ow} {w:World}
def Dba (own:Nat->Ow)(w:World)(v:Value)(p:Int×Int):Prop :=
 ∃ a c,v=.slice (some a) 2 c/\2<=c/\own a.block=.frz/\w.cell? a=some (.int .i64 p.1)/\w.cell? (a.add 1)=some (.int .i64 p.2)
theorem Dba.rd {v:Value}{p:Int×Int}(h:Dba own w v p):Rd (fun b=>own b=.frz) w v (Lbv p):=by
 obtain⟨a,c,rfl,hc,ho,h1,h2⟩:=h;have e0:a.add 0=a:=if_pos rfl;refine .rows (some a) a 2 c 1 _ (fun i _=>if i=0 then .int .i64 p.1 else .int .i64 p.2) rfl hc (.inr rfl) (by simp) (fun i r hi j d hj=>?_) (fun i r hi j d hj=>?_)
 ·match i,j with
  |0,0=>exact⟨ho,by simpa[e0] using h1⟩
  |1,0=>exact⟨ho,by simpa using h2⟩
  |0,j+1=>simp at hi;subst hi;simp at hj
  |1,j+1=>simp at hi;subst hi;simp at hj
  |i+2,_=>simp at hi
 ·match i,j with
  |0,0=>simp at hi;subst hi;simp at hj;subst hj;exact .sc (.int _ _)
  |1,0=>simp at hi;subst hi;simp at hj;subst hj;exact .sc (.int _ _)
  |0,j+1=>simp at hi;subst hi;simp at hj
  |1,j+1=>simp at hi;subst hi;simp at hj
  |i+2,_=>simp at hi
end
section
open Go.Proofs Go.Shelf Go.Sort
variable {P:Program} {ρ:Ren} {own:Nat->Ow} {w:World}
end
section
open Go.Proofs Go.Shelf Go.RowKit Go.Lib Go.Sort
variable {P:Program} {ρ:Ren}
set_option maxHeartbeats 4000000 in
set_option maxRecDepth 1000000 in
theorem Pa3 (L:SlLaysE0.n45 P ρ){K:Nat}{i0:TypeInfo}{z:Value}(kq:P.info? (ρ.t 23)=some i0)(nz:i0.zero=some z)(ku:i0.size=K)(qn:z.cells.size=K)(hK:0<K)(hzo:∀ u∈z.cells.toList,u.oneCell'=true)
  (z23:∀ w,(Go.sizeOf (ρ.t 23)).run P w=.ok K w) (k9 off n cap i j:Nat) (w:World) (olds:List Value) (v8:olds.length=n*K) (uy:∀ k u,olds[k]?=some u->w.cell? ⟨k9,off+k,none⟩=some u) (ho1:∀ u∈olds,u.oneCell'=true)
  (cQ:∀ k,k<cap*K->∃ u,w.cell? ⟨k9,off+k,none⟩=some u/\w.frozen? ⟨k9,off+k,none⟩=false) (ui:n<=cap) (hn:n<=4611686018427387904) (tq:i<=j) (hj:j<=n) :
  Calls P (ρ.f 45) #[.slice (some ⟨k9,off,none⟩) n cap,.int .i64 i,.int .i64 j] w fun e w'=>e=.returned (.slice (some ⟨k9,off,none⟩) (n-(j-i)) cap) /\
   ((i=j/\w'=w)\/(i<j/\w'=(w.drew.setCells k9 (off+i*K) (olds.drop (j*K))).setCells k9 (off+(i+(n-j))*K) (Builtin.zeroCells z.cells (n-(i+(n-j)))).toList)):=by
 have mixed:=L.mixed;have t0:=L.t0;have a0:=L.a0;have z0:=L.z0;have v0:=L.v0;have t3:=L.t3;have a3:=L.a3;have z3:=L.z3;have v3:=L.v3;have t4:=L.t4;have a4:=L.a4;have z4:=L.z4;have v4:=L.v4;have t22:=L.t22;have a22:=L.a22;have z22:=L.z22;have v22:=L.v22
 by_cases heq:i=j
 ·subst heq
  have h0:Calls P (ρ.f 45) #[.slice (some ⟨k9,off,none⟩) n cap,.int .i64 i,.int .i64 i] w fun e w'=>e=.returned (.slice (some ⟨k9,off,none⟩) n cap)/\w'=w:=by
   clear uy ho1 cQ v8;obtain⟨_,_,FG⟩:=L.f45
   go_enter FG,SlBodyN.n45_ntmps ρ
   go_wp2
   all_goals (go_ret;exact⟨rfl,rfl⟩)
  refine h0.mono ?_
  rintro e w' ⟨rfl,rfl⟩
  exact⟨by rw[Nat.sub_self,Nat.sub_zero],.inl ⟨rfl,rfl⟩⟩
 ·have aw:i<j:=by omega
  obtain⟨news,mC⟩:∃ news,news=olds.drop (j*K):=⟨_,rfl⟩;have hlen:news.length=(n-j)*K:=by rw[mC,Sb8,v8,Nat.sub_mul]
  have hjc:cap≠j->j<cap:=by omega
  have hmul:∀ a b:Nat,a<=b->a*K<=b*K:=fun a b h=>Sbt K h
  obtain⟨A,hA,ll⟩:∃ A:Addr,(if cap=j then (some (⟨k9,off,none⟩:Addr)) else some ⟨k9,off+j*K,none⟩)=some A/\Hid (∀ t u,news[t]?=some u->w.drew.cell? (A.add t)=some u):=by
   by_cases h:cap=j
   ·refine⟨⟨k9,off,none⟩,by simp[h],fun t u hu=>?_⟩
    have h0:news.length=0:=by rw[hlen,show n-j=0 by omega,Nat.zero_mul]
    rw[List.length_eq_zero_iff.1 h0]at hu;simp at hu
   ·refine⟨⟨k9,off+j*K,none⟩,by simp[h],fun t u hu=>?_⟩
    rw[mC,Sby]at hu;have:=uy _ u hu;rw[Addr.add_lit,show off+j*K+t=off+(j*K+t) by omega];exact this
  have s1:Hid (news.length=(n-j)*K):=hlen;have s2:Hid (∀ u∈news,u.oneCell'=true):=fun u hu=>ho1 u (Tbn (mC▸hu))
  have eK:i*K+(n-j)*K<=cap*K:=by rw[<- Tbd];exact hmul _ _ (by omega)
  have s3:Hid (∀ t,t<news.length->(w.drew.cell? ⟨k9,off+i*K+t,none⟩).isSome=true/\w.drew.frozen? ⟨k9,off+i*K+t,none⟩=false):=by
   intro t ht;rw[hlen]at ht;obtain⟨u,h1,h2⟩:=cQ (i*K+t) (by omega);rw[Sbf];exact⟨by show (w.cell? _).isSome=true;rw[h1];rfl,h2⟩
  obtain⟨W1,pt⟩:∃ W1,W1=w.drew.setCells k9 (off+i*K) news:=⟨_,rfl⟩
  have ln:∀ k,k<cap*K->∃ u,W1.cell? ⟨k9,off+k,none⟩=some u/\W1.frozen? ⟨k9,off+k,none⟩=false:=by
   intro k hk;obtain⟨u,h1,h2⟩:=cQ k hk;rw[pt];obtain⟨u',h3⟩:=dE (w:=w.drew) (B:=k9) (o:=off+i*K) (vs:=news) (b:=⟨k9,off+k,none⟩) (fun _=>rfl) (fun t ht=>(s3.out t ht).1) h1;exact⟨u',h3,by rw[World.frozen?_setCells];exact h2⟩
  generalize hZ:(Builtin.zeroCells z.cells (n-(i+(n-j)))).toList=Z;have hZl:Z.length=(n-(i+(n-j)))*K:=by rw[<- hZ];simp[Builtin.zeroCells,qn]
  have hZ1:∀ u∈Z,u.oneCell'=true:=by
   intro u hu;rw[<- hZ,Builtin.zeroCells,Array.mem_toList_iff,Array.mem_map]at hu;obtain⟨q,hq,rfl⟩:=hu;have aw:q % z.cells.size<z.cells.size:=Nat.mod_lt _ (by omega);rw[getElem!_pos z.cells _ aw];exact hzo _ (Array.getElem_mem_toList aw)
  have gf:∀ ty,(Builtin.clear_ #[ρ.t 22] ty #[.slice (some ⟨k9,off+(i+(n-j))*K,none⟩) (n-(i+(n-j))) (cap-(i+(n-j)))]).run P W1=.ok (.tuple #[]) (W1.setCells k9 (off+(i+(n-j))*K) Z):=by
   intro ty
   have ez:∀ t,t<Z.length->∃ u,W1.cell? ⟨k9,off+(i+(n-j))*K+t,none⟩=some u/\W1.frozen? ⟨k9,off+(i+(n-j))*K+t,none⟩=false:=fun t ht=>by
    have h1:(i+(n-j))*K+(n-(i+(n-j)))*K<=cap*K:=by rw[<- Tbd];exact hmul _ _ (by omega)
    have:=ln ((i+(n-j))*K+t) (by omega);rwa[<- Sbf]at this
   have cj:=run_storeCells_cells (P:=P) k9 (off+(i+(n-j))*K) Z 0 W1 (fun t ht=>by obtain⟨u,h1,-⟩:=ez t ht;rw[Sbz,h1];rfl) (fun t ht=>by rw[Sbz];exact (ez t ht).choose_spec.2) hZ1;obtain⟨q,hq⟩:∃ q,n-(i+(n-j))=q+1:=⟨n-(i+(n-j))-1,by omega⟩;rw[hq]at hZ ⊢;simp only[Sbz]at cj;simp[Builtin.clear_,run_underlying t22,kH kq nz,hZ,cj]
  have hW:Hid (W1=w.drew.setCells k9 (off+i*K) news):=pt;have hn':Hid (news=olds.drop (j*K)):=mC;have hic:i<=cap:=by omega
  have hjc:j<=cap:=by omega
  have hK0:Hid (0<K):=hK;clear pt mC hlen ln cQ uy ho1 v8 hmul eK hZ hZl hZ1 hK;obtain⟨_,_,FG⟩:=L.f45
  go_enter FG,SlBodyN.n45_ntmps ρ
  go_wp2_with fail
  go_region_law_o (refine step_append_room rfl (.tmp 22) (.tmp 25) (ρ.t 22) rfl (ρ.t 23) i0 K t22 kq ku k9 off i cap (by simp[Act.eval,Act.put]) A (n-j) (cap-j) news (by simp[Act.eval,Act.put]) s1.out ll.out s2.out (by omega) s3.out ?_;rw[<- hW.out])
  go_wp2
  go_ret
  refine⟨by rw[show n-(j-i)=i+(n-j) by omega];rfl,.inr ⟨aw,?_⟩⟩;rw[hW.out,hn'.out]
end
section
open Go.Proofs Go.Shelf
variable {P:Program} {ρ:Ren}
def Cb0 (K:Nat):List D->Option (List D)
 |[.rows sz rs,.int .i64 i,.int .i64 j]=>if sz=K/\0<=i/\i<=j/\j<=rs.length/\rs.length<=4611686018427387904/\0<rs.length then some [.rows K (rs.take i.toNat++rs.drop j.toNat)] else none
 |_=>none
def Xaq (K i j:Nat):Ow->Ow
 |.slc 0 (k::p)=>if k / K<i then .slc 0 (k::p) else if k / K<j then .frz else .slc 0 ((k-(j-i)*K)::p)
 |o=>o
theorem Bbu {K i j r c:Nat}{p:List Nat}(hK:0<K)(hc:c<K)(h:r<i):Xaq K i j (.slc 0 ((r*K+c)::p))=.slc 0 ((r*K+c)::p):=by
 have e:(r*K+c) / K=r:=by rw[Ubp,Ubx hK,Ubn hc,Sbz]
 simp only[Xaq];rw[e,if_pos h]
theorem Xap {K i j r c:Nat}{p:List Nat}(hK:0<K)(hc:c<K)(tq:i<=j)(h:i<=r):Xaq K i j (.slc 0 (((r+(j-i))*K+c)::p))=.slc 0 ((r*K+c)::p):=by
 have e:((r+(j-i))*K+c) / K=r+(j-i):=by rw[Ubp,Ubx hK,Ubn hc,Sbz]
 simp only[Xaq];rw[e,if_neg (by omega),if_neg (by omega),Tbd];congr 2;omega
theorem Xao (L:SlLaysE0.n45 P ρ){K m:Nat}{i0:TypeInfo}{z:Value}(kq:P.info? (ρ.t 23)=some i0)(nz:i0.zero=some z)(ku:i0.size=K)(qn:z.cells.size=K)(hK:0<K)(hzo:∀ u∈z.cells.toList,u.oneCell'=true)
  (z23:∀ w,(Go.sizeOf (ρ.t 23)).run P w=.ok K w):Cbc P ⟨ρ.f 45,[(false,[.ow (m+1)]),(false,[.sc]),(false,[.sc])],[],[(false,[.ow (m+1)])]⟩ (Cb0 K):=by
 intro vals w G ds iy fq hr;unfold Cb0 at hr;split at hr
 case h_2=>cases hr
 rename_i sz rs i j;split at hr
 case isFalse=>cases hr
 rename_i hc;obtain⟨rfl,h0,tq,hj,pk,pA⟩:=hc;obtain rfl:=Sbs hr;obtain⟨u,us,vs,rfl,⟨v,tP,rfl,⟨hv,fX⟩,rfl⟩,sr,u2,us2,vs2,rfl,⟨v2,vs3,rfl,jo,rfl⟩,hsh2,u3,us3,vs4,rfl,⟨v3,vs5,rfl,hs3,rfl⟩,hsh3,fR⟩:=fq.params;simp only[Sbb,if_false]at sr hsh2 hsh3;obtain rfl:v=u:=by simpa using sr
 obtain rfl:v2=u2:=by simpa using hsh2
 obtain rfl:v3=u3:=by simpa using hsh3
 simp only[kN]at fR;subst fR;have xu:Sc v2 (.int .i64 i):=jo;have a3o:Sc v3 (.int .i64 j):=hs3;obtain rfl:=xu.int_inv;obtain rfl:=a3o.int_inv;have uq:Rp G.own w 0 [] (m+1) v (.rows sz rs):=fX;obtain⟨A,a,n,c,cv,eM,hn,ui,hA,ef,bz,cu,cL⟩:=uq.sl_inv
 obtain rfl:A=some a:=by
  rcases hA with h|⟨-,h⟩
  ·exact h
  ·omega
 obtain⟨jd,mc,ez⟩:=bz rfl;have lh:=Eaj jd;obtain⟨nm,sj,hfn⟩:=L.f45;refine .inl ⟨lI hfn sj rfl _ _,?_⟩
 have ea:(⟨a.block,a.off,none⟩:Addr)=a:=by
  cases a with
  | mk b o s =>
   obtain rfl:s=none:=jd;rfl
 have sL:=pU ef cu;have gf:(iE cv n sz).length=n*sz:=kC _ _ _
 have uv:∀ r,r<n->∃ row,rs[r]?=some row/\row.length=sz:=fun r hr=>by
  have h1:rs[r]?=some (rs[r]'(by omega)):=Rbz (by omega);exact⟨_,h1,ef _ (Sba h1)⟩
 have ke:∀ u∈iE cv n sz,u.oneCell'=true:=by
  intro u hu;obtain⟨k,hk⟩:=Tbe.1 hu;obtain⟨k1,k2,k3,rfl⟩:=wR hk;obtain⟨row,h1,h2⟩:=uv _ k1;have h3:row[k % sz]?=some (row[k % sz]'(by omega)):=Rbz (by omega);exact (cL _ _ h1 _ _ h3).one
 have s9:((i.toNat:Nat):Int)=i:=by omega
 have hej:((j.toNat:Nat):Int)=j:=by omega
 have hW:=Pa3 L kq nz ku qn hK hzo z23 a.block a.off n c i.toNat j.toNat w (iE cv n sz) gf (fun k u hk=>by rw[<- lh];exact sL k u (hn.symm▸hk)) ke (fun k hk=>by rw[<- lh];exact (ez k hk).imp fun u h=>⟨h.1,uX h.2 rfl⟩) ui (by omega) (by omega) (by omega);rw[ea,<- eM,s9,hej]at hW;refine hW.mono ?_
 rintro e w' ⟨rfl,hw⟩
 rcases hw with ⟨a5o,rfl⟩|⟨aw,hw⟩
 ·
  refine⟨G,[_],rfl,Dab fq rfl,⟨_,_,_,rfl,⟨_,_,rfl,?_,rfl⟩,rfl,rfl⟩,trivial,trivial⟩;have e1:rs.take i.toNat++rs.drop j.toNat=rs:=by rw[<- a5o];exact List.take_append_drop _ _
  show Rp G.own w' 0 [] (m+1) (.slice (some a) (n-(j.toNat-i.toNat)) c) (.rows sz (rs.take i.toNat++rs.drop j.toNat))
  rw[e1,show n-(j.toNat-i.toNat)=n by omega,<- eM];exact uq
 ·generalize hI:i.toNat=I at *
  generalize hJ:j.toNat=J at *;have hJn:J<=n:=by omega
  generalize hZ:(Builtin.zeroCells z.cells (n-(I+(n-J)))).toList=Z at hw;have hZl:Z.length=(n-(I+(n-J)))*sz:=by rw[<- hZ];simp[Builtin.zeroCells,qn]
  have hmul:∀ a b:Nat,a<=b->a*sz<=b*sz:=fun a b h=>Sbt sz h
  have ve:((iE cv n sz).drop (J*sz)).length=(n-J)*sz:=by rw[Sb8,gf,Nat.sub_mul]
  generalize mC:(iE cv n sz).drop (J*sz)=news at hw ve;have eK:I*sz+(n-J)*sz<=c*sz:=by rw[<- Tbd];exact hmul _ _ (by omega)
  have hroom2:(I+(n-J))*sz+(n-(I+(n-J)))*sz<=c*sz:=by rw[<- Tbd];exact hmul _ _ (by omega)
  have qf:∀ k,k<c*sz->∃ u,w.cell? ⟨a.block,a.off+k,none⟩=some u/\fzq w ⟨a.block,a.off+k,none⟩=false:=fun k hk=>by rw[<- lh];exact ez k hk
  have pa:∀ t,t<news.length->(w.drew.cell? ⟨a.block,a.off+I*sz+t,none⟩).isSome=true:=fun t ht=>by
   obtain⟨u,h1,-⟩:=qf (I*sz+t) (by omega);rw[<- Sbf]at h1;show (w.cell? _).isSome=true
   rw[h1];rfl
  have wx:∀ k,k<c*sz->∃ u,(w.drew.setCells a.block (a.off+I*sz) news).cell? ⟨a.block,a.off+k,none⟩=some u/\fzq (w.drew.setCells a.block (a.off+I*sz) news) ⟨a.block,a.off+k,none⟩=false:=by
   intro k hk;obtain⟨u,h1,h2⟩:=qf k hk;obtain⟨u',h3⟩:=dE (w:=w.drew) (B:=a.block) (o:=a.off+I*sz) (vs:=news) (b:=⟨a.block,a.off+k,none⟩) (fun _=>rfl) pa h1;exact⟨u',h3,by rw[dU];exact h2⟩
  have pP:∀ t,t<Z.length->((w.drew.setCells a.block (a.off+I*sz) news).cell? ⟨a.block,a.off+(I+(n-J))*sz+t,none⟩).isSome=true:=fun t ht=>by
   obtain⟨u,h1,-⟩:=wx ((I+(n-J))*sz+t) (by omega);rw[<- Sbf]at h1;rw[h1];rfl
  have qu:∀ k,k<c*sz->∃ u,w'.cell? ⟨a.block,a.off+k,none⟩=some u/\fzq w' ⟨a.block,a.off+k,none⟩=false:=by
   intro k hk;obtain⟨u,h1,h2⟩:=wx k hk;rw[hw];obtain⟨u',h3⟩:=dE (B:=a.block) (o:=a.off+(I+(n-J))*sz) (vs:=Z) (b:=⟨a.block,a.off+k,none⟩) (fun _=>rfl) pP h1;exact⟨u',h3,by rw[dU];exact h2⟩
  have sE:∀ k u,k<I*sz->w.cell? ⟨a.block,a.off+k,none⟩=some u->w'.cell? ⟨a.block,a.off+k,none⟩=some u:=by
   intro k u hk h1;have:I*sz<=(I+(n-J))*sz:=hmul _ _ (by omega);rw[hw,World.cell?_setCells_out _ _ _ _ _ (fun _ _=>.inl (by dsimp only;omega)),World.cell?_setCells_out _ _ _ _ _ (fun _ _=>.inl (by dsimp only;omega))];exact h1
  have a0s:∀ t u,news[t]?=some u->w'.cell? ⟨a.block,a.off+I*sz+t,none⟩=some u:=by
   intro t u ht;have zw:=(Rbw.1 ht).1;have e1:(I+(n-J))*sz=I*sz+(n-J)*sz:=Tbd _ _ _;rw[hw,World.cell?_setCells_out _ _ _ _ _ (fun _ _=>.inl (by dsimp only;omega)),World.cell?_setCells_in a.block news (a.off+I*sz) w.drew pa t zw,<- ht,Rbz]
  have cI:∀ b,b≠a.block->w'.heap[b]?=w.heap[b]?:=fun b hb=>by
   rw[hw,bC _ _ _ _ _ hb,bC _ _ _ _ _ hb];rfl
  have oB:w'.heap.size=w.heap.size:=by rw[hw,setCells_size,setCells_size];rfl
  have mw:w'.os=w.os/\w'.tape=w.tape/\w'.output=w.output:=by
   obtain⟨q1,q2,q3⟩:=cB a.block Z (a.off+(I+(n-J))*sz) (w.drew.setCells a.block (a.off+I*sz) news);obtain⟨p1,p2,p3⟩:=cB a.block news (a.off+I*sz) w.drew;rw[hw];exact⟨q1.trans p1,q2.trans p2,q3.trans p3⟩
  have yp:∀ b,(∀ p,G.own b≠.slc 0 p)->Xaq sz I J (G.own b)=G.own b:=by
   intro b hb
   cases e:G.own b with
   | slc s p =>
    cases s with
    |zero=>exact absurd e (hb p)
    |succ s=>rfl
   |_=>rfl
  have ri:∀ b,G.own b=.frz->b<w.heap.size->Xaq sz I J (G.own b)=.frz/\w'.heap[b]?=w.heap[b]?:=fun b hb _=>⟨by rw[hb];rfl,cI b fun e=>by rw[e,mc]at hb;cases hb⟩
  have nF:∀ {b k:Nat} {p:List Nat},G.own b=.slc 0 (k::p)->w'.heap[b]?=w.heap[b]?:=fun {b k p} hb=>cI b fun e=>by rw[e,mc]at hb;injection hb with _ hb;cases hb
  refine⟨{ G with own:=fun b=>Xaq sz I J (G.own b) },[_],rfl,⟨mw.1,mw.2.1,mw.2.2,by rw[oB];exact Sbg _,fun b hb ho=>?_,fun b q hb ho=>?_,fun b hb=>?_⟩,⟨_,_,_,rfl,⟨_,_,rfl,?_,rfl⟩,rfl,rfl⟩,trivial,trivial⟩
  ·change G.own b=_\/G.own b=_ at ho
   refine⟨cI b fun e=>?_,yp b fun p e=>?_⟩
   ·rw[e,mc]at ho;rcases ho with h|h<;>cases h
   ·rw[e]at ho;rcases ho with h|h<;>cases h
  ·exact absurd (fq.cells b q hb ho).1 (Nat.not_lt_zero _)
  ·show Xaq sz I J (G.own b)=.frz
   rw[fq.fresh b (by omega)];rfl
  ·show Rp (fun b=>Xaq sz I J (G.own b)) w' 0 [] (m+1) (.slice (some a) (n-(J-I)) c) (.rows sz (rs.take I++rs.drop J))
   have gq:∀ r row,(rs.take I++rs.drop J)[r]?=some row->(r<I/\rs[r]?=some row)\/(I<=r/\rs[r+(J-I)]?=some row):=by
    intro r row hr;have ka:(rs.take I).length=I:=by rw[Sbn];omega
    rcases Sbh r I with h|h
    ·rw[Rb9 (by omega),Sb0,if_pos h]at hr
     exact .inl ⟨h,hr⟩
    ·rw[Rb6 (by omega),ka,Sby,show J+(r-I)=r+(J-I) by omega]at hr
     exact .inr ⟨h,hr⟩
   refine .sl (some a) a _ c sz _ (fun r q=>if r<I then cv r q else cv (r+(J-I)) q) ?_ (by omega) (.inl rfl) (fun row hr=>?_) (fun _=>⟨jd,?_,fun k hk=>?_⟩) (fun r row hr q d hq=>?_) (fun r row hr q d hq=>?_)
   ·rw[Rb8,Sbn,Sb8];omega
   ·rcases Sbd.1 hr with h|h
    ·exact ef row (Ubh h)
    ·exact ef row (Tbn h)
   ·rw[mc];rfl
   ·rw[lh];exact qu k hk
   ·rcases gq r row hr with ⟨h,h1⟩|⟨h,h1⟩
    ·rw[if_pos h]
     have oS:q<sz:=by rw[<- ef row (Sba h1)];exact (Rbw.1 hq).1
     have h2:=cu r row h1 q d hq;rw[lh]at h2 ⊢;refine sE _ _ ?_ h2;have:=hmul (r+1) I (by omega);rw[Tbd]at this;omega
    ·rw[if_neg (by omega)]
     have oS:q<sz:=by rw[<- ef row (Sba h1)];exact (Rbw.1 hq).1
     have pz:r+(J-I)<n:=by rw[<- hn];exact (Rbw.1 h1).1
     have h3:news[(r-I)*sz+q]?=some (cv (r+(J-I)) q):=by
      rw[<- mC,Sby,show J*sz+((r-I)*sz+q)=(r+(J-I))*sz+q by rw[<- Sbf,<- Tbd];congr 2;omega];exact kZ cv pz oS
     have:=a0s _ _ h3;rw[show a.off+I*sz+((r-I)*sz+q)=a.off+(r*sz+q) by rw[Sbf,<- Sbf (I*sz),<- Tbd];congr 3;omega,<- lh]at this;exact this
   ·rcases gq r row hr with ⟨h,h1⟩|⟨h,h1⟩
    ·rw[if_pos h]
     have oS:q<sz:=by rw[<- ef row (Sba h1)];exact (Rbw.1 hq).1
     have:=(cL r row h1 q d hq).mono' (own':=fun b=>Xaq sz I J (G.own b)) (w':=w') (r':=0) (q:=[r*sz+q]) (q':=[r*sz+q]) ri [] (by simp) (fun b t hb=>⟨by rw[hb];exact Bbu hK oS h,nF hb⟩);simpa using this
    ·rw[if_neg (by omega)]
     have oS:q<sz:=by rw[<- ef row (Sba h1)];exact (Rbw.1 hq).1
     have:=(cL _ row h1 q d hq).mono' (own':=fun b=>Xaq sz I J (G.own b)) (w':=w') (r':=0) (q:=[(r+(J-I))*sz+q]) (q':=[r*sz+q]) ri [] (by simp) (fun b t hb=>⟨by rw[hb];exact Xap hK oS (by omega) h,nF hb⟩);simpa using this
def Qai (P:Program)(t:TypeId):Bool:=match P.info? t with
 | some i => match i.zero with
  |some z=>z.cells.toList.all fun u=>u.oneCell'
  |none=>true
 |none=>true
theorem Ta5 (L:SlLaysE0.n45 P ρ){K m f key:Nat}{T:Nat->Ent}{ti:Nat->Option TI}{sigs:List (Nat×Sig)}(hf:ρ.f 45=f)(h:Aa7 P (ρ.t 23)=some K)(z23:∀ w,(Go.sizeOf (ρ.t 23)).run P w=.ok K w)
  (ku:Qai P (ρ.t 23)=true) (hT:T key=.ext (Cb0 K)) :
  Uag P T ti sigs key ⟨f,[(false,[.ow (m+1)]),(false,[.sc]),(false,[.sc])],[],[(false,[.ow (m+1)])]⟩:=by
 subst hf;unfold Aa7 at h;split at h
 ·rename_i i hi
  split at h
  ·rename_i z hz
   split at h
   ·rename_i h1
    cases h
    have h2:(z.cells.toList.all fun u=>u.oneCell')=true:=by
     unfold Qai at ku;rw[hi]at ku;dsimp only at ku;rw[hz]at ku;exact ku
    rw[Sbp]at h2;exact .inr ⟨_,hT,Xao L hi hz rfl h1.1 h1.2 h2 z23⟩
   ·cases h
  ·cases h
 ·cases h
end
section
open Go.Proofs Go.Shelf Go.RowKit Go.Lib
variable {P:Program}
theorem vZ (w:World)(dT sT ty elem:TypeId){K:Nat}(b o xx a3l:Nat)(a:Addr)(xr a3n:Nat)(cs:List Value)
  (hu:P.underlying dT=some (.slice elem)) (hs:(P.info? elem).map (·.size)=some K) (hn:cs.length=Nat.min xr xx*K)
  (ll:∀ j v,cs[j]?=some v->w.cell? (a.add j)=some v) (hc:∀ j,j<cs.length->(w.cell? ⟨b,o+j,none⟩).isSome=true) (hf:∀ j,j<cs.length->w.frozen? ⟨b,o+j,none⟩=false) (h1:∀ v∈cs,v.oneCell'=true) :
  (Builtin.copy_ #[dT,sT] ty #[.slice (some ⟨b,o,none⟩) xx a3l,.slice (some a) xr a3n]).run P w=.ok (goInt (Nat.min xr xx)) (w.setCells b o cs):=by
 have hl:=run_loadCells_list (P:=P) w a cs ll;have cj:=run_storeCells_cells (P:=P) b o cs 0 w (by simpa using hc) (by simpa using hf) h1
 cases hq:P.info? elem with
 |none=>simp[hq]at hs
 | some i =>
  have hi:i.size=K:=by simpa[hq] using hs
  simp[Builtin.copy_,run_underlying hu,Builtin.lenOf,Builtin.firstCells,sizeOf,typeInfo,hq,hi,<- hn,hl,cj]
structure Ga3 (w w':World) (A:Option Addr) (n cap K:Nat) (news:List Value) (B o:Nat):Prop where
 le:n+1<=cap
 place:(A=some ⟨B,o,none⟩/\w'.heap.size=w.heap.size/\∀ b,b≠B->w'.heap[b]?=w.heap[b]?)\/(B=w.heap.size/\w'.heap.size=w.heap.size+1/\∀ b,b<w.heap.size->w'.heap[b]?=w.heap[b]?)
 cell:∀ k u,news[k]?=some u->w'.cell? ⟨B,o+k,none⟩=some u
 all:∀ k,k<cap*K->∃ u,w'.cell? ⟨B,o+k,none⟩=some u
 fz:fzq w' ⟨B,o,none⟩=false
 rest:w'.os=w.os/\w'.tape=w.tape/\w'.output=w.output
def Qaf (P:Program)(f K:Nat):Prop :=
 ∀ (A:Option Addr) (n c i vb fm vc:Nat) (cs vs:List Value) (w:World),i<=n->n<=c->n<=100000000000->cs.length=n*K->vs.length=K->(∀ u∈cs,u.oneCell'=true)->(∀ u∈vs,u.oneCell'=true) ->
  (A=none->c=0)->(∀ a,A=some a->a.spot=none/\a.block≠vb/\(0<c->fzq w a=false)/\(∀ k u,cs[k]?=some u->w.cell? ⟨a.block,a.off+k,none⟩=some u)/\∀ k,k<c*K->∃ u,w.cell? ⟨a.block,a.off+k,none⟩=some u) ->
  (∀ k u,vs[k]?=some u->w.cell? ⟨vb,fm+k,none⟩=some u)->fzq w ⟨vb,fm,none⟩=false ->
  Calls P f #[.slice A n c,.int .i64 i,.slice (some ⟨vb,fm,none⟩) 1 vc] w fun e w' =>
   ∃ B o cap,e=.returned (.slice (some ⟨B,o,none⟩) (n+1) cap)/\Ga3 w w' A n cap K (cs.take (i*K)++vs++cs.drop (i*K)) B o
end
section
open Go.Proofs Go.Shelf
variable {P:Program}
def Cbt (K:Nat):List D->Option (List D)
 |[.rows sz rs,.int .i64 i,.rows nx [row]]=>if sz=K/\nx=K/\0<=i/\i<=rs.length/\rs.length<=100000000000 then some [.rows K (rs.take i.toNat++row::rs.drop i.toNat)] else none
 |_=>none
def Oal (K i:Nat):Ow->Ow
 |.slc 0 []=>.frz
 |.slc 0 (k::p)=>if k / K<i then .slc 0 (k::p) else .slc 0 ((k+K)::p)
 |.slc 1 []=>.frz
 |.slc 1 (k::p)=>.slc 0 ((i*K+k)::p)
 |o=>o
theorem Ab9 {K i r c:Nat}{p:List Nat}(hK:0<K)(hc:c<K)(h:r<i):Oal K i (.slc 0 ((r*K+c)::p))=.slc 0 ((r*K+c)::p):=by
 have e:(r*K+c) / K=r:=by rw[Ubp,Ubx hK,Ubn hc,Sbz]
 simp only[Oal];rw[e,if_pos h]
theorem Wat {K i r c:Nat}{p:List Nat}(hK:0<K)(hc:c<K)(h:i<=r):Oal K i (.slc 0 ((r*K+c)::p))=.slc 0 (((r+1)*K+c)::p):=by
 have e:(r*K+c) / K=r:=by rw[Ubp,Ubx hK,Ubn hc,Sbz]
 simp only[Oal];rw[e,if_neg (by omega),Tbd];congr 2;omega
theorem Hbw {f K m : Nat} {fn : Func} {cd : Code} (hf : P.funcs[f]? = some fn) (hname : (fn.name == "runtime.NumGoroutine") = false) (hb : fn.body = some cd) (hK : 0 < K) (W : Qaf P f K) :
  Cbc P ⟨f,[(false,[.ow (m+1)]),(false,[.sc]),(false,[.ow (m+1)])],[],[(false,[.ow (m+1)])]⟩ (Cbt K):=by
 intro vals w G ds iy fq hr;unfold Cbt at hr;split at hr
 case h_2=>cases hr
 rename_i sz rs i nx row0;split at hr
 case isFalse=>cases hr
 rename_i hc;obtain⟨ku,ny,h0,hi,pk⟩:=hc;replace ku:=ku.symm;replace ny:=ny.symm;subst ku ny;obtain rfl:=Sbs hr;obtain⟨u,us,vs,rfl,⟨v,tP,rfl,⟨hv,fX⟩,rfl⟩,sr,u2,us2,vs2,rfl,⟨v2,vs3,rfl,jo,rfl⟩,hsh2,u3,us3,vs4,rfl,⟨v3,vs5,rfl,⟨hv3,a36⟩,rfl⟩,hsh3,fR⟩:=fq.params;simp only[Sbb,if_false]at sr hsh2 hsh3;obtain rfl:v=u:=by simpa using sr
 obtain rfl:v2=u2:=by simpa using hsh2
 obtain rfl:v3=u3:=by simpa using hsh3
 simp only[kN]at fR;subst fR;have xu:Sc v2 (.int .i64 i):=jo;obtain rfl:=xu.int_inv;have uq:Rp G.own w 0 [] (m+1) v (.rows K rs):=fX;have a1u:Rp G.own w 1 [] (m+1) v3 (.rows K [row0]):=a36;obtain⟨A,a,n,c,cv,eM,hn,ui,hA,ef,bz,cu,cL⟩:=uq.sl_inv;obtain⟨A3,b,n3,c3,vv,a0z,hn3,hcap3,hA3,zc,a01,xt,vw⟩:=a1u.sl_inv;obtain rfl:1=n3:=hn3
 obtain rfl:A3=some b:=by
  rcases hA3 with h|⟨-,h⟩
  ·exact h
  ·omega
 obtain⟨sd,a6s,vk⟩:=a01 rfl;have wt:=Eaj sd
 have ea3:(⟨b.block,b.off,none⟩:Addr)=b:=by
  cases b with
  | mk b o s =>
   obtain rfl:s=none:=sd;rfl
 have pz:row0.length=K:=zc row0 (by simp);have gf:(iE cv n K).length=n*K:=kC _ _ _;have a07:(iE vv 1 K).length=K:=by rw[kC,Nat.one_mul]
 have ke:∀ (cv:Nat->Nat->Value) (rs:List (List D)) (r:Nat),(∀ r∈rs,r.length=K)->(∀ i row,rs[i]?=some row->∀ j d,row[j]?=some d->Rp G.own w r ([]++[i*K+j]) m (cv i j) d)->∀ u∈iE cv rs.length K,u.oneCell'=true:=by
  intro cv rs r ef cL u hu;obtain⟨k,hk⟩:=Tbe.1 hu;obtain⟨k1,k2,k3,rfl⟩:=wR hk;have h1:rs[k / K]?=some (rs[k / K]'(by omega)):=Rbz (by omega);have h2:=ef _ (Sba h1);have h3:(rs[k / K]'(by omega))[k % K]?=some ((rs[k / K]'(by omega))[k % K]'(by omega)):=Rbz (by omega);exact (cL _ _ h1 _ _ h3).one
 have s9:((i.toNat:Nat):Int)=i:=by omega
 refine .inl ⟨lI hf hname hb _ _,?_⟩
 have hW:=W A n c i.toNat b.block b.off c3 (iE cv n K) (iE vv 1 K) w (by omega) ui (by omega) gf a07 (hn▸ke cv rs 0 ef cL) (ke vv [row0] 1 zc vw) (fun e=>by
   rcases hA with h|⟨-,h⟩
   ·rw[h]at e;cases e
   ·exact h) (fun a' e=>by
   obtain rfl:a=a':=by
    rcases hA with h|⟨h,-⟩
    ·exact Sbs (h.symm.trans e)
    ·rw[h]at e;cases e
   obtain⟨jd,mc,ez⟩:=bz e;have lh:=Eaj jd;refine⟨jd,fun e=>?_,fun hc=>?_,fun k u hk=>?_,fun k hk=>?_⟩
   ·rw[e,a6s]at mc
    injection mc with h1 _
    cases h1
   ·obtain⟨u,-,hu⟩:=ez 0 (Nat.mul_pos hc hK)
    rw[lh]at hu;exact hu
   ·rw[<- lh]
    exact pU ef cu k u (hn.symm▸hk)
   ·obtain⟨u,hu,-⟩:=ez k hk
    rw[<- lh]
    exact⟨u,hu⟩) (fun k u hk=>by rw[<- wt];exact pU zc xt k u hk) (by
   obtain⟨u,-,hu⟩:=vk 0 (Nat.mul_pos (by omega) hK);rw[wt]at hu;exact hu)
 have ev3:v3=.slice (some ⟨b.block,b.off,none⟩) 1 c3:=by rw[ea3];exact a0z
 rw[<- eM,s9,<- ev3]at hW;refine hW.mono ?_
 rintro e w' ⟨B,o,cap,rfl,D⟩
 generalize hI:i.toNat=I at *;have hIn:I<=n:=by omega
 have a1g:∀ x,B≠x\/G.own x=.slc 0 []\/w.heap.size<=x:=by
  intro x
  rcases D.place with ⟨hp,-⟩|⟨hp,-⟩
  ·by_cases hx:B=x
   ·obtain⟨-,mc,-⟩:=bz (show A=some a by
     rcases hA with h|⟨h,-⟩
     ·exact h
     ·rw[h]at hp;cases hp)
    have:a=⟨B,o,none⟩:=by
     rcases hA with h|⟨h,-⟩
     ·exact Sbs (h.symm.trans hp)
     ·rw[h]at hp;cases hp
    rw[this]at mc;exact .inr (.inl (hx▸mc))
   ·exact .inl hx
  ·by_cases hx:B=x
   ·exact .inr (.inr (by omega))
   ·exact .inl hx
 have hBlt:B<w'.heap.size:=by
  obtain⟨u,hu⟩:=D.all 0 (Nat.mul_pos (by have:=D.le;omega) hK);exact block_lt_of_cell hu
 have tf:w.heap.size<=w'.heap.size:=by
  rcases D.place with ⟨-,h,-⟩|⟨-,h,-⟩<;>omega
 have cI:∀ x,x<w.heap.size->G.own x≠.slc 0 []->w'.heap[x]?=w.heap[x]?:=fun x hx ho=>by
  rcases D.place with ⟨-,-,h⟩|⟨-,-,h⟩
  ·refine h x fun e=>?_
   rcases a1g x with h1|h1|h1
   ·exact h1 e.symm
   ·exact ho h1
   ·omega
  ·exact h x hx
 have aw:∀ x,G.own x≠.frz->x<w.heap.size:=fun x h=>by
  rcases Sbh x w.heap.size with h1|h1
  ·exact h1
  ·exact absurd (fq.fresh x h1) h
 have fv:∀ x,x<w.heap.size->G.own x≠.slc 0 []->(if x=B then Ow.slc 0 [] else Oal K I (G.own x))=Oal K I (G.own x):=fun x hx ho=>by
  rw[if_neg];intro e
  rcases a1g x with h|h|h
  ·exact h e.symm
  ·exact ho h
  ·omega
 have ri:∀ x,G.own x=.frz->x<w.heap.size->(if x=B then Ow.slc 0 [] else Oal K I (G.own x))=.frz/\w'.heap[x]?=w.heap[x]?:=fun x hx hl=>by
  have dk:G.own x≠.slc 0 []:=by rw[hx];exact fun h=>by cases h
  exact⟨by rw[fv x hl dk,hx];rfl,cI x hl dk⟩
 have nF:∀ {x r k:Nat} {p:List Nat},G.own x=.slc r (k::p)->(if x=B then Ow.slc 0 [] else Oal K I (G.own x))=Oal K I (.slc r (k::p))/\w'.heap[x]?=w.heap[x]?:=fun {x r k p} hx=>by
  have dk:G.own x≠.slc 0 []:=by rw[hx];exact fun h=>by injection h with _ h;cases h
  have hl:=aw x (by rw[hx];exact fun h=>by cases h);exact⟨by rw[fv x hl dk,hx],cI x hl dk⟩
 refine⟨{ G with own:=fun x=>if x=B then .slc 0 [] else Oal K I (G.own x) },[_],rfl,⟨D.rest.1,D.rest.2.1,D.rest.2.2,tf,fun x hx ho=>?_,fun x q hx ho=>?_,fun x hx=>?_⟩,⟨_,_,_,rfl,⟨_,_,rfl,?_,rfl⟩,rfl,rfl⟩,trivial,trivial⟩
 ·change G.own x=_\/G.own x=_ at ho
  have dk:G.own x≠.slc 0 []:=by rcases ho with h|h<;>rw[h]<;>exact fun h=>by cases h
  refine⟨cI x hx dk,?_⟩;show (if x=B then Ow.slc 0 [] else Oal K I (G.own x))=G.own x
  rw[fv x hx dk]
  rcases ho with h|h<;>rw[h]<;>rfl
 ·exact absurd (fq.cells x q hx ho).1 (Nat.not_lt_zero _)
 ·show (if x=B then Ow.slc 0 [] else Oal K I (G.own x))=.frz
  rw[if_neg (by omega),fq.fresh x (by omega)];rfl
 ·show Rp (fun x=>if x=B then .slc 0 [] else Oal K I (G.own x)) w' 0 [] (m+1) (.slice (some ⟨B,o,none⟩) (n+1) cap) (.rows K (rs.take I++row0::rs.drop I))
  have lh:∀ k,(⟨B,o,none⟩:Addr).add k=⟨B,o+k,none⟩:=fun k=>Eaj (a:=⟨B,o,none⟩) rfl k
  have gq:∀ r row,(rs.take I++row0::rs.drop I)[r]?=some row->(r<I/\rs[r]?=some row)\/(r=I/\row=row0)\/(I<r/\rs[r-1]?=some row):=by
   intro r row hr;have ka:(rs.take I).length=I:=by rw[Sbn];omega
   rcases Nat.lt_trichotomy r I with h|h|h
   ·rw[Rb9 (by omega),Sb0,if_pos h]at hr
    exact .inl ⟨h,hr⟩
   ·subst h
    rw[Rb6 (by omega),ka,Nat.sub_self,List.getElem?_cons_zero]at hr;exact .inr (.inl ⟨rfl,(Sbs hr).symm⟩)
   ·rw[Rb6 (by omega),ka,show r-I=(r-I-1)+1 by omega,List.getElem?_cons_succ,Sby,show I+(r-I-1)=r-1 by omega]at hr
    exact .inr (.inr ⟨h,hr⟩)
  have hIK:I*K<=n*K:=Sbt K hIn;have a1x:((iE cv n K).take (I*K)).length=I*K:=by rw[Sbn,gf];omega
  refine .sl (some ⟨B,o,none⟩) ⟨B,o,none⟩ _ cap K _ (fun r q=>if r<I then cv r q else if r=I then vv 0 q else cv (r-1) q) ?_ D.le (.inl rfl) (fun row hr=>?_) (fun _=>⟨rfl,if_pos rfl,fun k hk=>?_⟩) (fun r row hr q d hq=>?_) (fun r row hr q d hq=>?_)
  ·rw[Rb8,Sbn,Sbm,Sb8];omega
  ·rcases Sbd.1 hr with h|h
   ·exact ef row (Ubh h)
   ·rcases Rb4.1 h with h|h
    ·rw[h];exact pz
    ·exact ef row (Tbn h)
  ·obtain⟨u,hu⟩:=D.all k hk
   rw[lh];refine⟨u,hu,?_⟩;have:=D.fz;unfold fzq at this ⊢;exact this
  ·rw[lh]
   refine D.cell _ _ ?_
   rcases gq r row hr with ⟨h,h1⟩|⟨h,h1⟩|⟨h,h1⟩
   ·rw[if_pos h]
    have oS:q<K:=by rw[<- ef row (Sba h1)];exact (Rbw.1 hq).1
    have h2:=Sbt K (show r+1<=I by omega);rw[Tbd]at h2;rw[Rb3,Rb9 (by omega),Sb0,if_pos (by omega)];exact kZ cv (by omega) oS
   ·subst h h1
    rw[if_neg (by omega),if_pos rfl];have oS:q<K:=by rw[<- pz];exact (Rbw.1 hq).1
    rw[Rb3,Rb6 (by omega),a1x,Nat.add_sub_cancel_left,Rb9 (by omega)];have:=kZ vv (n:=1) (i:=0) (by omega) oS;rwa[Nat.zero_mul,Sbo]at this
   ·rw[if_neg (by omega),if_neg (by omega)]
    have oS:q<K:=by rw[<- ef row (Sba h1)];exact (Rbw.1 hq).1
    have pb:r-1<n:=by rw[<- hn];exact (Rbw.1 h1).1
    have h2:=Sbt K (show I+1<=r by omega);rw[Tbd]at h2;rw[Rb3,Rb6 (by omega),a1x,Rb6 (by omega),a07,Sby]
    have e1:I*K+(r*K+q-I*K-K)=(r-1)*K+q:=by
     rw[Nat.sub_mul];omega
    rw[e1];exact kZ cv pb oS
  ·rcases gq r row hr with ⟨h,h1⟩|⟨h,h1⟩|⟨h,h1⟩
   ·rw[if_pos h]
    have oS:q<K:=by rw[<- ef row (Sba h1)];exact (Rbw.1 hq).1
    have:=(cL r row h1 q d hq).mono' (own':=fun x=>if x=B then .slc 0 [] else Oal K I (G.own x)) (w':=w') (r':=0) (q:=[r*K+q]) (q':=[r*K+q]) ri [] (by simp) (fun x t hx=>⟨(nF hx).1.trans (Ab9 hK oS h),(nF hx).2⟩);simpa using this
   ·subst h h1
    rw[if_neg (by omega),if_pos rfl];have oS:q<K:=by rw[<- pz];exact (Rbw.1 hq).1
    have:=(vw 0 row rfl q d hq).mono' (own':=fun x=>if x=B then .slc 0 [] else Oal K r (G.own x)) (w':=w') (r':=0) (q:=[0*K+q]) (q':=[r*K+q]) ri [] (by simp) (fun x t hx=>⟨(nF hx).1.trans (by rw[Nat.zero_mul,Sbo];rfl),(nF hx).2⟩);simpa using this
   ·rw[if_neg (by omega),if_neg (by omega)]
    have oS:q<K:=by rw[<- ef row (Sba h1)];exact (Rbw.1 hq).1
    have:=(cL _ row h1 q d hq).mono' (own':=fun x=>if x=B then .slc 0 [] else Oal K I (G.own x)) (w':=w') (r':=0) (q:=[(r-1)*K+q]) (q':=[r*K+q]) ri [] (by simp) (fun x t hx=>⟨(nF hx).1.trans (by rw[List.singleton_append,Wat hK oS (by omega),show r-1+1=r by omega];rfl),(nF hx).2⟩);simpa using this
theorem Ebe {f K m key : Nat} {fn : Func} {cd : Code} {T : Nat -> Ent} {ti : Nat -> Option TI} {sigs : List (Nat × Sig)} (hf : P.funcs[f]? = some fn) (hname : (fn.name == "runtime.NumGoroutine") = false) (hb : fn.body = some cd) (hK : 0 < K) (W : Qaf P f K) (hT : T key = .ext (Cbt K)) :
  Uag P T ti sigs key ⟨f,[(false,[.ow (m+1)]),(false,[.sc]),(false,[.ow (m+1)])],[],[(false,[.ow (m+1)])]⟩:=.inr ⟨_,hT,Hbw hf hname hb hK W⟩
end
section
open Go.Proofs Go.Shelf Go.RowKit Go.Lib
variable {P:Program}
theorem Aa9 {w:World}{b o:Nat}{vs:List Value}(h:∀ j,j<vs.length->(w.cell? ⟨b,o+j,none⟩).isSome=true){k:Nat}{u:Value}(hk:vs[k]?=some u):(w.setCells b o vs).cell? ⟨b,o+k,none⟩=some u:=by
 have hl:=(Rbw.1 hk).1;rw[World.cell?_setCells_in b vs o w h k hl];rw[<- hk,Rbz hl]
theorem nR {w:World}{b o k:Nat}{vs:List Value}(h:k<o\/o+vs.length<=k):(w.setCells b o vs).cell? ⟨b,k,none⟩=w.cell? ⟨b,k,none⟩ :=
 World.cell?_setCells_out b vs o w _ fun _ _=>h
theorem zG {w:World}{b o:Nat}{v:Value}(h:w.cell? ⟨b,o,none⟩=some v):∃ t k,w.shape? b=some (t,k)/\k≠0:=by
 unfold World.cell? at h;unfold World.shape?;simp only at h
 cases hb:w.heap[b]? with
 |none=>rw[hb]at h;cases h
 | some o' =>
  rw[hb]at h
  cases o' with
  | cells c e fr =>
   refine⟨e,c.size,rfl,fun hz=>?_⟩;have:c=#[]:=Array.eq_empty_of_size_eq_zero hz;subst this;simp at h
  |_=>simp at h
theorem Ca9 {w:World}(c:Array Value)(t:TypeId)(o:Nat):fzq (w.alloc (.cells c t)) ⟨w.heap.size,o,none⟩=false:=by
 unfold fzq World.alloc;simp
theorem Wao {w w':World}{b o n c i K:Nat}{cs vs:List Value}(hi:i<n)(eK:n+1<=c)(gf:cs.length=n*K)(lP:vs.length=K)(kg:fzq w ⟨b,o,none⟩=false)
  (kO:∀ k u,cs[k]?=some u->w.cell? ⟨b,o+k,none⟩=some u) (cQ:∀ k,k<c*K->∃ u,w.cell? ⟨b,o+k,none⟩=some u)
  (hw:w'=(w.drew.setCells b (o+(i+1)*K) (cs.drop (i*K))).setCells b (o+i*K) vs) :
  Ga3 w w' (some ⟨b,o,none⟩) n c K (cs.take (i*K)++vs++cs.drop (i*K)) b o:=by
 have hIK:(i+1)*K=i*K+K:=Vbf i K;have xp:(n+1)*K<=c*K:=Sbt K eK;have kb:(i+1)*K<=n*K:=Sbt K hi;rw[Vbf]at xp;have rk:(cs.drop (i*K)).length=n*K-i*K:=by rw[Sb8,gf]
 have pa:∀ j,j<(cs.drop (i*K)).length->(w.drew.cell? ⟨b,o+(i+1)*K+j,none⟩).isSome=true:=fun j hj=>by
  obtain⟨u,hu⟩:=cQ ((i+1)*K+j) (by omega);rw[<- Sbf]at hu;show (w.cell? _).isSome=true
  rw[hu];rfl
 have ln:∀ k,k<c*K->∃ u,(w.drew.setCells b (o+(i+1)*K) (cs.drop (i*K))).cell? ⟨b,o+k,none⟩=some u:=fun k hk=>by
  obtain⟨u,hu⟩:=cQ k hk;exact dE (w:=w.drew) (fun _=>rfl) pa hu
 have pP:∀ j,j<vs.length->((w.drew.setCells b (o+(i+1)*K) (cs.drop (i*K))).cell? ⟨b,o+i*K+j,none⟩).isSome=true:=fun j hj=>by
  obtain⟨u,hu⟩:=ln (i*K+j) (by omega);rw[<- Sbf]at hu;rw[hu];rfl
 subst hw;refine⟨eK,.inl ⟨rfl,?_,fun x hx=>?_⟩,fun k u hk=>?_,fun k hk=>?_,?_,?_⟩
 ·rw[setCells_size,setCells_size];rfl
 ·rw[bC _ _ _ _ _ hx,bC _ _ _ _ _ hx];rfl
 ·have ka:(cs.take (i*K)).length=i*K:=by rw[Sbn];omega
  rcases Sbh k (i*K) with h|h
  ·rw[Rb3,Rb9 (by omega),Sb0,if_pos h]at hk
   rw[nR (by omega),nR (by omega)];exact kO k u hk
  ·rcases Sbh k (i*K+K) with h2|h2
   ·rw[Rb3,Rb6 (by omega),ka,Rb9 (by omega)]at hk
    have:=Aa9 pP hk;rwa[show o+i*K+(k-i*K)=o+k by omega]at this
   ·rw[Rb6 (by rw[Rb8];omega),Rb8,ka,lP]at hk
    have:=Aa9 pa hk;rw[nR (by omega)];rwa[show o+(i+1)*K+(k-(i*K+K))=o+k by omega]at this
 ·obtain⟨u,hu⟩:=ln k hk
  exact dE (fun _=>rfl) pP hu
 ·rw[dU,dU];exact kg
 ·have h1:=cB b vs (o+i*K) (w.drew.setCells b (o+(i+1)*K) (cs.drop (i*K)))
  have h2:=cB b (cs.drop (i*K)) (o+(i+1)*K) w.drew;exact⟨h1.1.trans h2.1,h1.2.1.trans h2.2.1,h1.2.2.trans h2.2.2⟩
theorem Ma9 {w w':World}{b o n c K:Nat}{cs vs:List Value}(eK:n+1<=c)(gf:cs.length=n*K)(lP:vs.length=K)(kg:fzq w ⟨b,o,none⟩=false)
  (kO:∀ k u,cs[k]?=some u->w.cell? ⟨b,o+k,none⟩=some u) (cQ:∀ k,k<c*K->∃ u,w.cell? ⟨b,o+k,none⟩=some u)
  (hw:w'=w.setCells b (o+n*K) vs) :
  Ga3 w w' (some ⟨b,o,none⟩) n c K (cs.take (n*K)++vs++cs.drop (n*K)) b o:=by
 have xp:(n+1)*K<=c*K:=Sbt K eK;rw[Vbf]at xp
 have hex:∀ j,j<vs.length->(w.cell? ⟨b,o+n*K+j,none⟩).isSome=true:=fun j hj=>by
  obtain⟨u,hu⟩:=cQ (n*K+j) (by omega);rw[<- Sbf]at hu;rw[hu];rfl
 rw[<- gf,Tbv,Vbj,Sbu];subst hw;refine⟨eK,.inl ⟨rfl,?_,fun x hx=>?_⟩,fun k u hk=>?_,fun k hk=>?_,?_,cB b vs _ w⟩
 ·rw[setCells_size]
 ·rw[bC _ _ _ _ _ hx]
 ·rcases Sbh k (n*K) with h|h
  ·rw[Rb9 (by omega)]at hk
   rw[nR (by omega)];exact kO k u hk
  ·rw[Rb6 (by omega),gf]at hk
   have:=Aa9 hex hk;rwa[show o+n*K+(k-n*K)=o+k by omega]at this
 ·obtain⟨u,hu⟩:=cQ k hk
  exact dE (fun _=>rfl) hex hu
 ·rw[dU];exact kg
theorem Naa {w w':World}{A:Option Addr}{n G K:Nat}{cs vs:List Value}{zs:Array Value}{t:TypeId}(hG:n+1<=G)(gf:cs.length=n*K)(lP:vs.length=K)(hz:zs.size=(G-(n+1))*K)
  (hw:w'=w.drew.alloc (.cells ((cs++vs).toArray++zs) t)) :
  Ga3 w w' A n G K (cs.take (n*K)++vs++cs.drop (n*K)) w.heap.size 0:=by
 have hl:(cs++vs).length=(n+1)*K:=by rw[Rb8,gf,lP,Vbf]
 have hs:((cs++vs).toArray++zs).size=G*K:=by
  rw[Vbl,Ubz,hl,hz,<- Tbd];congr 1;omega
 rw[show cs.take (n*K)++vs++cs.drop (n*K)=cs++vs by rw[<- gf,Tbv,Vbj,Sbu]];subst hw;refine⟨hG,.inr ⟨rfl,?_,fun x hx=>?_⟩,fun k u hk=>?_,fun k hk=>?_,Ca9 (w:=w.drew) _ _ _,rfl,rfl,rfl⟩
 ·show (w.heap.push _).size=_;rw[Array.size_push]
 ·show (w.heap.push _)[x]?=_;rw[Ubu];rw[if_neg (by omega)]
 ·have aw:=(Rbw.1 hk).1
  rw[World.cell?_alloc_at (w:=w.drew) _ _ w.heap.size _ rfl,Sbo,Ubr (by rw[Ubz];exact aw)];simpa using hk
 ·rw[World.cell?_alloc_at (w:=w.drew) _ _ w.heap.size _ rfl,Sbo]
  exact⟨_,Sbv (by omega)⟩
theorem Ab8 {w w':World}{A:Option Addr}{n G i K:Nat}{cs vs:List Value}{z1 z2:Array Value}{t:TypeId}(hi:i<n)(hG:n+1<=G)(gf:cs.length=n*K)(lP:vs.length=K)(h1:z1.size=(n+1-i)*K)(h2:z2.size=(G-(n+1))*K)
  (hw:w'=(((w.alloc (.cells ((cs.take (i*K)).toArray++z1++z2) t)).drew.setCells w.heap.size (i*K) vs).drew).setCells w.heap.size ((i+1)*K) (cs.drop (i*K))) :
  Ga3 w w' A n G K (cs.take (i*K)++vs++cs.drop (i*K)) w.heap.size 0:=by
 have hIK:(i+1)*K=i*K+K:=Vbf i K;have kb:(i+1)*K<=n*K:=Sbt K hi;have hnG:(n+1)*K<=G*K:=Sbt K hG;have hnK:(n+1)*K=n*K+K:=Vbf n K;have zw:(cs.take (i*K)).length=i*K:=by rw[Sbn];omega
 have rk:(cs.drop (i*K)).length=n*K-i*K:=by rw[Sb8,gf]
 have hs:((cs.take (i*K)).toArray++z1++z2).size=G*K:=by
  rw[Vbl,Vbl,Ubz,zw,h1,h2,<- Tbd,<- Tbd];congr 1;omega
 generalize hR:(cs.take (i*K)).toArray++z1++z2=R at *
 have sE:∀ k u,k<i*K->cs[k]?=some u->R[k]?=some u:=fun k u hk h=>by
  rw[<- hR,Array.append_assoc,Ubr (by rw[Ubz,zw];exact hk)];rw[List.getElem?_toArray,Sb0,if_pos hk];exact h
 have vr:∀ k,k<G*K->∃ u,((w.alloc (.cells R t)).drew).cell? ⟨w.heap.size,k,none⟩=some u:=fun k hk=>by
  show ∃ u,(w.alloc (.cells R t)).cell? ⟨w.heap.size,k,none⟩=some u
  rw[World.cell?_alloc_at _ _ _ _ rfl];exact⟨_,Sbv (by omega)⟩
 have pa:∀ j,j<vs.length->(((w.alloc (.cells R t)).drew).cell? ⟨w.heap.size,i*K+j,none⟩).isSome=true:=fun j hj=>by
  obtain⟨u,hu⟩:=vr (i*K+j) (by omega);rw[hu];rfl
 have ln:∀ k,k<G*K->∃ u,(((w.alloc (.cells R t)).drew.setCells w.heap.size (i*K) vs).drew).cell? ⟨w.heap.size,k,none⟩=some u:=fun k hk=>by
  obtain⟨u,hu⟩:=vr k hk;exact dE (w:=(w.alloc (.cells R t)).drew) (fun _=>rfl) pa hu
 have pP:∀ j,j<(cs.drop (i*K)).length->((((w.alloc (.cells R t)).drew.setCells w.heap.size (i*K) vs).drew).cell? ⟨w.heap.size,(i+1)*K+j,none⟩).isSome=true:=fun j hj=>by
  obtain⟨u,hu⟩:=ln ((i+1)*K+j) (by omega);rw[hu];rfl
 subst hw;refine⟨hG,.inr ⟨rfl,?_,fun x hx=>?_⟩,fun k u hk=>?_,fun k hk=>?_,?_,?_⟩
 ·rw[setCells_size]
  show (((w.alloc (.cells R t)).drew.setCells w.heap.size (i*K) vs)).heap.size=_
  rw[setCells_size];show (w.heap.push _).size=_;rw[Array.size_push]
 ·rw[bC _ _ _ _ _ (by omega)]
  show (((w.alloc (.cells R t)).drew.setCells w.heap.size (i*K) vs)).heap[x]?=_
  rw[bC _ _ _ _ _ (by omega)];show (w.heap.push _)[x]?=_;rw[Ubu];rw[if_neg (by omega)]
 ·rw[Sbo]
  rcases Sbh k (i*K) with h|h
  ·rw[Rb3,Rb9 (by omega),Sb0,if_pos h]at hk
   rw[nR (by omega)];show ((w.alloc (.cells R t)).drew.setCells w.heap.size (i*K) vs).cell? _=_
   rw[nR (by omega)];show (w.alloc (.cells R t)).cell? _=_
   rw[World.cell?_alloc_at _ _ _ _ rfl];exact sE k u h hk
  ·rcases Sbh k (i*K+K) with h2|h2
   ·rw[Rb3,Rb6 (by omega),zw,Rb9 (by omega)]at hk
    have:=Aa9 pa hk;rw[nR (by omega)];show ((w.alloc (.cells R t)).drew.setCells w.heap.size (i*K) vs).cell? _=_
    rwa[show i*K+(k-i*K)=k by omega]at this
   ·rw[Rb6 (by rw[Rb8];omega),Rb8,zw,lP]at hk
    have:=Aa9 pP hk;rwa[show (i+1)*K+(k-(i*K+K))=k by omega]at this
 ·rw[Sbo]
  obtain⟨u,hu⟩:=ln k hk;exact dE (fun _=>rfl) pP hu
 ·rw[dU]
  show fzq ((w.alloc (.cells R t)).drew.setCells w.heap.size (i*K) vs) _=false
  rw[dU];exact Ca9 R t 0
 ·have a:=cB w.heap.size (cs.drop (i*K)) ((i+1)*K) (((w.alloc (.cells R t)).drew.setCells w.heap.size (i*K) vs).drew)
  have b:=cB w.heap.size vs (i*K) ((w.alloc (.cells R t)).drew);exact⟨a.1.trans b.1,a.2.1.trans b.2.1,a.2.2.trans b.2.2⟩
end
class Enc (α:Type) where
 sz:Nat
 enc:α->List D
 len:∀ a,(enc a).length=sz
instance:Enc Int:=⟨1,fun n=>[i64 n],fun _=>rfl⟩
instance:Enc Bool:=⟨1,fun b=>[.bool b],fun _=>rfl⟩
instance:Enc (List UInt8):=⟨1,fun s=>[.str s],fun _=>rfl⟩
def rL {α:Type}[Enc α](xs:List α):D:=.rows (Enc.sz α) (xs.map Enc.enc)
instance {α:Type} [Enc α]:Enc (List α):=⟨1,fun xs=>[rL xs],fun _=>rfl⟩
def InB {α:Type}(xs:List α)(k:Int):Prop:=0<=k/\k<xs.length
def atI {α:Type}[Inhabited α](xs:List α)(k:Int):α:=xs.getD k.toNat default
def dI {α:Type}(xs:List α)(k:Int)(a:α):List α:=xs.set k.toNat a
theorem aU {α:Type}{xs:List α}{i:Nat}:InB xs (i:Int)↔i<xs.length:=by unfold InB;omega
theorem vL {α:Type}[Inhabited α]{xs:List α}{i:Nat}:atI xs (i:Int)=xs.getD i default:=rfl
theorem bH {α:Type}[Inhabited α]{xs:List α}{i:Nat}(h:i<xs.length):atI xs (i:Int)=xs[i]:=by
 rw[vL,Rb5,Rbz h];rfl
theorem InB.lt {α:Type}{xs:List α}{k:Int}(h:InB xs k):k.toNat<xs.length:=by unfold InB at h;omega
def tick:Nat:=0
def Pbi:Nat:=0
def iI {γ:Type}(c:Bool)(a b:γ):γ:=match c with
 |true=>a
 |false=>b
theorem Tav {γ:Type}{a b:γ}:iI true a b=a:=rfl
theorem Pay {γ:Type}{a b:γ}:iI false a b=b:=rfl
@[congr] theorem Ebr {γ:Type} {c c':Bool} {a b:γ} (h:c=c') {dd:Nat} (hd:tick=dd):iI c a b=iI c' a b:=by rw[h]
theorem aD {γ:Type}{c:Bool}{a b r:γ}(h1:c=true->a=r)(h2:c=false->b=r):iI c a b=r:=by
 cases c with
 |true=>exact h1 rfl
 |false=>exact h2 rfl
section
variable {T:Nat->Ent} {β:Type}
@[congr] theorem Lbk {t:Tm β} {ρ gx:List D} (h:ρ=gx) {dd:Nat} (hd:tick=dd):Er T t ρ=Er T t gx:=by rw[h]
@[congr] theorem Dbl {k:Tm β} {ρ gx:List D} {n:Nat} {a a':Option (List D)} (h:ρ=gx) (h2:a=a') {dd:Nat} (hd:tick=dd):stepT T k ρ n a=stepT T k gx n a':=by rw[h,h2]
@[congr] theorem Dbe {i:Nat} {k:Tm β} {ρ gx:List D} {r r':Option (Kind×List D)} (h:ρ=gx) (h2:r=r') {dd:Nat} (hd:tick=dd):mE T i k ρ r=mE T i k gx r':=by rw[h,h2]
@[congr] theorem Hbf {p:aN} {xs xs':List D} (h:xs=xs') {dd:Nat} (hd:tick=dd):p.run xs=p.run xs':=by rw[h]
def nth:List D->Nat->D
 |[],_=>.undef
 |a::_,0=>a
 |_::r,n+1=>nth r n
theorem Lby {a:D}{r:List D}:nth (a::r) 0=a:=rfl
theorem Lbx {a:D}{r:List D}{n:Nat}:nth (a::r) (n+1)=nth r n:=rfl
theorem Rai (r:List D)(n:Nat):r.getD n .undef=nth r n:=by
 induction r generalizing n with
 |nil=>rfl
 | cons a r ih => cases n with
  |zero=>rfl
  |succ n=>exact ih n
def vals (ρ:List D):List aJ->List D
 |[]=>[]
 |.v i::r=>nth ρ i::vals ρ r
 |.c d::r=>d::vals ρ r
@[congr] theorem Fbk {ρ gx:List D} {xs:List aJ} (h:ρ=gx) {dd:Nat} (hd:tick=dd):vals ρ xs=vals gx xs:=by rw[h]
theorem vR (ρ:List D)(xs:List aJ):xs.map (·.val ρ)=vals ρ xs:=by
 induction xs with
 |nil=>rfl
 | cons x xs ih =>
  rw[Sbk,ih]
  cases x with
  |v i=>show ρ.getD i .undef::_=_;rw[Rai];rfl
  |c d=>rfl
theorem Fbt {ρ:List D}:vals ρ []=[]:=rfl
theorem Fbs {ρ:List D}{i:Nat}{r:List aJ}:vals ρ (.v i::r)=nth ρ i::vals ρ r:=rfl
theorem Fbu {ρ:List D}{d:D}{r:List aJ}:vals ρ (.c d::r)=d::vals ρ r:=rfl
def Sae (ρ:List D):aJ->D
 |.v i=>nth ρ i
 |.c d=>d
theorem Fbv {ρ:List D}{i:Nat}:Sae ρ (.v i)=nth ρ i:=rfl
theorem Fbw {ρ:List D}{d:D}:Sae ρ (.c d)=d:=rfl
theorem Jag (ρ:List D)(a:aJ):a.val ρ=Sae ρ a:=by
 cases a with
 |v i=>exact Rai ρ i
 |c d=>rfl
@[congr] theorem Fbl {ρ gx:List D} {a:aJ} (h:ρ=gx) {dd:Nat} (hd:tick=dd):Sae ρ a=Sae gx a:=by rw[h]
theorem Fbg (k:Kind)(xs:List aJ)(e:β)(ρ:List D):Er T (.leaf k xs e) ρ=some (k,vals ρ xs):=by rw[Fbe,vR]
theorem Mbi (p:aN)(xs:List aJ)(n:Nat)(k:Tm β)(ρ:List D):Er T (.lt none p xs n k) ρ=stepT T k ρ n (p.run (vals ρ xs)):=by rw[Ibn,vR]
theorem Fbh (f:Nat)(xs:List aJ)(n:Nat)(os:List aJ)(k:Tm β)(ρ:List D):Er T (.call none f xs n os k) ρ=stepT T k ρ n (Fun T f (vals ρ xs)):=by rw[Cbf,vR]
def yF (w:Bool)(a b:Option (Kind×List D))(c:D):Option (Kind×List D):=if gdR c w=true then a else b
@[congr] theorem Ebo {w:Bool} {a b:Option (Kind×List D)} {c c':D} (h:c=c') {dd:Nat} (hd:tick=dd):yF w a b c=yF w a b c':=by rw[h]
theorem Ebm {a b:Option (Kind×List D)}{c:Bool}:yF true a b (.bool c)=iI c a b:=by cases c<;>rfl
theorem Ebn {a b:Option (Kind×List D)}{c:Bool}:yF false a b (.bool c)=iI c b a:=by cases c<;>rfl
theorem Ebl {w:Bool}{a b:Option (Kind×List D)}:yF w a b .undef=b:=by simp[yF,gdR]
theorem Ibp (a:aJ)(w:Bool)(p:aN)(xs:List aJ)(n:Nat)(k:Tm β)(ρ:List D) :
  Er T (.lt (some (a,w)) p xs n k) ρ=yF w (stepT T k ρ n (p.run (vals ρ xs))) (Er T k (ρ++Sbi n .undef)) (Sae ρ a):=by
 rw[Ibm,ltT,yF,vR,Jag]
theorem Cbg (a:aJ)(w:Bool)(f:Nat)(xs:List aJ)(n:Nat)(os:List aJ)(k:Tm β)(ρ:List D) :
  Er T (.call (some (a,w)) f xs n os k) ρ=yF w (stepT T k ρ n (Fun T f (vals ρ xs))) (Er T k (ρ++(Sbi (n-os.length) .undef++vals ρ os))) (Sae ρ a):=by
 rw[Cbe,Eb0,yF,vR,vR,Jag]
def Oas {γ:Type}(a b:Option γ)(c:D):Option γ:=Pbe c a b
@[congr] theorem Dbf {γ:Type} {a b:Option γ} {c c':D} (h:c=c') {dd:Nat} (hd:tick=dd):Oas a b c=Oas a b c':=by rw[h]
theorem Dbg {γ:Type}{a b:Option γ}{c:Bool}:Oas a b (.bool c)=iI c a b:=by cases c<;>rfl
theorem Ibq (c:aJ)(t e:Tm β)(ρ:List D):Er T (.ite c t e) ρ=Oas (Er T t ρ) (Er T e ρ) (Sae ρ c):=by rw[Ibo,Lb1,Oas,Jag]
theorem Fbi (i:Nat)(t k:Tm β)(ρ:List D):Er T (.bind i t k) ρ=mE T i k ρ (Er T t ρ):=Fbf i t k ρ
theorem Sai {i:Nat}{k:Tm β}{ρ:List D}{c:Bool}{a b:Option (Kind×List D)}:mE T i k ρ (iI c a b)=iI c (mE T i k ρ a) (mE T i k ρ b):=by cases c<;>rfl
theorem Oar {i j:Nat}{k:Tm β}{ρ ds:List D}:mE T i k ρ (some (.yield j,ds))=if j=i then Er T k (ρ++ds) else some (.yield j,ds):=by
 by_cases h:j=i
 ·subst h;rw[Sah,if_pos rfl]
 ·rw[Za3 h,if_neg h]
noncomputable def fin (o:Option (Kind×List D)):Option (List D):=o.bind Ob8
theorem Bbd {c:Bool}{a b:Option (Kind×List D)}:fin (iI c a b)=iI c (fin a) (fin b):=by cases c<;>rfl
theorem Ebs {ds:List D}:fin (some (.ret,ds))=some ds:=rfl
theorem aQ {f:Nat}{t:Tm Unit}(h:T f=.tm t)(args:List D):Fun T f args=fin (Er T t args):=Mbh h args
theorem Mbb {ρ:List D}:ρ++[]=ρ:=Sbu ρ
theorem Mbc {a:D}{r s:List D}:(a::r)++s=a::(r++s):=rfl
theorem Mbd {s:List D}:[]++s=s:=rfl
theorem Dbk {k:Tm β}{ρ ds:List D}{n:Nat}:stepT T k ρ n (some ds)=if ds.length=n then Er T k (ρ++ds) else none:=rfl
end
section
variable {α:Type} [Enc α]
theorem Hbj {xs:List α}:aN.len.run [rL xs]=some [i64 xs.length]:=by simp[rL,aN.run]
theorem Hbk {xs:List α}{k:Int}(h:InB xs k):aN.inb.run [rL xs,i64 k]=some []:=by
 unfold InB at h;simp only[rL,aN.run,Sbr];rw[if_pos ⟨h.1,h.2⟩]
def rowOf (off:Nat)(ks:List Bool)(r:List D):Option (List D):=if off+ks.length<=r.length/\Ba0 ks (r.drop off)=true then some ((r.drop off).take ks.length) else none
theorem bO [Inhabited α]{xs:List α}{k:Int}{sz off:Nat}{ks:List Bool}(hs:Enc.sz α=sz)(h:InB xs k):(aN.row sz off ks).run [rL xs,i64 k]=rowOf off ks (Enc.enc (atI xs k)):=by
 have h2:=h.lt;unfold InB at h;subst hs
 have e:xs[k.toNat]?=some (atI xs k):=by
  rw[Rbz h2,atI,Rb5,Rbz h2];rfl
 simp only[rL,aN.run,Sbx,e,Sb9];simp only[true_and];rw[if_pos h.1];rfl
theorem bQ [Inhabited α]{xs:List α}{k:Int}{sz off n:Nat}{vs:List D}{a:α}(hs:Enc.sz α=sz)(hl:vs.length=n)(ho:off+n<=sz)(ha:Enc.enc a=(Enc.enc (atI xs k)).take off++vs++(Enc.enc (atI xs k)).drop (off+n))(h:InB xs k) :
  (aN.set sz off n).run (rL xs::i64 k::vs)=some [rL (dI xs k a)]:=by
 have h2:=h.lt;unfold InB at h;subst hs
 have e:xs[k.toNat]?=some (atI xs k):=by
  rw[Rbz h2,atI,Rb5,Rbz h2];rfl
 simp only[rL,aN.run,Sbx,e,Sb9];simp only[true_and];rw[if_pos h.1,if_pos ⟨by rw[Enc.len];exact ho,hl⟩,<- ha,dI,List.map_set]
theorem Ja2 {b:Nat}{n:Int}{zero:List D}{a:α}(ha:Enc.enc a=zero)(h:0<=n)(h2:n.toNat*b<=gB):(aN.make b zero).run [i64 n]=some [rL (Sbi n.toNat a)]:=by
 simp only[aN.run];rw[if_pos ⟨h,h2⟩,rL,List.map_replicate,ha,<- Enc.len a,ha]
theorem Vam {sz:Nat}{vs:List D}{a:α}(hs:Enc.sz α=sz)(ha:Enc.enc a=vs):(aN.mk sz 1).run vs=some [rL [a]]:=by
 subst hs;subst ha
 have:=Enc.len a;simp[rL,aN.run,chunk,this,List.take_of_length_le (Nat.le_of_eq this)]
theorem Ca0 {sz b:Nat}{fl:Bool}{xs ys:List α}(hs:Enc.sz α=sz)(hf:fl=true->∀ a:α,(Enc.enc a).all D.isSc=true)(h:(xs.length+ys.length)*b<=gB):(aN.app sz b fl).run [rL xs,rL ys]=some [rL (xs++ys)]:=by
 subst hs
 have cQ:(!fl||(xs.map Enc.enc++ys.map Enc.enc).all fun r=>r.all D.isSc)=true:=by
  cases fl with
  |false=>rfl
  | true =>
   rw[Sb3,Tby,<- Ubg,List.all_map,Sbp];exact fun a _=>hf rfl a
 simp only[rL,aN.run,Sbr];rw[if_pos ⟨trivial,trivial,cQ,h⟩,<- Ubg]
theorem xY {sz b:Nat}{fl:Bool}{ys:List α}(hs:Enc.sz α=sz)(hf:fl=true->∀ a:α,(Enc.enc a).all D.isSc=true)(h:ys.length*b<=gB):(aN.app sz b fl).run [.rows sz [],rL ys]=some [rL ys]:=by
 have:=Ca0 (xs:=[]) (ys:=ys) (b:=b) hs hf (by simpa using h);subst hs;exact this
theorem Ial {sz:Nat}{fl:Bool}{xs:List α}{lo hi:Int}(hs:Enc.sz α=sz)(hf:fl=true->∀ a:α,(Enc.enc a).all D.isSc=true)(h0:0<=lo)(h1:lo<=hi)(h2:hi<=xs.length):(aN.sub sz fl).run [rL xs,i64 lo,i64 hi]=some [rL ((xs.take hi.toNat).drop lo.toNat)]:=by
 subst hs
 have cQ:(!fl||(xs.map Enc.enc).all fun r=>r.all D.isSc)=true:=by
  cases fl with
  |false=>rfl
  | true =>
   rw[Sb3,Tby,List.all_map,Sbp];exact fun a _=>hf rfl a
 simp only[rL,aN.run,Sbr];rw[if_pos ⟨trivial,cQ,h0,h1,h2⟩,<- List.map_take,<- List.map_drop]
theorem Hbl {xs:List α}:aN.emp.run [rL xs]=some [.bool xs.isEmpty]:=by simp[rL,aN.run]
theorem Lbu {x:α}{xs:List α}:aN.ne.run [rL (x::xs)]=some []:=by simp[rL,aN.run]
class Fits (α:Type) [Enc α] (m:Nat):Prop where
 fits:∀ a:α,(Enc.enc a).all (nO m)=true
theorem Hbm {m:Nat}[Fits α m]{xs:List α}:(aN.dep (m+1)).run [rL xs]=some []:=by
 have:nO (m+1) (rL xs)=true:=by
  unfold rL;simp only[nO,List.all_map,Sbp];intro a _;exact Fits.fits a
 simp only[aN.run,this,if_true]
end
instance {m:Nat}:Fits Int m:=⟨fun a=>by cases m<;>rfl⟩
instance {m:Nat}:Fits Bool m:=⟨fun a=>by cases m<;>rfl⟩
instance {m:Nat}:Fits (List UInt8) m:=⟨fun a=>by cases m<;>rfl⟩
theorem uZ {α:Type}[Enc α]{m:Nat}[Fits α m](xs:List α):nO (m+1) (rL xs)=true:=by
 unfold rL;simp only[nO,List.all_map,Sbp];intro a _;exact Fits.fits a
instance {α:Type} [Enc α] {m:Nat} [Fits α m]:Fits (List α) (m+1):=⟨fun xs=>by
 show [rL xs].all (nO (m+1))=true
 simp[uZ]⟩
theorem Abf {a b:Int}:aN.min.run [i64 a,i64 b]=some [i64 (min a b)]:=by
 simp only[aN.run,Kaq,Hbo,if_true,Rb1,Sb9];congr 3;by_cases h:b<a
 ·rw[if_pos (by simpa using h)];omega
 ·rw[if_neg (by simpa using h)];omega
theorem Abh {a b:Int}:aN.max.run [i64 a,i64 b]=some [i64 (max a b)]:=by
 simp only[aN.run,Kaq,Hbo,if_true,Rb1,Sb9];congr 3;by_cases h:b>a
 ·rw[if_pos (by simpa using h)];omega
 ·rw[if_neg (by simpa using h)];omega
theorem Sak {a b:Int}(ha:-9223372036854775808<=a)(ha':a<=9223372036854775807)(hb:0<b):-9223372036854775808<=a.tdiv b/\a.tdiv b<=9223372036854775807:=by
 rcases Int.le_total 0 a with h|h
 ·have h1:=Int.tdiv_nonneg h (Int.le_of_lt hb)
  have h2:=Int.tdiv_le_self b h;omega
 ·have h1:(-a).tdiv b=-(a.tdiv b):=Int.neg_tdiv ..
  have h2:=Int.tdiv_nonneg (show 0<=-a by omega) (Int.le_of_lt hb);have h3:=Int.tdiv_le_self b (show 0<=-a by omega);omega
theorem Abe {a b:Int}(ha:0<=a)(ha':a<=9223372036854775807)(hb:0<b):(aN.bin .quo).run [i64 a,i64 b]=some [i64 (a / b)]:=by
 have h:=Sak (by omega) ha' hb;have eJ:¬ b=0:=by omega
 rw[<- Int.tdiv_eq_ediv_of_nonneg ha];simp only[aN.run,Oac,Aal,if_true,if_neg eJ,Sb9,wrap_i64 h.1 h.2]
theorem Abd {a b:Int}(ha:0<=a)(hb:0<b):(aN.bin .rem).run [i64 a,i64 b]=some [i64 (a % b)]:=by
 have eJ:¬ b=0:=by omega
 simp only[aN.run,Oac,Aal,if_true,if_neg eJ,Sb9,Int.tmod_eq_emod_of_nonneg ha]
theorem Nav:∀ xs ys:List Int,xs.length=ys.length->Oam (Sbi xs.length 0) (xs.map i64) (ys.map i64)=some (decide (xs=ys))
 |[],[],_=>rfl
 | x :: xs, y :: ys, h => by
  have ih:=Nav xs ys (by simpa using h);simp only[Sbm,List.replicate_succ,Sbk,Oam,eqD,if_true,Rb1,ih,List.cons.injEq,Bool.decide_and];by_cases e:x=y
  ·simp[e]
  ·simp[e]
theorem Bbh {p:Prop}[Decidable p](xs ys:List Int)(h:xs.length=ys.length)(hp:p↔xs=ys):(Oam (Sbi xs.length 0) (xs.map i64) (ys.map i64)).map (fun b=>[D.bool b])=some [.bool (decide p)]:=by
 rw[Nav xs ys h,Sb9,decide_eq_decide.2 hp]
theorem Hb8 (i:Nat):((i+1:Nat):Int)=(i:Int)+1:=rfl
theorem SA:(∀ {T β} (k:Kind) (xs:List aJ) (e:β) (ρ:List D),Er T (.leaf k xs e) ρ=some (k,vals ρ xs)) /\
  (∀ {T} {β:Type} (p:aN) (xs:List aJ) (n:Nat) (k:Tm β) (ρ:List D),Er T (.lt none p xs n k) ρ=stepT T k ρ n (p.run (vals ρ xs))) /\
  (∀ {T} {β:Type} (f:Nat) (xs:List aJ) (n:Nat) (os:List aJ) (k:Tm β) (ρ:List D),Er T (.call none f xs n os k) ρ=stepT T k ρ n (Fun T f (vals ρ xs))) /\
  (∀ {T} {β:Type} (c:aJ) (t e:Tm β) (ρ:List D),Er T (.ite c t e) ρ=Oas (Er T t ρ) (Er T e ρ) (Sae ρ c)) /\
  (∀ {T} {β:Type} (i:Nat) (t k:Tm β) (ρ:List D),Er T (.bind i t k) ρ=mE T i k ρ (Er T t ρ)) /\
  (∀ {T} {β:Type} (a:aJ) (w:Bool) (p:aN) (xs:List aJ) (n:Nat) (k:Tm β) (ρ:List D),
   Er T (.lt (some (a,w)) p xs n k) ρ=yF w (stepT T k ρ n (p.run (vals ρ xs))) (Er T k (ρ++Sbi n .undef)) (Sae ρ a)) /\
  (∀ {T} {β:Type} (a:aJ) (w:Bool) (f:Nat) (xs:List aJ) (n:Nat) (os:List aJ) (k:Tm β) (ρ:List D),
   Er T (.call (some (a,w)) f xs n os k) ρ=yF w (stepT T k ρ n (Fun T f (vals ρ xs))) (Er T k (ρ++(Sbi (n-os.length) .undef++vals ρ os))) (Sae ρ a)) :=
 ⟨Fbg,Mbi,Fbh,Ibq,Fbi,Ibp,Cbg⟩
theorem SB:(tick=Pbi)/\(∀ {γ:Type} {c:Bool} {a b:γ},iI (!c) a b=iI c b a)/\(∀ {a b:Option (Kind×List D)} {c:Bool},yF true a b (.bool c)=iI c a b)/\(∀ {a b:Option (Kind×List D)} {c:Bool},yF false a b (.bool c)=iI c b a) /\
  (∀ {w:Bool} {a b:Option (Kind×List D)},yF w a b .undef=b)/\(∀ {γ:Type} {a b:Option γ} {c:Bool},Oas a b (.bool c)=iI c a b) /\
  (∀ {T} {β:Type} {i:Nat} {k:Tm β} {ρ:List D} {c:Bool} {a b:Option (Kind×List D)},mE T i k ρ (iI c a b)=iI c (mE T i k ρ a) (mE T i k ρ b)) /\
  (∀ {T} {β:Type} {i j:Nat} {k:Tm β} {ρ ds:List D},mE T i k ρ (some (.yield j,ds))=if j=i then Er T k (ρ++ds) else some (.yield j,ds)) /\
  (∀ {T} {β:Type} {i:Nat} {k:Tm β} {ρ ds:List D},mE T i k ρ (some (.ret,ds))=some (.ret,ds))/\(∀ {T} {β:Type} {i:Nat} {k:Tm β} {ρ ds:List D},mE T i k ρ (some (.cont,ds))=some (.cont,ds)) /\
  (∀ {c:Bool} {a b:Option (Kind×List D)},fin (iI c a b)=iI c (fin a) (fin b))/\(∀ {ds:List D},fin (some (.ret,ds))=some ds) /\
  (∀ {γ:Type} {a b:γ},iI true a b=a)/\(∀ {γ:Type} {a b:γ},iI false a b=b) :=
 ⟨rfl,by intro γ c a b;cases c<;>rfl,Ebm,Ebn,Ebl,Dbg,Sai,Oar,Uat,Saj,Bbd,Ebs,Tav,Pay⟩
theorem SC:(∀ {a:D} {r:List D},nth (a::r) 0=a)/\(∀ {a:D} {r:List D} {n:Nat},nth (a::r) (n+1)=nth r n) /\
  (∀ {ρ:List D},vals ρ []=[])/\(∀ {ρ:List D} {i:Nat} {r:List aJ},vals ρ (.v i::r)=nth ρ i::vals ρ r)/\(∀ {ρ:List D} {d:D} {r:List aJ},vals ρ (.c d::r)=d::vals ρ r) /\
  (∀ {ρ:List D} {i:Nat},Sae ρ (.v i)=nth ρ i)/\(∀ {ρ:List D} {d:D},Sae ρ (.c d)=d) /\
  (∀ {ρ:List D},ρ++[]=ρ)/\(∀ {a:D} {r s:List D},(a::r)++s=a::(r++s))/\(∀ {s:List D},[]++s=s) /\
  (∀ {T} {β:Type} {k:Tm β} {ρ ds:List D} {n:Nat},stepT T k ρ n (some ds)=if ds.length=n then Er T k (ρ++ds) else none) /\
  (∀ {α:Type} {a:α} {l:List α},(a::l).length=l.length+1)/\(∀ {α:Type},([]:List α).length=0)/\(∀ {α:Type} {x:α} {n:Nat},Sbi (n+1) x=x::Sbi n x)/\(∀ {α:Type} {x:α},Sbi 0 x=[]) :=
 ⟨Lby,Lbx,Fbt,Fbs,Fbu,Fbv,Fbw,Mbb,Mbc,Mbd,Dbk,Sbm,List.length_nil,List.replicate_succ,List.replicate_zero⟩
theorem SP:(∀ {a b:Int},(aN.bin .lss).run [i64 a,i64 b]=some [.bool (decide (a<b))])/\(∀ {a b:Int},(aN.bin .gtr).run [i64 a,i64 b]=some [.bool (decide (b<a))]) /\
  (∀ {a b:Int},(aN.bin .leq).run [i64 a,i64 b]=some [.bool (decide (a<=b))])/\(∀ {a b:Int},(aN.bin .geq).run [i64 a,i64 b]=some [.bool (decide (b<=a))]) /\
  (∀ {a b:Int},(aN.bin .neq).run [i64 a,i64 b]=some [.bool (!(a==b))])/\(∀ {a b:Int},(aN.bin .eql).run [i64 a,i64 b]=some [.bool (a==b)]) /\
  (∀ {b:Bool},aN.not.run [.bool b]=some [.bool (!b)])/\(∀ {c:Bool} {a b:D},aN.pick.run [.bool c,a,b]=some [iI c a b])/\(∀ {a b:Bool},(aN.eqb true).run [.bool a,.bool b]=some [.bool (!(a==b))])/\(∀ {a b:Bool},(aN.eqb false).run [.bool a,.bool b]=some [.bool (a==b)]) /\
  (∀ {d:D},aN.id.run [d]=some [d])/\(∀ {α:Type} [Enc α] {xs:List α},aN.len.run [rL xs]=some [i64 xs.length]) /\
  (∀ {α:Type} [Enc α] {xs:List α} {k:Int},InB xs k->aN.inb.run [rL xs,i64 k]=some []) /\
  (∀ {a b:Int},aN.min.run [i64 a,i64 b]=some [i64 (min a b)])/\(∀ {a b:Int},aN.max.run [i64 a,i64 b]=some [i64 (max a b)]) /\
  (∀ {α:Type} [Enc α] {m:Nat} [Fits α m] {xs:List α},(aN.dep (m+1)).run [rL xs]=some []) :=
 ⟨Dbr,Dbt,Dbs,Dbu,Dbq,Dbv,Dbp,by intro c a b;cases c<;>rfl,Dbw,rfl,Hbe,Hbj,Hbk,Abf,Abh,Hbm⟩
set_option maxRecDepth 4000
structure kP where
 kind:Int
 id:Int
 src:Int
 dst:Int
 amt:Int
 deriving DecidableEq
instance:Inhabited kP:=⟨⟨0,0,0,0,0⟩⟩
instance:Enc kP:=⟨5,fun x=>[i64 x.kind,i64 x.id,i64 x.src,i64 x.dst,i64 x.amt],fun _=>rfl⟩
instance {m:Nat}:Fits kP m:=⟨fun x=>by cases m<;>rfl⟩
structure cZ where
 seq:Int
 deps:(List Int)
 deriving DecidableEq
instance:Inhabited cZ:=⟨⟨0,[]⟩⟩
instance:Enc cZ:=⟨2,fun x=>[i64 x.seq,rL x.deps],fun _=>rfl⟩
theorem Xal (x:cZ):Enc.enc x=[i64 x.seq,rL x.deps]:=rfl
instance {m:Nat}:Fits cZ (m+1):=⟨fun x=>by
 rw[Xal];simp only[Ub0,Vbn,Ubm,Rbu];refine⟨?_,?_⟩
 all_goals first|rfl|exact uZ _⟩
structure bD where
 ballot:Int
 vote:Int
 state:Int
 cmd:kP
 attr:cZ
 deriving DecidableEq
instance:Inhabited bD:=⟨⟨0,0,0,default,default⟩⟩
instance:Enc bD:=⟨10,fun x=>[i64 x.ballot,i64 x.vote,i64 x.state,i64 x.cmd.kind,i64 x.cmd.id,i64 x.cmd.src,i64 x.cmd.dst,i64 x.cmd.amt,i64 x.attr.seq,rL x.attr.deps],fun _=>rfl⟩
theorem Bbl (x:bD):Enc.enc x=[i64 x.ballot,i64 x.vote,i64 x.state,i64 x.cmd.kind,i64 x.cmd.id,i64 x.cmd.src,i64 x.cmd.dst,i64 x.cmd.amt,i64 x.attr.seq,rL x.attr.deps]:=rfl
instance {m:Nat}:Fits bD (m+1):=⟨fun x=>by
 rw[Bbl];simp only[Ub0,Vbn,Ubm,Rbu];refine⟨?_,?_,?_,?_,?_,?_,?_,?_,?_,?_⟩
 all_goals first|rfl|exact uZ _⟩
structure aT where
 n:Int
 rows:(List (List bD))
 deriving DecidableEq
instance:Inhabited aT:=⟨⟨0,[]⟩⟩
instance:Enc aT:=⟨2,fun x=>[i64 x.n,rL x.rows],fun _=>rfl⟩
theorem Ta3 (x:aT):Enc.enc x=[i64 x.n,rL x.rows]:=rfl
instance {m:Nat}:Fits aT (m+3):=⟨fun x=>by
 rw[Ta3];simp only[Ub0,Vbn,Ubm,Rbu];refine⟨?_,?_⟩
 all_goals first|rfl|exact uZ _⟩
structure aR where
 rep:Int
 no:Int
 ballot:Int
 phase:Int
 cmd:kP
 first:cZ
 attr:cZ
 same:Bool
 who:(List Int)
 seen:(List bD)
 deriving DecidableEq
instance:Inhabited aR:=⟨⟨0,0,0,0,default,default,default,false,[],[]⟩⟩
instance:Enc aR:=⟨16,fun x=>[i64 x.rep,i64 x.no,i64 x.ballot,i64 x.phase,i64 x.cmd.kind,i64 x.cmd.id,i64 x.cmd.src,i64 x.cmd.dst,i64 x.cmd.amt,i64 x.first.seq,rL x.first.deps,i64 x.attr.seq,rL x.attr.deps,.bool x.same,rL x.who,rL x.seen],fun _=>rfl⟩
theorem Xak (x:aR):Enc.enc x=[i64 x.rep,i64 x.no,i64 x.ballot,i64 x.phase,i64 x.cmd.kind,i64 x.cmd.id,i64 x.cmd.src,i64 x.cmd.dst,i64 x.cmd.amt,i64 x.first.seq,rL x.first.deps,i64 x.attr.seq,rL x.attr.deps,.bool x.same,rL x.who,rL x.seen]:=rfl
instance {m:Nat}:Fits aR (m+2):=⟨fun x=>by
 rw[Xak];simp only[Ub0,Vbn,Ubm,Rbu];refine⟨?_,?_,?_,?_,?_,?_,?_,?_,?_,?_,?_,?_,?_,?_,?_,?_⟩
 all_goals first|rfl|exact uZ _⟩
structure yN where
 me:Int
 table:aT
 leads:(List aR)
 deriving DecidableEq
instance:Inhabited yN:=⟨⟨0,default,[]⟩⟩
instance:Enc yN:=⟨4,fun x=>[i64 x.me,i64 x.table.n,rL x.table.rows,rL x.leads],fun _=>rfl⟩
theorem Bbm (x:yN):Enc.enc x=[i64 x.me,i64 x.table.n,rL x.table.rows,rL x.leads]:=rfl
instance {m:Nat}:Fits yN (m+3):=⟨fun x=>by
 rw[Bbm];simp only[Ub0,Vbn,Ubm,Rbu];refine⟨?_,?_,?_,?_⟩
 all_goals first|rfl|exact uZ _⟩
structure iB where
 kind:Int
 src:Int
 dst:Int
 rep:Int
 no:Int
 ballot:Int
 vote:Int
 state:Int
 cmd:kP
 attr:cZ
 deriving DecidableEq
instance:Inhabited iB:=⟨⟨0,0,0,0,0,0,0,0,default,default⟩⟩
instance:Enc iB:=⟨15,fun x=>[i64 x.kind,i64 x.src,i64 x.dst,i64 x.rep,i64 x.no,i64 x.ballot,i64 x.vote,i64 x.state,i64 x.cmd.kind,i64 x.cmd.id,i64 x.cmd.src,i64 x.cmd.dst,i64 x.cmd.amt,i64 x.attr.seq,rL x.attr.deps],fun _=>rfl⟩
theorem Bbo (x:iB):Enc.enc x=[i64 x.kind,i64 x.src,i64 x.dst,i64 x.rep,i64 x.no,i64 x.ballot,i64 x.vote,i64 x.state,i64 x.cmd.kind,i64 x.cmd.id,i64 x.cmd.src,i64 x.cmd.dst,i64 x.cmd.amt,i64 x.attr.seq,rL x.attr.deps]:=rfl
instance {m:Nat}:Fits iB (m+1):=⟨fun x=>by
 rw[Bbo];simp only[Ub0,Vbn,Ubm,Rbu];refine⟨?_,?_,?_,?_,?_,?_,?_,?_,?_,?_,?_,?_,?_,?_,?_⟩
 all_goals first|rfl|exact uZ _⟩
structure Jaa where
 rep:Int
 no:Int
 cmd:kP
 deriving DecidableEq
instance:Inhabited Jaa:=⟨⟨0,0,default⟩⟩
instance:Enc Jaa:=⟨7,fun x=>[i64 x.rep,i64 x.no,i64 x.cmd.kind,i64 x.cmd.id,i64 x.cmd.src,i64 x.cmd.dst,i64 x.cmd.amt],fun _=>rfl⟩
instance {m:Nat}:Fits Jaa m:=⟨fun x=>by cases m<;>rfl⟩
structure Qae where
 reps:(List yN)
 bag:(List iB)
 asked:(List Jaa)
 deriving DecidableEq
instance:Inhabited Qae:=⟨⟨[],[],[]⟩⟩
instance:Enc Qae:=⟨3,fun x=>[rL x.reps,rL x.bag,rL x.asked],fun _=>rfl⟩
theorem Bbn (x:Qae):Enc.enc x=[rL x.reps,rL x.bag,rL x.asked]:=rfl
instance {m:Nat}:Fits Qae (m+4):=⟨fun x=>by
 rw[Bbn];simp only[Ub0,Vbn,Ubm,Rbu];refine⟨?_,?_,?_⟩
 all_goals first|rfl|exact uZ _⟩
theorem Ibb:(∀ x:kP,kP.mk x.kind x.id x.src x.dst x.amt=x) /\
  (∀ x:cZ,cZ.mk x.seq x.deps=x) /\
  (∀ x:bD,bD.mk x.ballot x.vote x.state x.cmd x.attr=x) /\
  (∀ x:aT,aT.mk x.n x.rows=x) /\
  (∀ x:aR,aR.mk x.rep x.no x.ballot x.phase x.cmd x.first x.attr x.same x.who x.seen=x) /\
  (∀ x:yN,yN.mk x.me x.table x.leads=x) /\
  (∀ x:iB,iB.mk x.kind x.src x.dst x.rep x.no x.ballot x.vote x.state x.cmd x.attr=x) /\
  (∀ x:Jaa,Jaa.mk x.rep x.no x.cmd=x) /\
  (∀ x:Qae,Qae.mk x.reps x.bag x.asked=x) :=
 ⟨fun _=>rfl,
  fun _=>rfl,
  fun _=>rfl,
  fun _=>rfl,
  fun _=>rfl,
  fun _=>rfl,
  fun _=>rfl,
  fun _=>rfl,
  fun _=>rfl⟩
theorem aW:(∀ {xs:List Int} {k:Int},InB xs k->(aN.row 1 0 [true]).run [rL xs,i64 k]=some [i64 (atI xs k)]) /\
  (∀ {xs:List (List UInt8)} {k:Int},InB xs k->(aN.row 1 0 [true]).run [rL xs,i64 k]=some [.str (atI xs k)]) /\
  (∀ {xs:List (List Int)} {k:Int},InB xs k->(aN.row 1 0 [false]).run [rL xs,i64 k]=some [rL (atI xs k)]) /\
  (∀ {xs:List (List bD)} {k:Int},InB xs k->(aN.row 1 0 [false]).run [rL xs,i64 k]=some [rL (atI xs k)]) /\
  (∀ {xs:List (List (List Int))} {k:Int},InB xs k->(aN.row 1 0 [false]).run [rL xs,i64 k]=some [rL (atI xs k)]) /\
  (∀ {xs:List bD} {k:Int},InB xs k->(aN.row 10 0 [true,true,true,true,true,true,true,true,true,false]).run [rL xs,i64 k]=some [i64 (atI xs k).ballot,i64 (atI xs k).vote,i64 (atI xs k).state,i64 (atI xs k).cmd.kind,i64 (atI xs k).cmd.id,i64 (atI xs k).cmd.src,i64 (atI xs k).cmd.dst,i64 (atI xs k).cmd.amt,i64 (atI xs k).attr.seq,rL (atI xs k).attr.deps]) /\
  (∀ {xs:List bD} {k:Int},InB xs k->(aN.row 10 0 [true]).run [rL xs,i64 k]=some [i64 (atI xs k).ballot]) /\
  (∀ {xs:List bD} {k:Int},InB xs k->(aN.row 10 1 [true]).run [rL xs,i64 k]=some [i64 (atI xs k).vote]) /\
  (∀ {xs:List bD} {k:Int},InB xs k->(aN.row 10 2 [true]).run [rL xs,i64 k]=some [i64 (atI xs k).state]) /\
  (∀ {xs:List bD} {k:Int},InB xs k->(aN.row 10 3 [true]).run [rL xs,i64 k]=some [i64 (atI xs k).cmd.kind]) /\
  (∀ {xs:List bD} {k:Int},InB xs k->(aN.row 10 4 [true]).run [rL xs,i64 k]=some [i64 (atI xs k).cmd.id]) /\
  (∀ {xs:List bD} {k:Int},InB xs k->(aN.row 10 5 [true]).run [rL xs,i64 k]=some [i64 (atI xs k).cmd.src]) /\
  (∀ {xs:List bD} {k:Int},InB xs k->(aN.row 10 6 [true]).run [rL xs,i64 k]=some [i64 (atI xs k).cmd.dst]) /\
  (∀ {xs:List bD} {k:Int},InB xs k->(aN.row 10 7 [true]).run [rL xs,i64 k]=some [i64 (atI xs k).cmd.amt]) /\
  (∀ {xs:List bD} {k:Int},InB xs k->(aN.row 10 8 [true]).run [rL xs,i64 k]=some [i64 (atI xs k).attr.seq]) /\
  (∀ {xs:List bD} {k:Int},InB xs k->(aN.row 10 9 [false]).run [rL xs,i64 k]=some [rL (atI xs k).attr.deps]) /\
  (∀ {xs:List aR} {k:Int},InB xs k->(aN.row 16 0 [true,true,true,true,true,true,true,true,true,true,false,true,false,true,false,false]).run [rL xs,i64 k]=some [i64 (atI xs k).rep,i64 (atI xs k).no,i64 (atI xs k).ballot,i64 (atI xs k).phase,i64 (atI xs k).cmd.kind,i64 (atI xs k).cmd.id,i64 (atI xs k).cmd.src,i64 (atI xs k).cmd.dst,i64 (atI xs k).cmd.amt,i64 (atI xs k).first.seq,rL (atI xs k).first.deps,i64 (atI xs k).attr.seq,rL (atI xs k).attr.deps,.bool (atI xs k).same,rL (atI xs k).who,rL (atI xs k).seen]) /\
  (∀ {xs:List aR} {k:Int},InB xs k->(aN.row 16 0 [true]).run [rL xs,i64 k]=some [i64 (atI xs k).rep]) /\
  (∀ {xs:List aR} {k:Int},InB xs k->(aN.row 16 1 [true]).run [rL xs,i64 k]=some [i64 (atI xs k).no]) /\
  (∀ {xs:List aR} {k:Int},InB xs k->(aN.row 16 10 [false]).run [rL xs,i64 k]=some [rL (atI xs k).first.deps]) /\
  (∀ {xs:List aR} {k:Int},InB xs k->(aN.row 16 11 [true]).run [rL xs,i64 k]=some [i64 (atI xs k).attr.seq]) /\
  (∀ {xs:List aR} {k:Int},InB xs k->(aN.row 16 12 [false]).run [rL xs,i64 k]=some [rL (atI xs k).attr.deps]) /\
  (∀ {xs:List aR} {k:Int},InB xs k->(aN.row 16 13 [true]).run [rL xs,i64 k]=some [.bool (atI xs k).same]) /\
  (∀ {xs:List aR} {k:Int},InB xs k->(aN.row 16 14 [false]).run [rL xs,i64 k]=some [rL (atI xs k).who]) /\
  (∀ {xs:List aR} {k:Int},InB xs k->(aN.row 16 15 [false]).run [rL xs,i64 k]=some [rL (atI xs k).seen]) /\
  (∀ {xs:List aR} {k:Int},InB xs k->(aN.row 16 2 [true]).run [rL xs,i64 k]=some [i64 (atI xs k).ballot]) /\
  (∀ {xs:List aR} {k:Int},InB xs k->(aN.row 16 3 [true]).run [rL xs,i64 k]=some [i64 (atI xs k).phase]) /\
  (∀ {xs:List aR} {k:Int},InB xs k->(aN.row 16 4 [true]).run [rL xs,i64 k]=some [i64 (atI xs k).cmd.kind]) /\
  (∀ {xs:List aR} {k:Int},InB xs k->(aN.row 16 5 [true]).run [rL xs,i64 k]=some [i64 (atI xs k).cmd.id]) /\
  (∀ {xs:List aR} {k:Int},InB xs k->(aN.row 16 6 [true]).run [rL xs,i64 k]=some [i64 (atI xs k).cmd.src]) /\
  (∀ {xs:List aR} {k:Int},InB xs k->(aN.row 16 7 [true]).run [rL xs,i64 k]=some [i64 (atI xs k).cmd.dst]) /\
  (∀ {xs:List aR} {k:Int},InB xs k->(aN.row 16 8 [true]).run [rL xs,i64 k]=some [i64 (atI xs k).cmd.amt]) /\
  (∀ {xs:List aR} {k:Int},InB xs k->(aN.row 16 9 [true]).run [rL xs,i64 k]=some [i64 (atI xs k).first.seq]) /\
  (∀ {xs:List iB} {k:Int},InB xs k->(aN.row 15 0 [true,true,true,true,true,true,true,true,true,true,true,true,true,true,false]).run [rL xs,i64 k]=some [i64 (atI xs k).kind,i64 (atI xs k).src,i64 (atI xs k).dst,i64 (atI xs k).rep,i64 (atI xs k).no,i64 (atI xs k).ballot,i64 (atI xs k).vote,i64 (atI xs k).state,i64 (atI xs k).cmd.kind,i64 (atI xs k).cmd.id,i64 (atI xs k).cmd.src,i64 (atI xs k).cmd.dst,i64 (atI xs k).cmd.amt,i64 (atI xs k).attr.seq,rL (atI xs k).attr.deps]) /\
  (∀ {xs:List iB} {k:Int},InB xs k->(aN.row 15 0 [true]).run [rL xs,i64 k]=some [i64 (atI xs k).kind]) /\
  (∀ {xs:List iB} {k:Int},InB xs k->(aN.row 15 1 [true]).run [rL xs,i64 k]=some [i64 (atI xs k).src]) /\
  (∀ {xs:List iB} {k:Int},InB xs k->(aN.row 15 10 [true]).run [rL xs,i64 k]=some [i64 (atI xs k).cmd.src]) /\
  (∀ {xs:List iB} {k:Int},InB xs k->(aN.row 15 11 [true]).run [rL xs,i64 k]=some [i64 (atI xs k).cmd.dst]) /\
  (∀ {xs:List iB} {k:Int},InB xs k->(aN.row 15 12 [true]).run [rL xs,i64 k]=some [i64 (atI xs k).cmd.amt]) /\
  (∀ {xs:List iB} {k:Int},InB xs k->(aN.row 15 13 [true]).run [rL xs,i64 k]=some [i64 (atI xs k).attr.seq]) /\
  (∀ {xs:List iB} {k:Int},InB xs k->(aN.row 15 14 [false]).run [rL xs,i64 k]=some [rL (atI xs k).attr.deps]) /\
  (∀ {xs:List iB} {k:Int},InB xs k->(aN.row 15 2 [true]).run [rL xs,i64 k]=some [i64 (atI xs k).dst]) /\
  (∀ {xs:List iB} {k:Int},InB xs k->(aN.row 15 3 [true]).run [rL xs,i64 k]=some [i64 (atI xs k).rep]) /\
  (∀ {xs:List iB} {k:Int},InB xs k->(aN.row 15 4 [true]).run [rL xs,i64 k]=some [i64 (atI xs k).no]) /\
  (∀ {xs:List iB} {k:Int},InB xs k->(aN.row 15 5 [true]).run [rL xs,i64 k]=some [i64 (atI xs k).ballot]) /\
  (∀ {xs:List iB} {k:Int},InB xs k->(aN.row 15 6 [true]).run [rL xs,i64 k]=some [i64 (atI xs k).vote]) /\
  (∀ {xs:List iB} {k:Int},InB xs k->(aN.row 15 7 [true]).run [rL xs,i64 k]=some [i64 (atI xs k).state]) /\
  (∀ {xs:List iB} {k:Int},InB xs k->(aN.row 15 8 [true]).run [rL xs,i64 k]=some [i64 (atI xs k).cmd.kind]) /\
  (∀ {xs:List iB} {k:Int},InB xs k->(aN.row 15 9 [true]).run [rL xs,i64 k]=some [i64 (atI xs k).cmd.id]) :=
 ⟨fun h=>(bO rfl h),
  fun h=>(bO rfl h),
  fun h=>(bO rfl h),
  fun h=>(bO rfl h),
  fun h=>(bO rfl h),
  fun h=>(bO rfl h),
  fun h=>(bO rfl h),
  fun h=>(bO rfl h),
  fun h=>(bO rfl h),
  fun h=>(bO rfl h),
  fun h=>(bO rfl h),
  fun h=>(bO rfl h),
  fun h=>(bO rfl h),
  fun h=>(bO rfl h),
  fun h=>(bO rfl h),
  fun h=>(bO rfl h),
  fun h=>(bO rfl h),
  fun h=>(bO rfl h),
  fun h=>(bO rfl h),
  fun h=>(bO rfl h),
  fun h=>(bO rfl h),
  fun h=>(bO rfl h),
  fun h=>(bO rfl h),
  fun h=>(bO rfl h),
  fun h=>(bO rfl h),
  fun h=>(bO rfl h),
  fun h=>(bO rfl h),
  fun h=>(bO rfl h),
  fun h=>(bO rfl h),
  fun h=>(bO rfl h),
  fun h=>(bO rfl h),
  fun h=>(bO rfl h),
  fun h=>(bO rfl h),
  fun h=>(bO rfl h),
  fun h=>(bO rfl h),
  fun h=>(bO rfl h),
  fun h=>(bO rfl h),
  fun h=>(bO rfl h),
  fun h=>(bO rfl h),
  fun h=>(bO rfl h),
  fun h=>(bO rfl h),
  fun h=>(bO rfl h),
  fun h=>(bO rfl h),
  fun h=>(bO rfl h),
  fun h=>(bO rfl h),
  fun h=>(bO rfl h),
  fun h=>(bO rfl h),
  fun h=>(bO rfl h),
  fun h=>(bO rfl h)⟩
theorem qI:(∀ {xs:List Int} {k:Int} {v:Int},InB xs k->(aN.set 1 0 1).run [rL xs,i64 k,i64 v]=some [rL (dI xs k v)]) /\
  (∀ {xs:List (List UInt8)} {k:Int} {v:(List UInt8)},InB xs k->(aN.set 1 0 1).run [rL xs,i64 k,.str v]=some [rL (dI xs k v)]) /\
  (∀ {xs:List (List Int)} {k:Int} {v:(List Int)},InB xs k->(aN.set 1 0 1).run [rL xs,i64 k,rL v]=some [rL (dI xs k v)]) /\
  (∀ {xs:List (List bD)} {k:Int} {v:(List bD)},InB xs k->(aN.set 1 0 1).run [rL xs,i64 k,rL v]=some [rL (dI xs k v)]) /\
  (∀ {xs:List (List (List Int))} {k:Int} {v:(List (List Int))},InB xs k->(aN.set 1 0 1).run [rL xs,i64 k,rL v]=some [rL (dI xs k v)]) /\
  (∀ {xs:List bD} {k:Int} {v:Int},InB xs k->(aN.set 10 0 1).run [rL xs,i64 k,i64 v]=some [rL (dI xs k { (atI xs k) with ballot:=v })]) /\
  (∀ {xs:List bD} {k:Int} {eo jr im cP ej dj df dh cN:Int} {cF:(List Int)},InB xs k->(aN.set 10 0 10).run [rL xs,i64 k,i64 eo,i64 jr,i64 im,i64 cP,i64 ej,i64 dj,i64 df,i64 dh,i64 cN,rL cF]=some [rL (dI xs k ⟨eo,jr,im,⟨cP,ej,dj,df,dh⟩,⟨cN,cF⟩⟩)]) /\
  (∀ {xs:List bD} {k:Int} {v:Int},InB xs k->(aN.set 10 1 1).run [rL xs,i64 k,i64 v]=some [rL (dI xs k { (atI xs k) with vote:=v })]) /\
  (∀ {xs:List bD} {k:Int} {v:Int},InB xs k->(aN.set 10 2 1).run [rL xs,i64 k,i64 v]=some [rL (dI xs k { (atI xs k) with state:=v })]) /\
  (∀ {xs:List bD} {k:Int} {v:Int},InB xs k->(aN.set 10 3 1).run [rL xs,i64 k,i64 v]=some [rL (dI xs k { (atI xs k) with cmd:={ (atI xs k).cmd with kind:=v } })]) /\
  (∀ {xs:List bD} {k:Int} {v:Int},InB xs k->(aN.set 10 4 1).run [rL xs,i64 k,i64 v]=some [rL (dI xs k { (atI xs k) with cmd:={ (atI xs k).cmd with id:=v } })]) /\
  (∀ {xs:List bD} {k:Int} {v:Int},InB xs k->(aN.set 10 5 1).run [rL xs,i64 k,i64 v]=some [rL (dI xs k { (atI xs k) with cmd:={ (atI xs k).cmd with src:=v } })]) /\
  (∀ {xs:List bD} {k:Int} {v:Int},InB xs k->(aN.set 10 6 1).run [rL xs,i64 k,i64 v]=some [rL (dI xs k { (atI xs k) with cmd:={ (atI xs k).cmd with dst:=v } })]) /\
  (∀ {xs:List bD} {k:Int} {v:Int},InB xs k->(aN.set 10 7 1).run [rL xs,i64 k,i64 v]=some [rL (dI xs k { (atI xs k) with cmd:={ (atI xs k).cmd with amt:=v } })]) /\
  (∀ {xs:List bD} {k:Int} {v:Int},InB xs k->(aN.set 10 8 1).run [rL xs,i64 k,i64 v]=some [rL (dI xs k { (atI xs k) with attr:={ (atI xs k).attr with seq:=v } })]) /\
  (∀ {xs:List bD} {k:Int} {v:(List Int)},InB xs k->(aN.set 10 9 1).run [rL xs,i64 k,rL v]=some [rL (dI xs k { (atI xs k) with attr:={ (atI xs k).attr with deps:=v } })]) /\
  (∀ {xs:List aR} {k:Int} {v:Int},InB xs k->(aN.set 16 0 1).run [rL xs,i64 k,i64 v]=some [rL (dI xs k { (atI xs k) with rep:=v })]) /\
  (∀ {xs:List aR} {k:Int} {lq oX eo kx cP ej dj df dh gg:Int} {fL:(List Int)} {cN:Int} {cF:(List Int)} {my:Bool} {ov:(List Int)} {mj:(List bD)},InB xs k->(aN.set 16 0 16).run [rL xs,i64 k,i64 lq,i64 oX,i64 eo,i64 kx,i64 cP,i64 ej,i64 dj,i64 df,i64 dh,i64 gg,rL fL,i64 cN,rL cF,.bool my,rL ov,rL mj]=some [rL (dI xs k ⟨lq,oX,eo,kx,⟨cP,ej,dj,df,dh⟩,⟨gg,fL⟩,⟨cN,cF⟩,my,ov,mj⟩)]) /\
  (∀ {xs:List aR} {k:Int} {v:Int},InB xs k->(aN.set 16 1 1).run [rL xs,i64 k,i64 v]=some [rL (dI xs k { (atI xs k) with no:=v })]) /\
  (∀ {xs:List aR} {k:Int} {v:(List Int)},InB xs k->(aN.set 16 10 1).run [rL xs,i64 k,rL v]=some [rL (dI xs k { (atI xs k) with first:={ (atI xs k).first with deps:=v } })]) /\
  (∀ {xs:List aR} {k:Int} {v:Int},InB xs k->(aN.set 16 11 1).run [rL xs,i64 k,i64 v]=some [rL (dI xs k { (atI xs k) with attr:={ (atI xs k).attr with seq:=v } })]) /\
  (∀ {xs:List aR} {k:Int} {v:(List Int)},InB xs k->(aN.set 16 12 1).run [rL xs,i64 k,rL v]=some [rL (dI xs k { (atI xs k) with attr:={ (atI xs k).attr with deps:=v } })]) /\
  (∀ {xs:List aR} {k:Int} {v:Bool},InB xs k->(aN.set 16 13 1).run [rL xs,i64 k,.bool v]=some [rL (dI xs k { (atI xs k) with same:=v })]) /\
  (∀ {xs:List aR} {k:Int} {v:(List Int)},InB xs k->(aN.set 16 14 1).run [rL xs,i64 k,rL v]=some [rL (dI xs k { (atI xs k) with who:=v })]) /\
  (∀ {xs:List aR} {k:Int} {v:(List bD)},InB xs k->(aN.set 16 15 1).run [rL xs,i64 k,rL v]=some [rL (dI xs k { (atI xs k) with seen:=v })]) /\
  (∀ {xs:List aR} {k:Int} {v:Int},InB xs k->(aN.set 16 2 1).run [rL xs,i64 k,i64 v]=some [rL (dI xs k { (atI xs k) with ballot:=v })]) /\
  (∀ {xs:List aR} {k:Int} {v:Int},InB xs k->(aN.set 16 3 1).run [rL xs,i64 k,i64 v]=some [rL (dI xs k { (atI xs k) with phase:=v })]) /\
  (∀ {xs:List aR} {k:Int} {v:Int},InB xs k->(aN.set 16 4 1).run [rL xs,i64 k,i64 v]=some [rL (dI xs k { (atI xs k) with cmd:={ (atI xs k).cmd with kind:=v } })]) /\
  (∀ {xs:List aR} {k:Int} {v:Int},InB xs k->(aN.set 16 5 1).run [rL xs,i64 k,i64 v]=some [rL (dI xs k { (atI xs k) with cmd:={ (atI xs k).cmd with id:=v } })]) /\
  (∀ {xs:List aR} {k:Int} {v:Int},InB xs k->(aN.set 16 6 1).run [rL xs,i64 k,i64 v]=some [rL (dI xs k { (atI xs k) with cmd:={ (atI xs k).cmd with src:=v } })]) /\
  (∀ {xs:List aR} {k:Int} {v:Int},InB xs k->(aN.set 16 7 1).run [rL xs,i64 k,i64 v]=some [rL (dI xs k { (atI xs k) with cmd:={ (atI xs k).cmd with dst:=v } })]) /\
  (∀ {xs:List aR} {k:Int} {v:Int},InB xs k->(aN.set 16 8 1).run [rL xs,i64 k,i64 v]=some [rL (dI xs k { (atI xs k) with cmd:={ (atI xs k).cmd with amt:=v } })]) /\
  (∀ {xs:List aR} {k:Int} {v:Int},InB xs k->(aN.set 16 9 1).run [rL xs,i64 k,i64 v]=some [rL (dI xs k { (atI xs k) with first:={ (atI xs k).first with seq:=v } })]) /\
  (∀ {xs:List iB} {k:Int} {v:Int},InB xs k->(aN.set 15 0 1).run [rL xs,i64 k,i64 v]=some [rL (dI xs k { (atI xs k) with kind:=v })]) /\
  (∀ {xs:List iB} {k:Int} {v:Int},InB xs k->(aN.set 15 1 1).run [rL xs,i64 k,i64 v]=some [rL (dI xs k { (atI xs k) with src:=v })]) /\
  (∀ {xs:List iB} {k:Int} {v:Int},InB xs k->(aN.set 15 10 1).run [rL xs,i64 k,i64 v]=some [rL (dI xs k { (atI xs k) with cmd:={ (atI xs k).cmd with src:=v } })]) /\
  (∀ {xs:List iB} {k:Int} {v:Int},InB xs k->(aN.set 15 11 1).run [rL xs,i64 k,i64 v]=some [rL (dI xs k { (atI xs k) with cmd:={ (atI xs k).cmd with dst:=v } })]) /\
  (∀ {xs:List iB} {k:Int} {v:Int},InB xs k->(aN.set 15 12 1).run [rL xs,i64 k,i64 v]=some [rL (dI xs k { (atI xs k) with cmd:={ (atI xs k).cmd with amt:=v } })]) /\
  (∀ {xs:List iB} {k:Int} {v:Int},InB xs k->(aN.set 15 13 1).run [rL xs,i64 k,i64 v]=some [rL (dI xs k { (atI xs k) with attr:={ (atI xs k).attr with seq:=v } })]) /\
  (∀ {xs:List iB} {k:Int} {v:(List Int)},InB xs k->(aN.set 15 14 1).run [rL xs,i64 k,rL v]=some [rL (dI xs k { (atI xs k) with attr:={ (atI xs k).attr with deps:=v } })]) /\
  (∀ {xs:List iB} {k:Int} {v:Int},InB xs k->(aN.set 15 2 1).run [rL xs,i64 k,i64 v]=some [rL (dI xs k { (atI xs k) with dst:=v })]) /\
  (∀ {xs:List iB} {k:Int} {v:Int},InB xs k->(aN.set 15 3 1).run [rL xs,i64 k,i64 v]=some [rL (dI xs k { (atI xs k) with rep:=v })]) /\
  (∀ {xs:List iB} {k:Int} {v:Int},InB xs k->(aN.set 15 4 1).run [rL xs,i64 k,i64 v]=some [rL (dI xs k { (atI xs k) with no:=v })]) /\
  (∀ {xs:List iB} {k:Int} {v:Int},InB xs k->(aN.set 15 5 1).run [rL xs,i64 k,i64 v]=some [rL (dI xs k { (atI xs k) with ballot:=v })]) /\
  (∀ {xs:List iB} {k:Int} {v:Int},InB xs k->(aN.set 15 6 1).run [rL xs,i64 k,i64 v]=some [rL (dI xs k { (atI xs k) with vote:=v })]) /\
  (∀ {xs:List iB} {k:Int} {v:Int},InB xs k->(aN.set 15 7 1).run [rL xs,i64 k,i64 v]=some [rL (dI xs k { (atI xs k) with state:=v })]) /\
  (∀ {xs:List iB} {k:Int} {v:Int},InB xs k->(aN.set 15 8 1).run [rL xs,i64 k,i64 v]=some [rL (dI xs k { (atI xs k) with cmd:={ (atI xs k).cmd with kind:=v } })]) /\
  (∀ {xs:List iB} {k:Int} {v:Int},InB xs k->(aN.set 15 9 1).run [rL xs,i64 k,i64 v]=some [rL (dI xs k { (atI xs k) with cmd:={ (atI xs k).cmd with id:=v } })]) :=
 ⟨fun h=>(bQ rfl rfl (by decide) rfl h),
  fun h=>(bQ rfl rfl (by decide) rfl h),
  fun h=>(bQ rfl rfl (by decide) rfl h),
  fun h=>(bQ rfl rfl (by decide) rfl h),
  fun h=>(bQ rfl rfl (by decide) rfl h),
  fun h=>(bQ rfl rfl (by decide) rfl h),
  fun h=>(bQ rfl rfl (by decide) rfl h),
  fun h=>(bQ rfl rfl (by decide) rfl h),
  fun h=>(bQ rfl rfl (by decide) rfl h),
  fun h=>(bQ rfl rfl (by decide) rfl h),
  fun h=>(bQ rfl rfl (by decide) rfl h),
  fun h=>(bQ rfl rfl (by decide) rfl h),
  fun h=>(bQ rfl rfl (by decide) rfl h),
  fun h=>(bQ rfl rfl (by decide) rfl h),
  fun h=>(bQ rfl rfl (by decide) rfl h),
  fun h=>(bQ rfl rfl (by decide) rfl h),
  fun h=>(bQ rfl rfl (by decide) rfl h),
  fun h=>(bQ rfl rfl (by decide) rfl h),
  fun h=>(bQ rfl rfl (by decide) rfl h),
  fun h=>(bQ rfl rfl (by decide) rfl h),
  fun h=>(bQ rfl rfl (by decide) rfl h),
  fun h=>(bQ rfl rfl (by decide) rfl h),
  fun h=>(bQ rfl rfl (by decide) rfl h),
  fun h=>(bQ rfl rfl (by decide) rfl h),
  fun h=>(bQ rfl rfl (by decide) rfl h),
  fun h=>(bQ rfl rfl (by decide) rfl h),
  fun h=>(bQ rfl rfl (by decide) rfl h),
  fun h=>(bQ rfl rfl (by decide) rfl h),
  fun h=>(bQ rfl rfl (by decide) rfl h),
  fun h=>(bQ rfl rfl (by decide) rfl h),
  fun h=>(bQ rfl rfl (by decide) rfl h),
  fun h=>(bQ rfl rfl (by decide) rfl h),
  fun h=>(bQ rfl rfl (by decide) rfl h),
  fun h=>(bQ rfl rfl (by decide) rfl h),
  fun h=>(bQ rfl rfl (by decide) rfl h),
  fun h=>(bQ rfl rfl (by decide) rfl h),
  fun h=>(bQ rfl rfl (by decide) rfl h),
  fun h=>(bQ rfl rfl (by decide) rfl h),
  fun h=>(bQ rfl rfl (by decide) rfl h),
  fun h=>(bQ rfl rfl (by decide) rfl h),
  fun h=>(bQ rfl rfl (by decide) rfl h),
  fun h=>(bQ rfl rfl (by decide) rfl h),
  fun h=>(bQ rfl rfl (by decide) rfl h),
  fun h=>(bQ rfl rfl (by decide) rfl h),
  fun h=>(bQ rfl rfl (by decide) rfl h),
  fun h=>(bQ rfl rfl (by decide) rfl h),
  fun h=>(bQ rfl rfl (by decide) rfl h),
  fun h=>(bQ rfl rfl (by decide) rfl h)⟩
theorem Daz:(∀ {v0:Int},(aN.mk 1 1).run [i64 v0]=some [rL [v0]]) /\
  (∀ {v0 v1:Int},(aN.mk 1 2).run [i64 v0,i64 v1]=some [rL [v0,v1]]) /\
  aN.ne.run []=none /\
  aN.ne.run []=none /\
  aN.ne.run []=none /\
  aN.ne.run []=none /\
  aN.ne.run []=none /\
  aN.ne.run []=none /\
  (∀ {v0:(List UInt8)},(aN.mk 1 1).run [.str v0]=some [rL [v0]]) /\
  (∀ {v0 v1:(List UInt8)},(aN.mk 1 2).run [.str v0,.str v1]=some [rL [v0,v1]]) /\
  aN.ne.run []=none /\
  aN.ne.run []=none /\
  aN.ne.run []=none /\
  aN.ne.run []=none /\
  aN.ne.run []=none /\
  aN.ne.run []=none /\
  (∀ {v0:(List Int)},(aN.mk 1 1).run [rL v0]=some [rL [v0]]) /\
  (∀ {v0:(List bD)},(aN.mk 1 1).run [rL v0]=some [rL [v0]]) /\
  (∀ {v0:(List (List Int))},(aN.mk 1 1).run [rL v0]=some [rL [v0]]) /\
  aN.ne.run []=none /\
  (∀ {eo jr im cP ej dj df dh cN:Int} {cF:(List Int)},(aN.mk 10 1).run [i64 eo,i64 jr,i64 im,i64 cP,i64 ej,i64 dj,i64 df,i64 dh,i64 cN,rL cF]=some [rL [(⟨eo,jr,im,⟨cP,ej,dj,df,dh⟩,⟨cN,cF⟩⟩:bD)]]) /\
  aN.ne.run []=none /\
  (∀ {lq oX eo kx cP ej dj df dh gg:Int} {fL:(List Int)} {cN:Int} {cF:(List Int)} {my:Bool} {ov:(List Int)} {mj:(List bD)},(aN.mk 16 1).run [i64 lq,i64 oX,i64 eo,i64 kx,i64 cP,i64 ej,i64 dj,i64 df,i64 dh,i64 gg,rL fL,i64 cN,rL cF,.bool my,rL ov,rL mj]=some [rL [(⟨lq,oX,eo,kx,⟨cP,ej,dj,df,dh⟩,⟨gg,fL⟩,⟨cN,cF⟩,my,ov,mj⟩:aR)]]) /\
  aN.ne.run []=none /\
  (∀ {sg wc xa lq oX eo jr im cP ej dj df dh cN:Int} {cF:(List Int)},(aN.mk 15 1).run [i64 sg,i64 wc,i64 xa,i64 lq,i64 oX,i64 eo,i64 jr,i64 im,i64 cP,i64 ej,i64 dj,i64 df,i64 dh,i64 cN,rL cF]=some [rL [(⟨sg,wc,xa,lq,oX,eo,jr,im,⟨cP,ej,dj,df,dh⟩,⟨cN,cF⟩⟩:iB)]]) /\
  aN.ne.run []=none :=
 ⟨rfl,
  rfl,
  rfl,
  rfl,
  rfl,
  rfl,
  rfl,
  rfl,
  rfl,
  rfl,
  rfl,
  rfl,
  rfl,
  rfl,
  rfl,
  rfl,
  rfl,
  rfl,
  rfl,
  rfl,
  (Vam rfl rfl),
  rfl,
  (Vam rfl rfl),
  rfl,
  (Vam rfl rfl),
  rfl⟩
theorem Dap:(∀ {n:Int},0<=n->n<=100000000000->(aN.make 8 [(.int .i64 0)]).run [i64 n]=some [rL (Sbi n.toNat (0:Int))]) /\
  aN.ne.run []=none /\
  aN.ne.run []=none /\
  (∀ {n:Int},0<=n->n<=100000000000->(aN.make 24 [(.rows 10 [])]).run [i64 n]=some [rL (Sbi n.toNat ([]:(List bD)))]) /\
  aN.ne.run []=none /\
  aN.ne.run []=none /\
  (∀ {n:Int},0<=n->n<=100000000000->(aN.make 96 [(.int .i64 0),(.int .i64 0),(.int .i64 0),(.int .i64 0),(.int .i64 0),(.int .i64 0),(.int .i64 0),(.int .i64 0),(.int .i64 0),(.rows 1 [])]).run [i64 n]=some [rL (Sbi n.toNat (default:bD))]) /\
  aN.ne.run []=none /\
  (∀ {n:Int},0<=n->n<=100000000000->(aN.make 192 [(.int .i64 0),(.int .i64 0),(.int .i64 0),(.int .i64 0),(.int .i64 0),(.int .i64 0),(.int .i64 0),(.int .i64 0),(.int .i64 0),(.int .i64 0),(.rows 1 []),(.int .i64 0),(.rows 1 []),(.bool false),(.rows 1 []),(.rows 10 [])]).run [i64 n]=some [rL (Sbi n.toNat (default:aR))]) /\
  aN.ne.run []=none :=
 ⟨fun h h2=>(Ja2 rfl h (by unfold gB;omega)),
  rfl,
  rfl,
  fun h h2=>(Ja2 rfl h (by unfold gB;omega)),
  rfl,
  rfl,
  fun h h2=>(Ja2 rfl h (by unfold gB;omega)),
  rfl,
  fun h h2=>(Ja2 rfl h (by unfold gB;omega)),
  rfl⟩
theorem nV:(∀ {xs ys:List Int},xs.length+ys.length<=100000000000->(aN.app 1 8 true).run [rL xs,rL ys]=some [rL (xs++ys)]) /\
  (∀ {ys:List Int},ys.length<=100000000000->(aN.app 1 8 true).run [.rows 1 [],rL ys]=some [rL ys]) /\
  (∀ {xs ys:List (List Int)},xs.length+ys.length<=100000000000->(aN.app 1 24 false).run [rL xs,rL ys]=some [rL (xs++ys)]) /\
  (∀ {ys:List (List Int)},ys.length<=100000000000->(aN.app 1 24 false).run [.rows 1 [],rL ys]=some [rL ys]) /\
  (∀ {xs ys:List (List bD)},xs.length+ys.length<=100000000000->(aN.app 1 24 false).run [rL xs,rL ys]=some [rL (xs++ys)]) /\
  (∀ {ys:List (List bD)},ys.length<=100000000000->(aN.app 1 24 false).run [.rows 1 [],rL ys]=some [rL ys]) /\
  (∀ {xs ys:List (List (List Int))},xs.length+ys.length<=100000000000->(aN.app 1 24 false).run [rL xs,rL ys]=some [rL (xs++ys)]) /\
  (∀ {ys:List (List (List Int))},ys.length<=100000000000->(aN.app 1 24 false).run [.rows 1 [],rL ys]=some [rL ys]) /\
  (∀ {xs ys:List bD},xs.length+ys.length<=100000000000->(aN.app 10 96 false).run [rL xs,rL ys]=some [rL (xs++ys)]) /\
  (∀ {ys:List bD},ys.length<=100000000000->(aN.app 10 96 false).run [.rows 10 [],rL ys]=some [rL ys]) /\
  (∀ {xs ys:List aR},xs.length+ys.length<=100000000000->(aN.app 16 192 false).run [rL xs,rL ys]=some [rL (xs++ys)]) /\
  (∀ {ys:List aR},ys.length<=100000000000->(aN.app 16 192 false).run [.rows 16 [],rL ys]=some [rL ys]) /\
  (∀ {xs ys:List iB},xs.length+ys.length<=100000000000->(aN.app 15 136 false).run [rL xs,rL ys]=some [rL (xs++ys)]) /\
  (∀ {ys:List iB},ys.length<=100000000000->(aN.app 15 136 false).run [.rows 15 [],rL ys]=some [rL ys]) :=
 ⟨fun h=>(Ca0 rfl (fun _ _=>rfl) (by unfold gB;omega)),
  fun h=>(xY rfl (fun _ _=>rfl) (by unfold gB;omega)),
  fun h=>(Ca0 rfl (fun h=>by cases h) (by unfold gB;omega)),
  fun h=>(xY rfl (fun h=>by cases h) (by unfold gB;omega)),
  fun h=>(Ca0 rfl (fun h=>by cases h) (by unfold gB;omega)),
  fun h=>(xY rfl (fun h=>by cases h) (by unfold gB;omega)),
  fun h=>(Ca0 rfl (fun h=>by cases h) (by unfold gB;omega)),
  fun h=>(xY rfl (fun h=>by cases h) (by unfold gB;omega)),
  fun h=>(Ca0 rfl (fun h=>by cases h) (by unfold gB;omega)),
  fun h=>(xY rfl (fun h=>by cases h) (by unfold gB;omega)),
  fun h=>(Ca0 rfl (fun h=>by cases h) (by unfold gB;omega)),
  fun h=>(xY rfl (fun h=>by cases h) (by unfold gB;omega)),
  fun h=>(Ca0 rfl (fun h=>by cases h) (by unfold gB;omega)),
  fun h=>(xY rfl (fun h=>by cases h) (by unfold gB;omega))⟩
theorem Yaj:aN.ne.run []=none /\
  (∀ {xs:List Int} {lo hi:Int},0<=lo->lo<=hi->hi<=xs.length->(aN.sub 1 false).run [rL xs,i64 lo,i64 hi]=some [rL ((xs.take hi.toNat).drop lo.toNat)]) /\
  aN.ne.run []=none /\
  (∀ {xs:List (List UInt8)} {lo hi:Int},0<=lo->lo<=hi->hi<=xs.length->(aN.sub 1 false).run [rL xs,i64 lo,i64 hi]=some [rL ((xs.take hi.toNat).drop lo.toNat)]) /\
  (∀ {xs:List (List Int)} {lo hi:Int},0<=lo->lo<=hi->hi<=xs.length->(aN.sub 1 false).run [rL xs,i64 lo,i64 hi]=some [rL ((xs.take hi.toNat).drop lo.toNat)]) /\
  (∀ {xs:List (List bD)} {lo hi:Int},0<=lo->lo<=hi->hi<=xs.length->(aN.sub 1 false).run [rL xs,i64 lo,i64 hi]=some [rL ((xs.take hi.toNat).drop lo.toNat)]) /\
  (∀ {xs:List (List (List Int))} {lo hi:Int},0<=lo->lo<=hi->hi<=xs.length->(aN.sub 1 false).run [rL xs,i64 lo,i64 hi]=some [rL ((xs.take hi.toNat).drop lo.toNat)]) /\
  aN.ne.run []=none /\
  aN.ne.run []=none /\
  aN.ne.run []=none /\
  aN.ne.run []=none /\
  (∀ {xs:List aR} {lo hi:Int},0<=lo->lo<=hi->hi<=xs.length->(aN.sub 16 false).run [rL xs,i64 lo,i64 hi]=some [rL ((xs.take hi.toNat).drop lo.toNat)]) /\
  aN.ne.run []=none :=
 ⟨rfl,
  fun h0 h1 h2=>(Ial rfl (fun h=>by cases h) h0 h1 h2),
  rfl,
  fun h0 h1 h2=>(Ial rfl (fun h=>by cases h) h0 h1 h2),
  fun h0 h1 h2=>(Ial rfl (fun h=>by cases h) h0 h1 h2),
  fun h0 h1 h2=>(Ial rfl (fun h=>by cases h) h0 h1 h2),
  fun h0 h1 h2=>(Ial rfl (fun h=>by cases h) h0 h1 h2),
  rfl,
  rfl,
  rfl,
  rfl,
  fun h0 h1 h2=>(Ial rfl (fun h=>by cases h) h0 h1 h2),
  rfl⟩
theorem Ga1:(∀ {fw kf gR gA gz cS fN ep eu eh:Int},(aN.eqs [0,0,0,0,0]).run [i64 fw,i64 kf,i64 gR,i64 gA,i64 gz,i64 cS,i64 fN,i64 ep,i64 eu,i64 eh]=some [.bool (decide ((⟨fw,kf,gR,gA,gz⟩:kP)=⟨cS,fN,ep,eu,eh⟩))]) /\
  aN.ne.run []=none :=
 ⟨(fun {fw kf gR gA gz cS fN ep eu eh}=>Bbh [fw,kf,gR,gA,gz] [cS,fN,ep,eu,eh] rfl (by simp[kP.mk.injEq])),
  rfl⟩
section
variable {T:Nat->Ent} {β:Type} {α:Type} [Inhabited α]
inductive Rd1 (σ:Type) where
 |go (s:σ)
 |out (r:Kind×List D)
def Aar {σ:Type}(f:Nat->α->σ->Rd1 σ):Nat->List α->σ->Rd1 σ
 |_,[],s=>.go s
 | i, x :: xs, s => match f i x s with
  |.go s'=>Aar f (i+1) xs s'
  |.out r=>.out r
def Pb5 {σ:Type}(vs:Int->σ->List D)(i:Int):Rd1 σ->Kind×List D
 |.go s=>(.cont,vs (i+1) s)
 |.out r=>r
theorem Hbq {σ:Type}{body:Tm β}{ρ:List D}{init:List aJ}(xs:List α)(vs:Int->σ->List D)(s0:σ)(f:Nat->α->σ->Rd1 σ)(inv:Nat->σ->Prop)(fin:σ->Kind×List D)
  (h0:init.map (·.val ρ)=vs 0 s0) (hi:inv 0 s0)
  (h1:∀ (i:Nat) s,i<xs.length->inv i s->Er T body (ρ++vs i s)=some (Pb5 vs i (f i (atI xs i) s))/\(∀ s',f i (atI xs i) s=.go s'->inv (i+1) s')/\∀ r,f i (atI xs i) s=.out r->r.1≠.cont)
  (h2:∀ s,inv xs.length s->Er T body (ρ++vs xs.length s)=some (fin s)/\(fin s).1≠.cont) :
  ∃ r,Er T (.loop init body) ρ=some r/\((∃ s,Aar f 0 xs s0=.go s/\inv xs.length s/\r=fin s)\/Aar f 0 xs s0=.out r):=by
 have key:=Maw (T:=T) (body:=body) (ρ:=ρ) (γ:=Nat×σ) (fun c=>xs.length-c.1) (fun c=>c.1<=xs.length/\inv c.1 c.2/\Aar f c.1 (xs.drop c.1) c.2=Aar f 0 xs s0) (fun c=>vs (c.1:Int) c.2)
  (fun r=>(∃ s,Aar f 0 xs s0=.go s/\inv xs.length s/\r=fin s)\/Aar f 0 xs s0=.out r)
  (fun ⟨i,s⟩ ⟨hle,hv,hf⟩=>by
   simp only at hle hv hf ⊢
   rcases Sbh i xs.length with aw|nj
   ·obtain⟨h3,h4,h5⟩:=h1 i s aw hv
    have hd:xs.drop i=atI xs i::xs.drop (i+1):=by
     rw[Tbp aw,bH aw]
    rw[hd,Aar]at hf;refine⟨_,h3,?_⟩
    cases e:f i (atI xs i) s with
    | go s' =>
     rw[e]at hf;exact .inl ⟨rfl,(i+1,s'),⟨by simp only;omega,h4 s' e,hf⟩,by simp only;omega,rfl⟩
    | out r =>
     rw[e]at hf;exact .inr ⟨h5 r e,.inr hf.symm⟩
   ·obtain rfl:i=xs.length:=by omega
    obtain⟨h3,h4⟩:=h2 s hv;rw[Vbj,Aar]at hf;exact⟨_,h3,.inr ⟨h4,.inl ⟨s,hf.symm,hv,rfl⟩⟩⟩)
  xs.length (0,s0) (by simp) ⟨by simp,hi,by simp⟩ init h0
 exact key
theorem Jav {body:Tm β}{ρ:List D}(j:Nat)(n:Nat)(p:Nat->Bool)(r:List D)
  (h1:∀ i:Nat,i<n->p i=true->Er T body (ρ++[i64 i])=some (.cont,[i64 ((i:Int)+1)]))
  (h2:∀ i:Nat,i<n->p i=false->Er T body (ρ++[i64 i])=some (.ret,r))
  (h3:Er T body (ρ++[i64 n])=some (.yield j,[])) :
  Er T (.loop [.c (i64 0)] body) ρ=iI (xO p n) (some (.yield j,[])) (some (.ret,r)):=by
 have key:=Maw (T:=T) (body:=body) (ρ:=ρ) (fun i=>n-i) (fun i=>i<=n/\∀ j,j<i->p j=true) (fun i=>[i64 (i:Nat)])
  (fun q=>(∀ j,j<n->p j=true)/\q=(.yield j,[])\/(∃ j,j<n/\p j=false)/\q=(.ret,r))
  (fun i ⟨hi,cQ⟩=>by
   rcases Sbh i n with aw|nj
   ·cases e:p i with
    | true => exact ⟨_, h1 i aw e, .inl ⟨rfl, i + 1, ⟨by omega, fun j hj => by
      rcases Sbh j i with h|h
      ·exact cQ j h
      ·obtain rfl:j=i:=by omega
       exact e⟩,by omega,rfl⟩⟩
    |false=>exact⟨_,h2 i aw e,.inr ⟨by simp,.inr ⟨⟨i,aw,e⟩,rfl⟩⟩⟩
   ·obtain rfl:i=n:=by omega
    exact⟨_,h3,.inr ⟨by simp,.inl ⟨cQ,rfl⟩⟩⟩)
  n 0 (by omega) ⟨by omega,fun j hj=>by omega⟩ [.c (i64 0)] (by simp[aJ.val])
 obtain⟨q,h4,h5⟩:=key;rw[h4]
 rcases h5 with ⟨h6,rfl⟩|⟨h6,rfl⟩
 ·rw[iF.2 h6];rfl
 ·rw[Cah.2 h6];rfl
theorem Ra9 (xs:List α)(p:α->Bool):xO (fun i=>p (atI xs i)) xs.length=xs.all p:=by
 cases e:xs.all p with
 | true =>
  rw[Sbp]at e;rw[iF];intro i hi;rw[bH hi];exact e _ (Tbq hi)
 | false =>
  rw[List.all_eq_false]at e;obtain⟨x,hx,hp⟩:=e;obtain⟨i,hi,rfl⟩:=List.getElem_of_mem hx;exact Cah.2 ⟨i,hi,by rw[bH hi];simpa using hp⟩
theorem yM [DecidableEq α]{xs ys:List α}(hl:xs.length=ys.length):xO (fun i=>decide (atI xs i=atI ys i)) xs.length=decide (xs=ys):=by
 by_cases e:xs=ys
 ·subst e
  rw[decide_eq_true rfl,iF];exact fun i _=>decide_eq_true rfl
 ·rw[decide_eq_false e]
  cases h:xO (fun i=>decide (atI xs i=atI ys i)) xs.length with
  |false=>rfl
  | true =>
   rw[iF]at h;refine absurd (List.ext_getElem hl fun i h1 h2=>?_) e;have:=of_decide_eq_true (h i h1);rwa[bH h1,bH h2]at this
theorem Gab {xs ys:List α}[DecidableEq α](h:¬ xs.length=ys.length):decide (xs=ys)=false:=decide_eq_false fun e=>h (by rw[e])
theorem Pbg {body:Tm β}{ρ:List D}(j:Nat)(xs:List α)(p:α->Bool)(r:List D)
  (h1:∀ i:Nat,i<xs.length->InB xs (i:Int)->decide ((i:Int)<xs.length)=true->p (atI xs i)=true->Er T body (ρ++[i64 i])=some (.cont,[i64 ((i:Int)+1)]))
  (h2:∀ i:Nat,i<xs.length->InB xs (i:Int)->decide ((i:Int)<xs.length)=true->p (atI xs i)=false->Er T body (ρ++[i64 i])=some (.ret,r))
  (h3:decide ((xs.length:Int)<xs.length)=false->Er T body (ρ++[i64 xs.length])=some (.yield j,[])) :
  Er T (.loop [.c (i64 0)] body) ρ=iI (xs.all p) (some (.yield j,[])) (some (.ret,r)):=by
 rw[Jav j xs.length (fun i=>p (atI xs i)) r (fun i hi hp=>h1 i hi (aU.2 hi) (by simp;omega) hp) (fun i hi hp=>h2 i hi (aU.2 hi) (by simp;omega) hp) (h3 (by simp)),Ra9]
omit [Inhabited α] in
theorem Dbn {body:Tm β}{ρ:List D}(j:Nat)(n:Nat)(p:Nat->Bool)(r:List D)
  (h1:∀ i:Nat,i<n->decide ((i:Int)<n)=true->Er T body (ρ++[i64 i])=iI (p i) (some (.cont,[i64 ((i:Int)+1)])) (some (.ret,r)))
  (h3:decide ((n:Int)<n)=false->Er T body (ρ++[i64 n])=some (.yield j,[])) :
  Er T (.loop [.c (i64 0)] body) ρ=iI (xO p n) (some (.yield j,[])) (some (.ret,r)) :=
 Jav j n p r (fun i hi hp=>by rw[h1 i hi (by simp;omega),hp];rfl) (fun i hi hp=>by rw[h1 i hi (by simp;omega),hp];rfl) (h3 (by simp))
theorem Mbe {body:Tm β}{ρ:List D}(j:Nat)(xs:List α)(p:α->Bool)(r:List D)
  (h1:∀ i:Nat,i<xs.length->InB xs (i:Int)->decide ((i:Int)<xs.length)=true->atI xs (i:Int)∈xs->Er T body (ρ++[i64 i])=iI (p (atI xs i)) (some (.cont,[i64 ((i:Int)+1)])) (some (.ret,r)))
  (h3:decide ((xs.length:Int)<xs.length)=false->Er T body (ρ++[i64 xs.length])=some (.yield j,[])) :
  Er T (.loop [.c (i64 0)] body) ρ=iI (xs.all p) (some (.yield j,[])) (some (.ret,r)) :=
 Pbg j xs p r (fun i hi hb hl hp=>by rw[h1 i hi hb hl (by rw[bH hi];exact Tbq hi),hp];rfl) (fun i hi hb hl hp=>by rw[h1 i hi hb hl (by rw[bH hi];exact Tbq hi),hp];rfl) h3
def ixF (p:α->Bool)(xs:List α):Int:=match xs.findIdx? p with
 |some i=>i
 |none=>-1
omit [Inhabited α] in
theorem iT (p:α->Bool)(xs:List α):decide (0<=ixF p xs)=xs.any p:=by
 unfold ixF
 cases h:xs.findIdx? p with
 | none =>
  rw[List.findIdx?_eq_none_iff]at h
  have:xs.any p=false:=by
   rw[List.any_eq_false];exact fun x hx=>by simp[h x hx]
  rw[this];rfl
 | some i =>
  have:xs.any p=true:=by
   rw[List.findIdx?_eq_some_iff_getElem]at h;obtain⟨hi,hp,-⟩:=h;rw[List.any_eq_true];exact⟨_,Tbq hi,hp⟩
  rw[this];simp
theorem Kas {body:Tm β}{ρ:List D}(j:Nat)(xs:List α)(p:α->Bool)(rf:Int->List D)
  (h1:∀ i:Nat,i<xs.length->InB xs (i:Int)->decide ((i:Int)<xs.length)=true->p (atI xs i)=true->Er T body (ρ++[i64 i])=some (.ret,rf i))
  (h2:∀ i:Nat,i<xs.length->InB xs (i:Int)->decide ((i:Int)<xs.length)=true->p (atI xs i)=false->Er T body (ρ++[i64 i])=some (.cont,[i64 ((i:Int)+1)]))
  (h3:decide ((xs.length:Int)<xs.length)=false->Er T body (ρ++[i64 xs.length])=some (.yield j,[])) :
  Er T (.loop [.c (i64 0)] body) ρ=iI (xs.any p) (some (.ret,rf (ixF p xs))) (some (.yield j,[])):=by
 have cQ:∀ (i:Nat) (ys:List α),Aar (fun (i:Nat) x (_:Unit)=>if p x then Rd1.out (.ret,rf i) else .go ()) i ys ()=match ys.findIdx? p with|some k=>.out (.ret,rf ((i+k:Nat):Int))|none=>.go ():=by
  intro i ys
  induction ys generalizing i with
  |nil=>rfl
  | cons y ys ih =>
   rw[Aar,List.findIdx?_cons]
   cases p y with
   |true=>simp
   | false =>
    simp only[Sbb,if_false];rw[ih (i+1)]
    cases ys.findIdx? p with
    |none=>rfl
    |some k=>simp only[Sb9];congr 4;omega
 obtain⟨q,h4,h5⟩:=Hbq (T:=T) (body:=body) (ρ:=ρ) (init:=[.c (i64 0)]) xs (fun i (_:Unit)=>[i64 i]) () (fun i x _=>if p x then .out (.ret,rf i) else .go ()) (fun _ _=>True) (fun _=>(.yield j,[])) rfl trivial
  (fun i _ hi _=>by
   cases e:p (atI xs i) with
   |true=>exact⟨by rw[h1 i hi (aU.2 hi) (by simp;omega) e];rfl,fun _ _=>trivial,fun r h=>by simp at h;rw[<- h];simp⟩
   |false=>exact⟨by rw[h2 i hi (aU.2 hi) (by simp;omega) e];rfl,fun _ _=>trivial,fun r h=>by simp at h⟩)
  (fun _ _=>⟨h3 (by simp),by simp⟩)
 rw[h4,<- iT];rw[cQ]at h5;unfold ixF
 cases e:xs.findIdx? p with
 | none =>
  rw[e]at h5
  rcases h5 with ⟨s,-,-,rfl⟩|h5
  ·rfl
  ·simp at h5
 | some k =>
  rw[e]at h5
  rcases h5 with ⟨s,h5,-⟩|h5
  ·simp at h5
  ·simp only[Sbo,Rd1.out.injEq]at h5
   rw[<- h5];simp[iI]
theorem at_mem {xs:List α}{i:Nat}(h:i<xs.length):atI xs (i:Int)∈xs:=by rw[bH h];exact Tbq h
omit [Inhabited α] in
theorem zZ {body:Tm β}{ρ:List D}{init:List aJ}(n:Nat)(vs:Nat->List D)(r:Kind×List D)(h0:init.map (·.val ρ)=vs 0)(hr:r.1≠.cont)
  (h1:∀ i:Nat,i<n->decide ((i:Int)<n)=true->Er T body (ρ++vs i)=some (.cont,vs (i+1)))
  (h2:decide ((n:Int)<n)=false->Er T body (ρ++vs n)=some r):Er T (.loop init body) ρ=some r:=by
 obtain⟨q,h3,rfl⟩:=Maw (T:=T) (body:=body) (ρ:=ρ) (fun i=>n-i) (fun i=>i<=n) vs (fun q=>q=r)
  (fun i hi=>by
   rcases Sbh i n with aw|nj
   ·exact⟨_,h1 i aw (by simp;omega),.inl ⟨rfl,i+1,by omega,by omega,rfl⟩⟩
   ·obtain rfl:i=n:=by omega
    exact⟨_,h2 (by simp),.inr ⟨hr,rfl⟩⟩) n 0 (by omega) (by omega) init h0
 exact h3
omit [Inhabited α] in
theorem Hap {γ:Type}{body:Tm β}{ρ:List D}{init:List aJ}(r:Kind×List D)(m:γ->Nat)(inv:γ->Prop)(vs:γ->List D)(c0:γ)(h0:init.map (·.val ρ)=vs c0)(hi:inv c0)(hr:r.1≠.cont)
  (h:∀ c,inv c->(∃ c',Er T body (ρ++vs c)=some (.cont,vs c')/\inv c'/\m c'<m c)\/Er T body (ρ++vs c)=some r):Er T (.loop init body) ρ=some r:=by
 obtain⟨q,h1,rfl⟩:=Maw (T:=T) (body:=body) (ρ:=ρ) m inv vs (fun q=>q=r)
  (fun c hc=>by
   rcases h c hc with ⟨c',h2,h3,h4⟩|h2
   ·exact⟨_,h2,.inl ⟨rfl,c',h3,h4,rfl⟩⟩
   ·exact⟨_,h2,.inr ⟨hr,rfl⟩⟩) (m c0) c0 (Sbg _) hi init h0
 exact h1
end
theorem take_at {α:Type}[Inhabited α]{xs:List α}{i:Nat}(h:i<xs.length):xs.take i++[atI xs (i:Int)]=xs.take (i+1):=by rw[Ubo h,bH h]
theorem Pad {α:Type}[Inhabited α]{xs:List α}{k:Int}(h:InB xs k):dI xs k (atI xs k)=xs:=by
 have h2:=h.lt;unfold dI atI;rw[Rb5,Rbz h2];exact List.set_getElem_self h2
def Ebj {α:Type}[Enc α](xs:List (List α))(k:Int):D:=.rows 1 ((xs.map Enc.enc).set k.toNat [.hole])
theorem Oai:(∀ {α:Type} [Enc α] {xs:List (List α)} {k:Int},InB xs k->(aN.set 1 0 1).run [rL xs,i64 k,.hole]=some [Ebj xs k])/\(∀ {α:Type} [Enc α] {xs:List (List α)} {k j:Int},InB xs j->aN.inb.run [Ebj xs k,i64 j]=some []) /\
  (∀ {α:Type} [Enc α] {xs:List (List α)} {k:Int} {l:List α},InB xs k->(aN.set 1 0 1).run [Ebj xs k,i64 k,rL l]=some [rL (dI xs k l)]):=by
 refine⟨?_,?_,?_⟩
 ·intro α _ xs k h
  have h2:=h.lt;unfold InB at h;have e:(xs.map Enc.enc)[k.toNat]?=some [rL xs[k.toNat]]:=by rw[Sbx,Rbz h2];rfl
  show (if _ then _ else _)=_
  rw[if_pos ⟨rfl,h.1⟩,e];rfl
 ·intro α _ xs k j h
  unfold InB at h;show (if _ then _ else _)=_
  rw[if_pos ⟨h.1,by simpa using h.2⟩]
 ·intro α _ xs k l h
  have h2:=h.lt;unfold InB at h;have e:((xs.map Enc.enc).set k.toNat [.hole])[k.toNat]?=some [.hole]:=by rw[List.getElem?_set_self (by simpa using h2)]
  show (if _ then _ else _)=_
  rw[if_pos ⟨rfl,h.1⟩,e];show some _=_
  simp only[rL,dI,List.map_set,List.set_set];rfl
theorem SQ:(∀ {a b:Int},-9223372036854775808<=a+b->a+b<=9223372036854775807->(aN.bin .add).run [i64 a,i64 b]=some [i64 (a+b)]) /\
  (∀ {a b:Int},-9223372036854775808<=a-b->a-b<=9223372036854775807->(aN.bin .sub).run [i64 a,i64 b]=some [i64 (a-b)]) /\
  (∀ {a b:Int},0<=a->a<=9223372036854775807->0<b->(aN.bin .quo).run [i64 a,i64 b]=some [i64 (a / b)])/\(∀ {a b:Int},0<=a->0<b->(aN.bin .rem).run [i64 a,i64 b]=some [i64 (a % b)]) :=
 ⟨Dby,Dbo,Abe,Abd⟩
theorem lW:(∀ {α:Type} [Inhabited α] {xs:List α} {k:Int} {a:α},InB xs k->atI (dI xs k a) k=a)/\(∀ {α:Type} {xs:List α} {k:Int} {a b:α},dI (dI xs k a) k b=dI xs k b) /\
  (∀ {α:Type} {xs:List α} {j k:Int} {a:α},InB (dI xs j a) k=InB xs k)/\(∀ {α:Type} {xs:List α} {j:Int} {a:α},(dI xs j a).length=xs.length):=by
 refine⟨?_,?_,?_,?_⟩
 ·intro α _ xs k a h
  have:=h.lt;rw[dI,atI,Rb5,List.getElem?_set_self this];rfl
 ·intro α xs k a b
  rw[dI,dI,dI,List.set_set]
 ·intro α xs j k a
  unfold InB dI;rw[Ubt]
 ·intro α xs j a
  exact Ubt ..
def szL {α:Type}(f:α->Nat)(xs:List α):Nat:=xs.length+(xs.map f).sum
def szR (l:Int)(n:Nat):Int:=if (n:Int)<=l then l-n else -1
theorem Jak {α:Type}{f:α->Nat}{x:α}{xs:List α}:szL f (x::xs)=1+f x+szL f xs:=by simp[szL];omega
theorem eZ {α:Type}{f:α->Nat}:∀ {xs:List α} {x:α},x∈xs->1+f x<=szL f xs
 |[],x,h=>by cases h
 | y :: ys, x, h => by
  rw[Jak]
  rcases Rb4.1 h with rfl|h
  ·omega
  ·have:=eZ (f:=f) h
   omega
theorem jB {α:Type}{xs:List α}:szL (fun _=>0) xs=xs.length:=by
 have:∀ xs:List α,(xs.map fun _=>0).sum=0:=fun xs=>by
  induction xs with
  |nil=>rfl
  |cons x xs ih=>simp only[Sbk,List.sum_cons,ih]
 rw[szL,this];rfl
theorem fU {α:Type}{f:α->Nat}{xs:List α}:xs.length<=szL f xs:=by unfold szL;omega
section
variable {T:Nat->Ent} {β:Type} {α:Type} [Inhabited α]
theorem Uay {body:Tm β}{ρ:List D}{a:aJ}(xs:List α)(f:α->Nat)(l:Int)(h0:a.val ρ=i64 l)(hl:0<=l)(ic:l<=1048576)
  (h1:∀ (i:Nat) (m:Int),i<xs.length->InB xs (i:Int)->decide ((i:Int)<xs.length)=true->0<=m->m<=1048576->(f (atI xs i):Int)<=m->szR m (f (atI xs i))=m-f (atI xs i)->decide (m-(f (atI xs i):Int)<0)=false->Er T body (ρ++[i64 m,i64 i])=some (.cont,[i64 (m-f (atI xs i)),i64 ((i:Int)+1)]))
  (h2:∀ (i:Nat) (m:Int),i<xs.length->InB xs (i:Int)->decide ((i:Int)<xs.length)=true->0<=m->m<=1048576->m<f (atI xs i)->szR m (f (atI xs i))=-1->decide ((-1:Int)<0)=true->Er T body (ρ++[i64 m,i64 i])=some (.ret,[i64 (-1)]))
  (h3:∀ m:Int,decide ((xs.length:Int)<xs.length)=false->Er T body (ρ++[i64 m,i64 xs.length])=some (.yield 1,[i64 m])) :
  Er T (.loop [a,.c (i64 0)] body) ρ=iI (decide (((xs.map f).sum:Int)<=l)) (some (.yield 1,[i64 (l-(xs.map f).sum)])) (some (.ret,[i64 (-1)])):=by
 have cQ:∀ (ys:List α) (i:Nat) (m:Int),0<=m->Aar (fun (_:Nat) x (m:Int)=>if (f x:Int)<=m then Rd1.go (m-f x) else .out (.ret,[i64 (-1)])) i ys m=if ((ys.map f).sum:Int)<=m then .go (m-(ys.map f).sum) else .out (.ret,[i64 (-1)]):=by
  intro ys
  induction ys with
  | nil =>
   intro i m hm;simp only[Aar,List.map_nil,List.sum_nil];rw[if_pos (by simpa using hm)];simp
  | cons y ys ih =>
   intro i m hm;simp only[Aar,Sbk,List.sum_cons];by_cases h:(f y:Int)<=m
   ·rw[if_pos h]
    simp only;rw[ih (i+1) _ (by omega)];by_cases h4:((ys.map f).sum:Int)<=m-f y
    ·rw[if_pos h4,if_pos (by omega)]
     congr 1;omega
    ·rw[if_neg h4,if_neg (by omega)]
   ·rw[if_neg h]
    simp only;rw[if_neg (by omega)]
 obtain⟨q,h4,h5⟩:=Hbq (T:=T) (body:=body) (ρ:=ρ) (init:=[a,.c (i64 0)]) xs (fun i (m:Int)=>[i64 m,i64 i]) l (fun _ x m=>if (f x:Int)<=m then .go (m-f x) else .out (.ret,[i64 (-1)])) (fun _ m=>0<=m/\m<=1048576) (fun m=>(.yield 1,[i64 m])) (by show [a.val ρ,_]=_;rw[h0];rfl) ⟨hl,ic⟩
  (fun i m hi hm=>by
   by_cases e:(f (atI xs i):Int)<=m
   ·rw[if_pos e]
    refine⟨h1 i m hi (aU.2 hi) (by simp;omega) hm.1 hm.2 e (by rw[szR,if_pos e]) (by simp;omega),fun s' h=>?_,fun r h=>by cases h⟩;simp only[Rd1.go.injEq]at h;omega
   ·rw[if_neg e]
    refine⟨h2 i m hi (aU.2 hi) (by simp;omega) hm.1 hm.2 (by omega) (by rw[szR,if_neg e]) rfl,fun s' h=>by simp at h,fun r h=>?_⟩;simp only[Rd1.out.injEq]at h;rw[<- h];simp)
  (fun m hm=>⟨h3 m (by simp),by simp⟩)
 rw[h4];rw[cQ xs 0 l hl]at h5;by_cases h:((xs.map f).sum:Int)<=l
 ·rw[if_pos h]at h5
  rw[decide_eq_true h]
  rcases h5 with ⟨s,h5,-,rfl⟩|h5
  ·simp only[Rd1.go.injEq]at h5
   rw[<- h5];rfl
  ·cases h5
 ·rw[if_neg h]at h5
  rw[decide_eq_false h]
  rcases h5 with ⟨s,h5,-⟩|h5
  ·cases h5
  ·simp only[Rd1.out.injEq]at h5
   rw[<- h5];rfl
theorem Qaq {body:Tm β}{ρ:List D}{a:aJ}[Enc α](xs:List α)(h0:a.val ρ=rL (Sbi xs.length (default:α)))
  (h1:∀ (i:Nat) (ys:List α),i<xs.length->InB xs (i:Int)->InB ys (i:Int)->decide ((i:Int)<xs.length)=true->Er T body (ρ++[rL ys,i64 i])=some (.cont,[rL (dI ys i (atI xs i)),i64 ((i:Int)+1)]))
  (h2:∀ ys:List α,decide ((xs.length:Int)<xs.length)=false->Er T body (ρ++[rL ys,i64 xs.length])=some (.yield 1,[rL ys])) :
  Er T (.loop [a,.c (i64 0)] body) ρ=some (.yield 1,[rL xs]):=by
 have key:=Maw (T:=T) (body:=body) (ρ:=ρ) (fun i=>xs.length-i) (fun i=>i<=xs.length) (fun i=>[rL (upto default xs i),i64 (i:Nat)]) (fun q=>q=(.yield 1,[rL xs]))
  (fun i hi=>by
   rcases Sbh i xs.length with aw|nj
   ·refine⟨_,h1 i (upto default xs i) aw (aU.2 aw) (aU.2 (by rw[Qam _ _ hi];exact aw)) (by simp;omega),.inl ⟨rfl,i+1,by omega,by omega,?_⟩⟩
    have:dI (upto default xs i) (i:Int) (atI xs i)=upto default xs (i+1):=by
     rw[dI];exact Qal default xs (by rw[bH aw];exact Rbz aw)
    rw[this];simp
   ·obtain rfl:i=xs.length:=by omega
    refine⟨_,h2 _ (by simp),.inr ⟨by simp,?_⟩⟩;rw[Qan])
  xs.length 0 (by omega) (by omega) [a,.c (i64 0)] (by show [a.val ρ,_]=_;rw[h0,Laj];rfl)
 obtain⟨q,h4,rfl⟩:=key;exact h4
def mkL {α:Type}(c:α->Nat)(f:α->Int->α):List α->Int->List α
 |[],_=>[]
 |x::xs,k=>f x k::mkL c f xs (k+c x)
def ctL {α:Type}(c:α->Nat)(xs:List α):Nat:=(xs.map c).sum
theorem nG {α:Type}{c:α->Nat}{f:α->Int->α}:∀ {xs:List α} {k:Int},(mkL c f xs k).length=xs.length
 |[],_=>rfl
 |x::xs,k=>by simp[mkL,nG]
theorem Va4 {c:α->Nat}{f:α->Int->α}:∀ {xs:List α} {k:Int} {i:Nat},i<xs.length->atI (mkL c f xs k) (i:Int)=f (atI xs i) (k+ctL c (xs.take i))
 |x::xs,k,0,h=>by simp[mkL,atI,ctL]
 | x :: xs, k, i + 1, h => by
  have ih:=Va4 (c:=c) (f:=f) (xs:=xs) (k:=k+c x) (i:=i) (by simpa using h);rw[mkL,vL,vL,List.getD_cons_succ,List.getD_cons_succ,<- vL,ih,<- vL];congr 1;simp only[ctL,List.take_succ_cons,Sbk,List.sum_cons];omega
theorem Ka0 {c:α->Nat}{xs:List α}{i:Nat}(h:i<xs.length):ctL c (xs.take (i+1))=ctL c (xs.take i)+c (atI xs i):=by
 rw[Ubo h,bH h];unfold ctL;rw[Ubg,List.sum_append];simp
omit [Inhabited α] in
theorem Gaj {c:α->Nat}:∀ {xs:List α} {i:Nat},ctL c (xs.take i)<=ctL c xs
 |[],i=>by simp
 |x::xs,0=>by simp[ctL]
 | x :: xs, i + 1 => by
  have:=Gaj (c:=c) (xs:=xs) (i:=i);simp only[ctL,List.take_succ_cons,Sbk,List.sum_cons]at this ⊢;omega
theorem Ia0 {c:α->Nat}{xs:List α}{i:Nat}(h:i<xs.length):ctL c (xs.take i)+c (atI xs i)<=ctL c xs:=by
 rw[<- Ka0 h];exact Gaj
def upM (c:α->Nat)(f:α->Int->α)(xs:List α)(k:Int)(i:Nat):List α:=(mkL c f xs k).take i++xs.drop i
omit [Inhabited α] in
theorem Jai {c:α->Nat}{f:α->Int->α}{xs:List α}{k:Int}{i:Nat}(h:i<=xs.length):(upM c f xs k i).length=xs.length:=by
 simp[upM,nG];omega
theorem Fbx {c:α->Nat}{f:α->Int->α}{xs:List α}{k:Int}{i:Nat}(h:i<xs.length):atI (upM c f xs k i) (i:Int)=atI xs i:=by
 rw[bH (by rw[Jai (by omega)];exact h),bH h];unfold upM;rw[List.getElem_append_right (by simp[nG];omega)];simp[nG,Nat.min_eq_left (Nat.le_of_lt h)]
theorem Dbc {c:α->Nat}{f:α->Int->α}{xs:List α}{k:Int}{i:Nat}(h:i<xs.length):dI (upM c f xs k i) (i:Int) (f (atI xs i) (k+ctL c (xs.take i)))=upM c f xs k (i+1):=by
 have hm:i<(mkL c f xs k).length:=by rw[nG];exact h
 unfold upM dI;rw[Int.toNat_natCast,List.set_append_right _ _ (by simp[nG];omega),Ubo hm,Rb3];congr 1;have e:i-((mkL c f xs k).take i).length=0:=by simp[nG];omega
 rw[e,Tbp h,List.set_cons_zero];have:=Va4 (c:=c) (f:=f) (k:=k) h;rw[bH hm]at this;rw[this];rfl
theorem zY {body:Tm β}{ρ:List D}{a b d:aJ}[Enc α](xs:List α)(c:α->Nat)(f:α->Int->α)(k:Int)(h0:a.val ρ=rL xs)(h0':b.val ρ=i64 k)(hd:d.val ρ=.undef)(hk:0<=k)(hb:k+ctL c xs<=1152921504606846976)
  (h1:∀ (i:Nat) (ys:List α) (m:Int),i<xs.length->ys.length=xs.length->InB ys (i:Int)->decide ((i:Int)<xs.length)=true->atI ys i=atI xs i->0<=m->m+c (atI xs i)<=1152921504606846976->xs.length<=1152921504606846976->Er T body (ρ++[rL ys,.undef,i64 m,i64 i])=some (.cont,[rL (dI ys i (f (atI xs i) m)),.undef,i64 (m+c (atI xs i)),i64 ((i:Int)+1)]))
  (h2:∀ (ys:List α) (m:Int),ys.length=xs.length->decide ((xs.length:Int)<xs.length)=false->Er T body (ρ++[rL ys,.undef,i64 m,i64 xs.length])=some (.yield 1,[rL ys,i64 m])) (hlen:xs.length<=1152921504606846976) :
  Er T (.loop [a,d,b,.c (i64 0)] body) ρ=some (.yield 1,[rL (mkL c f xs k),i64 (k+ctL c xs)]):=by
 have key:=Maw (T:=T) (body:=body) (ρ:=ρ) (fun i=>xs.length-i) (fun i=>i<=xs.length) (fun i=>[rL (upM c f xs k i),.undef,i64 (k+ctL c (xs.take i)),i64 (i:Nat)]) (fun q=>q=(.yield 1,[rL (mkL c f xs k),i64 (k+ctL c xs)]))
  (fun i hi=>by
   rcases Sbh i xs.length with aw|nj
   ·have h3:=Ia0 (c:=c) aw
    refine⟨_,h1 i (upM c f xs k i) (k+ctL c (xs.take i)) aw (Jai hi) (aU.2 (by rw[Jai hi];exact aw)) (by simp;omega) (Fbx aw) (by omega) (by omega) hlen,.inl ⟨rfl,i+1,by omega,by omega,?_⟩⟩;rw[Dbc aw,Ka0 aw];simp only[Int.natCast_add,Int.add_assoc];rfl
   ·obtain rfl:i=xs.length:=by omega
    refine⟨_,h2 _ _ (Jai hi) (by simp),.inr ⟨by simp,?_⟩⟩
    have e:upM c f xs k xs.length=mkL c f xs k:=by
     unfold upM;rw[Vbj,Sbu,List.take_of_length_le (by rw[nG];omega)]
    rw[e,Tbv])
  xs.length 0 (by omega) (by omega) [a,d,b,.c (i64 0)] (by show [a.val ρ,d.val ρ,b.val ρ,_]=_;rw[h0,h0',hd];simp[upM,ctL,aJ.val])
 obtain⟨q,h4,rfl⟩:=key;exact h4
theorem Aan {body:Tm β}{ρ:List D}{b:aJ}(xs:List α)(c:α->Nat)(f:α->Int->α)(k:Int)(h0':b.val ρ=i64 k)(hk:0<=k)(hb:k+ctL c xs<=1152921504606846976)(hlen:xs.length<=1152921504606846976)
  (h1:∀ (i:Nat) (m:Int),i<xs.length->InB (mkL c f xs k) (i:Int)->(mkL c f xs k).length=xs.length->decide ((i:Int)<xs.length)=true->atI (mkL c f xs k) i=f (atI xs i) m->0<=m->m+c (atI xs i)<=1152921504606846976->xs.length<=1152921504606846976->Er T body (ρ++[i64 m,i64 i])=some (.cont,[i64 (m+c (atI xs i)),i64 ((i:Int)+1)]))
  (h2:∀ m:Int,(mkL c f xs k).length=xs.length->decide ((xs.length:Int)<xs.length)=false->Er T body (ρ++[i64 m,i64 xs.length])=some (.yield 1,[i64 m])) :
  Er T (.loop [b,.c (i64 0)] body) ρ=some (.yield 1,[i64 (k+ctL c xs)]):=by
 have key:=Maw (T:=T) (body:=body) (ρ:=ρ) (fun i=>xs.length-i) (fun i=>i<=xs.length) (fun i=>[i64 (k+ctL c (xs.take i)),i64 (i:Nat)]) (fun q=>q=(.yield 1,[i64 (k+ctL c xs)]))
  (fun i hi=>by
   rcases Sbh i xs.length with aw|nj
   ·have h3:=Ia0 (c:=c) aw
    refine⟨_,h1 i (k+ctL c (xs.take i)) aw (aU.2 (by rw[nG];exact aw)) nG (by simp;omega) (Va4 aw) (by omega) (by omega) hlen,.inl ⟨rfl,i+1,by omega,by omega,?_⟩⟩;rw[Ka0 aw];simp only[Int.natCast_add,Int.add_assoc];rfl
   ·obtain rfl:i=xs.length:=by omega
    refine⟨_,h2 _ nG (by simp),.inr ⟨by simp,?_⟩⟩;rw[Tbv])
  xs.length 0 (by omega) (by omega) [b,.c (i64 0)] (by show [b.val ρ,_]=_;rw[h0'];simp[ctL,aJ.val])
 obtain⟨q,h4,rfl⟩:=key;exact h4
end
theorem oN {α:Type}{c f:α->Nat}{m:Nat}(hm:1<=m)(h:∀ x,c x<=m+m*f x):∀ xs:List α,ctL c xs<=m*szL f xs
 |[]=>by simp[ctL]
 | x :: xs => by
  have ih:=oN hm h xs;have h1:=h x;rw[Jak];simp only[ctL,Sbk,List.sum_cons]at ih ⊢;rw[Nat.mul_add,Nat.mul_add];omega
theorem lt0 {k:Int}(h:0<=k):decide (k<0)=false:=by simp;omega
theorem Pbd:decide ((-1:Int)<0)=true:=rfl
theorem Oah {α:Type}[Enc α]{ib:List Ty}{bytes:Nat}{P:α->Prop}{d:D}(hs:ib.length=Enc.sz α)(hd:∀ ds,WTs ib ds->∃ a:α,ds=Enc.enc a/\P a)(h:WT (.sl bytes ib) d):∃ xs:List α,d=rL xs/\xs.length*bytes<=reachBytes/\∀ x∈xs,P x:=by
 simp only[WT]at h;obtain⟨rs,rfl,h1,h2⟩:=h
 have key:∀ rs:List (List D),(∀ r∈rs,WTs ib r)->∃ xs:List α,rs=xs.map Enc.enc/\∀ x∈xs,P x:=by
  intro rs
  induction rs with
  |nil=>exact fun _=>⟨[],rfl,by simp⟩
  | cons r rs ih =>
   intro h;obtain⟨xs,hx,hp⟩:=ih fun r hr=>h r (List.mem_cons_of_mem _ hr)
   obtain⟨a,ha,hpa⟩:=hd r (h r List.mem_cons_self);exact⟨a::xs,by rw[hx,ha];rfl,by simpa using ⟨hpa,hp⟩⟩
 obtain⟨xs,rfl,hp⟩:=key rs h2;exact⟨xs,by rw[hs];rfl,by simpa using h1,hp⟩
theorem gF {d:D}(h:WT (.int .i64) d):∃ n:Int,d=i64 n/\-9223372036854775808<=n/\n<=9223372036854775807:=by
 obtain⟨n,rfl,h1,h2⟩:=h;exact⟨n,rfl,h1,h2⟩
theorem Eb9 {d:D}(h:WT .bool d):∃ b:Bool,d=.bool b:=h
theorem lK {n b:Nat}(h:n*b<=reachBytes)(hb:0<b):n<=reachBytes:=Sb1 (Nat.le_mul_of_pos_right n hb) h
end Go.Proofs.YtgpamlpecmldfaaGreat.Rf
