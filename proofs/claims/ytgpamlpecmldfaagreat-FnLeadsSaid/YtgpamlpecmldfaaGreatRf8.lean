import Derived.Test.YtgpamlpecmldfaaGreatRf7
import Derived.Shelf.SlicesE.Clone
import Derived.Laws.CopyOwn
import Derived.LoopN
import Derived.WalkKit
import Derived.RegionTactic
import Derived.ChangeAlike
import Derived.Lib.Bytealg
import Derived.Lib.SplitLaws
import Derived.LaidLaws
import Derived.Lay
import Derived.Shelf.Strings.OnBuilder
import Derived.Shelf.Strconv.Itoa3
import Derived.Lib.AppendIntMem
import Derived.Lib.LaidTab
import Derived.Shelf.Lay
import Derived.Shelf.SlSortCmp.NoneTotal
import Derived.Shelf.SlicesE.Delete
import Derived.Shelf.Spec.SlicesInsert
import Derived.Shelf.Spec.SlicesInsertGrow
set_option linter.all false
open Array renaming getElem?_eq_getElem → Wbq, getElem?_append_left → Ybm, getElem?_push → Ybo, size_append → Yb9
open Bool renaming and_eq_true → Vbk, false_eq_true → Vbm, not_true → Vbt, not_eq_true' → Vb9, true_and → Wbf, or_eq_true → Wb9, false_or → Xba, and_true → Xbv
open List renaming getElem?_eq_some_iff → Vbn, getElem?_eq_getElem → Vbq, mem_cons → Vbu, length_append → Vbw, append_assoc → Vbx, getD_eq_getElem?_getD → Vby, getElem?_append_right → Vbz, mem_cons_of_mem → Vb1, getElem?_append_left → Vb2, mem_of_getElem? → Vb3, mem_append → Vb5, mem_cons_self → Vb7, replicate → Wba, length_cons → Wbb, map_cons → Wbe, all_eq_true → Wbg, length_take → Wbh, length_map → Wbm, append_nil → Wbo, getElem?_map → Wbs, getElem?_drop → Wbt, getElem?_take → Wbw, length_drop → Wb4, mem_iff_getElem? → Wb8, getElem_mem → Xbb, pairwise_cons → Xbg, mem_of_mem_drop → Xbj, take_length → Xbt, any_eq_true → Xb1, mem_of_mem_take → Yba, findIdx?_eq_some_iff_getElem → Ybh, map_append → Ybj, length_set → Ybn, size_toArray → Ybs, all_cons → Ybt, mem_range → Ybu, range → Yb1, takeWhile_cons → Yb7, mem_flatMap → Zba, all_nil → Zbb
open Nat renaming le_refl → Vb6, add_assoc → Vb8, lt_or_ge → Wbc, zero_add → Wbj, mul_le_mul_right → Wbr, add_zero → Wbv, add_mul → Wb7, zero_le → Xby, le_trans → Xb3, div_eq_of_lt → Ybg, mul_comm → Ybk, mul_add_div → Ybr, succ_mul → Yb5
open Option renaming bind_some → Vbs, map_some → Wb5
open Option.some renaming inj → Wbk
namespace Go.Proofs.YtgpamlpecmldfaaGreat.Rf
open Go.Proofs Go.Shelf Go.RowKit Go.Lib
section
variable {P:Program} {ρ:Ren}
set_option maxHeartbeats 2000000 in
set_option maxRecDepth 100000 in
theorem Saj (L:SlLaysE0.n41 P ρ)(i0:TypeInfo)(z:Value)(size bytes:Nat)(hi:P.info? (ρ.t 23)=some i0)(np:i0.zero=some z)(lf:i0.size=size)(nj:i0.bytes=bytes)(qf:z.cells.size=size)(dh:0<size)
  (z23:∀ w,(Go.sizeOf (ρ.t 23)).run P w=.ok size w) (a:Addr) (c:Nat) (w:World) :
  Calls P (ρ.f 41) #[.slice (some a) 0 c] w fun e w'=>∃ v',e=.returned v'/\w'.ownsRow w.heap.size (ρ.t 23) size v' 0 []/\Below w.heap.size w w':=by
 have mixed:=L.mixed;have t4:=L.t4;have a4:=L.a4;have z4:=L.z4;have v4:=L.v4;have t22:=L.t22;have a22:=L.a22;have z22:=L.z22;have v22:=L.v22
 have q22:∀ (w:World) (a:Option Addr) (n c n' c':Nat),(binOp .eql (ρ.t 22) (.slice a n c) (.slice none n' c')).run P w=.ok (.bool a.isNone) w:=fun w a n c n' c'=>Lib.run_eql_slice_nil w _ _ a n c n' c' L.t22
 have u22:∀ w,Sem.run P (underlying (ρ.t 22)) w=.ok (TypeDesc.slice (ρ.t 23)) w:=run_underlying t22;obtain⟨_,_,FG⟩:=L.f41
 go_enter FG,SlBodyN.n41_ntmps ρ
 go_wp2_with (at_builtin;refine wpList_append_own _ rfl _ _ (ρ.t 22) rfl w.heap.size (ρ.t 23) i0 z size bytes t22 hi np lf nj qf dh _ _ _ rfl (World.ownsRow_made w #[] 0 (Vb6 _) (Xby _) (by simp)) a 0 c [] rfl ?qc1 ?qc2 ?qc3 ?qc4 ?qc5 ?qc6 ?_)
 case qc1=>simp
 case qc2=>intro j u hj;simp at hj
 case qc3=>intro u hu;cases hu
 case qc4=>exact Xby _
 case qc5=>simp
 case qc6=>simp
 intro v' w1 cu tD fx
 go_wp2
 go_ret
 exact⟨v',rfl,by simpa using cu,((Below.refl _ w).alloc (Vb6 _) _).grown tD (by simp) (by intro k hk;simp[Value.ownBlock]at hk;omega)⟩
theorem Faa {s:Sig}{G:Gh}{w:World}{vals:List Value}{ds:List D}(h:Eb5 s vals w G ds)(hb:s.boxes=[]):nH (rZ s G w) G w :=
 ⟨rfl,rfl,rfl,Vb6 _,fun b _ _=>⟨rfl,rfl⟩,fun b j hj he=>by
  obtain⟨h1,-⟩:=h.cells b j hj he;rw[hb]at h1;exact absurd h1 (Nat.not_lt_zero _),h.fresh⟩
theorem Caq {s:Sig}{G:Gh}{w w':World}{vals:List Value}{ds:List D}{own':Nat->Ow}(h:Eb5 s vals w G ds)(hb:s.boxes=[])(tS:Below w.heap.size w w')(h1:∀ b,b<w.heap.size->own' b=G.own b)(h2:∀ b,w'.heap.size<=b->own' b=.frz) :
  nH (rZ s G w) { G with own:=own' } w' :=
 ⟨tS.os,tS.tape,tS.output,tS.size,fun b bj _=>⟨tS.block b bj,h1 b bj⟩,fun b j hj he=>by
  obtain⟨h1,-⟩:=h.cells b j hj he;rw[hb]at h1;exact absurd h1 (Nat.not_lt_zero _),h2⟩
theorem Ebo (L:SlLaysE0.n41 P ρ){i0:TypeInfo}{z:Value}{size bytes m key:Nat}{T1:Nat->Ent}(hi:P.info? (ρ.t 23)=some i0)(np:i0.zero=some z)(lf:i0.size=size)(nj:i0.bytes=bytes)(qf:z.cells.size=size)(dh:0<size)
  (z23:∀ w,(Go.sizeOf (ρ.t 23)).run P w=.ok size w) (hK:∀ n,vF P T1 n key ⟨ρ.f 41,[(false,[.fz false])],[],[(false,[.ow (m+1)])]⟩) :
  Eb0 P ⟨ρ.f 41,[(false,[.fz false])],[],[(false,[.ow (m+1)])]⟩ (fun ds=>match ds with
   |[.rows _ []]=>some [.rows size []]
   |ds=>Fun T1 key ds):=by
 intro vals w G ds ie fe he;by_cases pr:∃ sz,ds=[.rows sz []]
 ·obtain⟨sz,rfl⟩:=pr
  simp only[Option.some.injEq]at he;subst he;obtain⟨u,us,vs,rfl,⟨v,uc,rfl,⟨jc,-⟩,rfl⟩,tM,fx⟩:=fe.params;simp only[Vbm,if_false]at tM;obtain rfl:v=u:=by simpa using tM
  simp only[mQ]at fx;subst fx;have a56:Rd (fun b=>G.own b=.frz) w v (.rows sz []):=jc;obtain⟨A,a,n,c,vs,rfl,hn,hc,-,-⟩:=a56.inv;obtain rfl:n=0:=hn.symm;obtain⟨nm,tv,hfn⟩:=L.f41;refine .inl ⟨nO hfn tv rfl _ _,?_⟩
  cases A with
  | none =>
   refine Calls.mono (AnyE.slices_Clone_nil L 0 c w) fun e w' ⟨h1,h2⟩=>?_
   subst h1;subst h2
   refine⟨G,[.slice none 0 0],rfl,Faa fe rfl,⟨_,_,_,rfl,⟨_,_,rfl,?_,rfl⟩,rfl,rfl⟩,trivial,trivial⟩;exact .sl none ⟨0,0,none⟩ 0 0 _ [] (fun _ _=>undef) rfl (Vb6 _) (.inr ⟨rfl,rfl⟩) (by simp) (fun e=>by cases e) (by simp) (by simp)
  | some a' =>
   refine Calls.mono (Saj L i0 z size bytes hi np lf nj qf dh z23 a' c w) fun e w' ⟨v',h1,h2,h3⟩=>?_
   subst h1
   rcases h2.2 with ⟨rfl,-⟩|⟨g,cap,cur,rfl,hg,cE,-,-,hcur,-⟩
   ·refine⟨{ G with own:=G.own },[.slice none 0 0],rfl,Caq fe rfl h3 (fun _ _=>rfl) (fun b hb=>fe.fresh b (Xb3 h3.size hb)),⟨_,_,_,rfl,⟨_,_,rfl,?_,rfl⟩,rfl,rfl⟩,trivial,trivial⟩
    exact .sl none ⟨0,0,none⟩ 0 0 _ [] (fun _ _=>undef) rfl (Vb6 _) (.inr ⟨rfl,rfl⟩) (by simp) (fun e=>by cases e) (by simp) (by simp)
   ·have bj:g<w'.heap.size:=(Array.getElem?_eq_some_iff.1 cE).1
    refine⟨{ G with own:=fun b=>if b=g then .slc 0 [] else G.own b },[.slice (some ⟨g,0,none⟩) 0 cap],rfl,Caq fe rfl h3 (fun b hb=>if_neg (by omega)) (fun b hb=>?_),⟨_,_,_,rfl,⟨_,_,rfl,?_,rfl⟩,rfl,rfl⟩,trivial,trivial⟩
    ·show (if b=g then _ else _)=_
     rw[if_neg (by omega)];exact fe.fresh b (Xb3 h3.size hb)
    ·refine .sl (some ⟨g,0,none⟩) ⟨g,0,none⟩ 0 cap _ [] (fun _ _=>undef) rfl (Xby _) (.inl rfl) (by simp) (fun _=>⟨rfl,if_pos rfl,fun k hk=>?_⟩) (by simp) (by simp)
     have jx:k<cur.size:=by omega
     refine⟨cur[k],?_,?_⟩
     ·have hb:((⟨g,0,none⟩:Addr).add k).block=g:=add_block _ _
      have ho:((⟨g,0,none⟩:Addr).add k)=⟨g,k,none⟩:=by unfold Addr.add;split<;>simp_all
      rw[ho];simp[World.cell?,cE,jx]
     ·have ho:((⟨g,0,none⟩:Addr).add k)=⟨g,k,none⟩:=by unfold Addr.add;split<;>simp_all
      rw[ho];simp[fzq,cE]
 ·have he':Fun T1 key ds=some ie:=by
   dsimp only at he;split at he
   ·rename_i sz
    exact absurd ⟨sz,rfl⟩ pr
   ·exact he
  obtain⟨n,hn⟩:=Gag.1 he';exact hK n vals w G ds ie fe hn
def Ca5 (P:Program)(t:TypeId):Option Nat:=match P.info? t with
 | some i => match i.zero with
  |some z=>if z.cells.size=i.size/\0<i.size then some i.size else none
  |none=>none
 |none=>none
noncomputable def Fbq (size:Nat)(T1:Nat->Ent)(key:Nat):List D->Option (List D):=fun ds=>match ds with
 |[.rows _ []]=>some [.rows size []]
 |ds=>Fun T1 key ds
theorem Aba (L:SlLaysE0.n41 P ρ){size m key f:Nat}{T T1:Nat->Ent}{ti:Nat->Option TI}{sigs:List (Nat×Sig)}(hf:ρ.f 41=f)(h:Ca5 P (ρ.t 23)=some size)(z23:∀ w,(Go.sizeOf (ρ.t 23)).run P w=.ok size w)
  (hK:∀ n,vF P T1 n key ⟨f,[(false,[.fz false])],[],[(false,[.ow (m+1)])]⟩) (hT:T key=.ext (Fbq size T1 key)) :
  Waw P T ti sigs key ⟨f,[(false,[.fz false])],[],[(false,[.ow (m+1)])]⟩:=by
 subst hf;unfold Ca5 at h;split at h
 ·rename_i i hi
  split at h
  ·rename_i z hz
   split at h
   ·rename_i h1
    cases h;exact .inr ⟨_,hT,Ebo L hi hz rfl rfl h1.1 h1.2 z23 hK⟩
   ·cases h
  ·cases h
 ·cases h
end
end Go.Proofs.YtgpamlpecmldfaaGreat.Rf
namespace Go.Proofs.YtgpamlpecmldfaaGreat.Rf
open Go.RowKit
section
variable {P:Program}
end
end Go.Proofs.YtgpamlpecmldfaaGreat.Rf
namespace Go.Proofs.YtgpamlpecmldfaaGreat.Rf
section
variable {P:Program}
end
open Go.Proofs Go.Shelf Go.RowKit Go.Lib
section
variable {P:Program} {ρ:Ren}
end
end Go.Proofs.YtgpamlpecmldfaaGreat.Rf
namespace Go.Proofs.YtgpamlpecmldfaaGreat.Rf
def ltQ (p q:Int×Int):Bool:=decide (p.1<q.1)||(p.1==q.1&&decide (p.2<q.2))
theorem wS {p q:Int×Int}:ltQ p q=true↔p.1<q.1\/(p.1=q.1/\p.2<q.2):=by
 unfold ltQ;simp only[Wb9,Vbk,decide_eq_true_eq,beq_iff_eq]
theorem qA {p q:Int×Int}:ltQ p q=false↔q.1<p.1\/(p.1=q.1/\q.2<=p.2):=by
 rw[<- Bool.not_eq_true,wS];omega
theorem Dbm {p q:Int×Int}(h:ltQ p q=false)(h':ltQ q p=false):p=q:=by
 rw[qA]at h h';apply Prod.ext<;>omega
def Gb8 {β:Type}(k:β->Int×Int)(x:β):List β->List β
 |[]=>[x]
 |y::r=>if ltQ (k x) (k y) then x::y::r else y::Gb8 k x r
def Na9 {β:Type}(k:β->Int×Int):List β->List β
 |[]=>[]
 |x::r=>Gb8 k x (Na9 k r)
theorem Haq {β:Type}(k:β->Int×Int)(x:β):∀ l:List β,(Gb8 k x l).Perm (x::l)
 |[]=>.refl _
 | y :: r => by
  unfold Gb8;split
  ·exact .refl _
  ·exact ((Haq k x r).cons y).trans (.swap x y r)
theorem Kad {β:Type}(k:β->Int×Int):∀ l:List β,(Na9 k l).Perm l
 |[]=>.refl _
 |x::r=>(Haq k x _).trans ((Kad k r).cons x)
def Nae {β:Type}(k:β->Int×Int)(l:List β):Prop:=l.Pairwise fun x y=>ltQ (k y) (k x)=false
theorem Hap {β:Type}(k:β->Int×Int)(x:β):∀ {l:List β},Nae k l->Nae k (Gb8 k x l)
 |[],_=>by unfold Gb8 Nae;simp
 | y :: r, h => by
  obtain⟨h1,h2⟩:=Xbg.1 h;unfold Gb8;split
  ·rename_i hx
   refine Xbg.2 ⟨fun z hz=>?_,h⟩;rw[wS]at hx
   rcases Vbu.1 hz with rfl|hz
   ·rw[qA];omega
   ·have:=h1 z hz
    rw[qA]at this ⊢;omega
  ·rename_i hx
   refine Xbg.2 ⟨fun z hz=>?_,Hap k x h2⟩
   rcases Vbu.1 ((Haq k x r).mem_iff.1 hz) with rfl|hz
   ·simpa using hx
   ·exact h1 z hz
theorem Ear {β:Type}(k:β->Int×Int):∀ l:List β,Nae k (Na9 k l)
 |[]=>List.Pairwise.nil
 |x::r=>Hap k x (Ear k r)
def Pbd (p:Int×Int):D:=.rows 1 [[.int .i64 p.1],[.int .i64 p.2]]
section
open Go.Proofs Go.Shelf Go.Sort
variable {P:Program} {ρ:Ren} {own:Nat->Ow} {w:World}
theorem Gae {a:Addr}(h:a.spot=none)(k:Nat):a.add k=⟨a.block,a.off+k,none⟩:=by
 cases a with
 | mk b o s =>
  obtain rfl:s=none:=h;unfold Addr.add;split
  ·rename_i h0;subst h0;rfl
  ·rfl
end
section
open Go.Proofs Go.Shelf Go.Sort
variable {P:Program} {ρ:Ren} {own:Nat->Ow} {w:World}
def Fbz (own:Nat->Ow)(w:World)(v:Value)(p:Int×Int):Prop :=
 ∃ a c,v=.slice (some a) 2 c/\2<=c/\own a.block=.frz/\w.cell? a=some (.int .i64 p.1)/\w.cell? (a.add 1)=some (.int .i64 p.2)
theorem Fbz.rd {v:Value}{p:Int×Int}(h:Fbz own w v p):Rd (fun b=>own b=.frz) w v (Pbd p):=by
 obtain⟨a,c,rfl,hc,ho,h1,h2⟩:=h;have e0:a.add 0=a:=if_pos rfl;refine .rows (some a) a 2 c 1 _ (fun i _=>if i=0 then .int .i64 p.1 else .int .i64 p.2) rfl hc (.inr rfl) (by simp) (fun i r hi j d hj=>?_) (fun i r hi j d hj=>?_)
 ·match i,j with
  |0,0=>exact⟨ho,by simpa[e0] using h1⟩
  |1,0=>exact⟨ho,by simpa using h2⟩
  |0,j+1=>simp at hi;subst hi;simp at hj
  |1,j+1=>simp at hi;subst hi;simp at hj
  |i+2,_=>simp at hi
 ·match i,j with
  |0,0=>simp at hi;subst hi;simp at hj;subst hj;exact .sc (.int _ _)
  |1,0=>simp at hi;subst hi;simp at hj;subst hj;exact .sc (.int _ _)
  |0,j+1=>simp at hi;subst hi;simp at hj
  |1,j+1=>simp at hi;subst hi;simp at hj
  |i+2,_=>simp at hi
end
section
open Go.Proofs Go.Shelf Go.Sort
variable {P:Program} {ρ:Ren} {own:Nat->Ow} {w:World}
end
section
open Go.Proofs Go.Shelf Go.RowKit Go.Lib Go.Sort
variable {P:Program} {ρ:Ren}
set_option maxHeartbeats 4000000 in
set_option maxRecDepth 1000000 in
theorem Sae (L:SlLaysE0.n45 P ρ){K:Nat}{i0:TypeInfo}{z:Value}(kx:P.info? (ρ.t 23)=some i0)(np:i0.zero=some z)(lf:i0.size=K)(qf:z.cells.size=K)(hK:0<K)(hzo:∀ u∈z.cells.toList,u.oneCell'=true)
  (z23:∀ w,(Go.sizeOf (ρ.t 23)).run P w=.ok K w) (kz off n cap i j:Nat) (w:World) (olds:List Value) (xw:olds.length=n*K) (sR:∀ k u,olds[k]?=some u->w.cell? ⟨kz,off+k,none⟩=some u) (ho1:∀ u∈olds,u.oneCell'=true)
  (cT:∀ k,k<cap*K->∃ u,w.cell? ⟨kz,off+k,none⟩=some u/\w.frozen? ⟨kz,off+k,none⟩=false) (vh:n<=cap) (hn:n<=4611686018427387904) (se:i<=j) (hj:j<=n) :
  Calls P (ρ.f 45) #[.slice (some ⟨kz,off,none⟩) n cap,.int .i64 i,.int .i64 j] w fun e w'=>e=.returned (.slice (some ⟨kz,off,none⟩) (n-(j-i)) cap) /\
   ((i=j/\w'=w)\/(i<j/\w'=(w.drew.setCells kz (off+i*K) (olds.drop (j*K))).setCells kz (off+(i+(n-j))*K) (Builtin.zeroCells z.cells (n-(i+(n-j)))).toList)):=by
 have mixed:=L.mixed;have t0:=L.t0;have a0:=L.a0;have z0:=L.z0;have v0:=L.v0;have t3:=L.t3;have a3:=L.a3;have z3:=L.z3;have v3:=L.v3;have t4:=L.t4;have a4:=L.a4;have z4:=L.z4;have v4:=L.v4;have t22:=L.t22;have a22:=L.a22;have z22:=L.z22;have v22:=L.v22
 by_cases heq:i=j
 ·subst heq
  have h0:Calls P (ρ.f 45) #[.slice (some ⟨kz,off,none⟩) n cap,.int .i64 i,.int .i64 i] w fun e w'=>e=.returned (.slice (some ⟨kz,off,none⟩) n cap)/\w'=w:=by
   clear sR ho1 cT xw;obtain⟨_,_,FG⟩:=L.f45
   go_enter FG,SlBodyN.n45_ntmps ρ
   go_wp2
   all_goals (go_ret;exact⟨rfl,rfl⟩)
  refine h0.mono ?_
  rintro e w' ⟨rfl,rfl⟩
  exact⟨by rw[Nat.sub_self,Nat.sub_zero],.inl ⟨rfl,rfl⟩⟩
 ·have bj:i<j:=by omega
  obtain⟨news,mC⟩:∃ news,news=olds.drop (j*K):=⟨_,rfl⟩;have hlen:news.length=(n-j)*K:=by rw[mC,Wb4,xw,Nat.sub_mul]
  have hjc:cap≠j->j<cap:=by omega
  have hmul:∀ a b:Nat,a<=b->a*K<=b*K:=fun a b h=>Wbr K h
  obtain⟨A,hA,lj⟩:∃ A:Addr,(if cap=j then (some (⟨kz,off,none⟩:Addr)) else some ⟨kz,off+j*K,none⟩)=some A/\Hid (∀ t u,news[t]?=some u->w.drew.cell? (A.add t)=some u):=by
   by_cases h:cap=j
   ·refine⟨⟨kz,off,none⟩,by simp[h],fun t u hu=>?_⟩
    have h0:news.length=0:=by rw[hlen,show n-j=0 by omega,Nat.zero_mul]
    rw[List.length_eq_zero_iff.1 h0]at hu;simp at hu
   ·refine⟨⟨kz,off+j*K,none⟩,by simp[h],fun t u hu=>?_⟩
    rw[mC,Wbt]at hu;have:=sR _ u hu;rw[Addr.add_lit,show off+j*K+t=off+(j*K+t) by omega];exact this
  have s1:Hid (news.length=(n-j)*K):=hlen;have s2:Hid (∀ u∈news,u.oneCell'=true):=fun u hu=>ho1 u (Xbj (mC▸hu))
  have eu:i*K+(n-j)*K<=cap*K:=by rw[<- Wb7];exact hmul _ _ (by omega)
  have s3:Hid (∀ t,t<news.length->(w.drew.cell? ⟨kz,off+i*K+t,none⟩).isSome=true/\w.drew.frozen? ⟨kz,off+i*K+t,none⟩=false):=by
   intro t ht;rw[hlen]at ht;obtain⟨u,h1,h2⟩:=cT (i*K+t) (by omega);rw[Vb8];exact⟨by show (w.cell? _).isSome=true;rw[h1];rfl,h2⟩
  obtain⟨W1,pt⟩:∃ W1,W1=w.drew.setCells kz (off+i*K) news:=⟨_,rfl⟩
  have lO:∀ k,k<cap*K->∃ u,W1.cell? ⟨kz,off+k,none⟩=some u/\W1.frozen? ⟨kz,off+k,none⟩=false:=by
   intro k hk;obtain⟨u,h1,h2⟩:=cT k hk;rw[pt];obtain⟨u',h3⟩:=dS (w:=w.drew) (B:=kz) (o:=off+i*K) (vs:=news) (b:=⟨kz,off+k,none⟩) (fun _=>rfl) (fun t ht=>(s3.out t ht).1) h1;exact⟨u',h3,by rw[World.frozen?_setCells];exact h2⟩
  generalize hZ:(Builtin.zeroCells z.cells (n-(i+(n-j)))).toList=Z;have hZl:Z.length=(n-(i+(n-j)))*K:=by rw[<- hZ];simp[Builtin.zeroCells,qf]
  have hZ1:∀ u∈Z,u.oneCell'=true:=by
   intro u hu;rw[<- hZ,Builtin.zeroCells,Array.mem_toList_iff,Array.mem_map]at hu;obtain⟨q,hq,rfl⟩:=hu;have bj:q % z.cells.size<z.cells.size:=Nat.mod_lt _ (by omega);rw[getElem!_pos z.cells _ bj];exact hzo _ (Array.getElem_mem_toList bj)
  have fW:∀ ty,(Builtin.clear_ #[ρ.t 22] ty #[.slice (some ⟨kz,off+(i+(n-j))*K,none⟩) (n-(i+(n-j))) (cap-(i+(n-j)))]).run P W1=.ok (.tuple #[]) (W1.setCells kz (off+(i+(n-j))*K) Z):=by
   intro ty
   have dv:∀ t,t<Z.length->∃ u,W1.cell? ⟨kz,off+(i+(n-j))*K+t,none⟩=some u/\W1.frozen? ⟨kz,off+(i+(n-j))*K+t,none⟩=false:=fun t ht=>by
    have h1:(i+(n-j))*K+(n-(i+(n-j)))*K<=cap*K:=by rw[<- Wb7];exact hmul _ _ (by omega)
    have:=lO ((i+(n-j))*K+t) (by omega);rwa[<- Vb8]at this
   have cA:=run_storeCells_cells (P:=P) kz (off+(i+(n-j))*K) Z 0 W1 (fun t ht=>by obtain⟨u,h1,-⟩:=dv t ht;rw[Wbv,h1];rfl) (fun t ht=>by rw[Wbv];exact (dv t ht).choose_spec.2) hZ1;obtain⟨q,hq⟩:∃ q,n-(i+(n-j))=q+1:=⟨n-(i+(n-j))-1,by omega⟩;rw[hq]at hZ ⊢;simp only[Wbv]at cA;simp[Builtin.clear_,run_underlying t22,mG kx np,hZ,cA]
  have hW:Hid (W1=w.drew.setCells kz (off+i*K) news):=pt;have hn':Hid (news=olds.drop (j*K)):=mC;have hic:i<=cap:=by omega
  have hjc:j<=cap:=by omega
  have hK0:Hid (0<K):=hK;clear pt mC hlen lO cT sR ho1 xw hmul eu hZ hZl hZ1 hK;obtain⟨_,_,FG⟩:=L.f45
  go_enter FG,SlBodyN.n45_ntmps ρ
  go_wp2_with fail
  go_region_law_o (refine step_append_room rfl (.tmp 22) (.tmp 25) (ρ.t 22) rfl (ρ.t 23) i0 K t22 kx lf kz off i cap (by simp[Act.eval,Act.put]) A (n-j) (cap-j) news (by simp[Act.eval,Act.put]) s1.out lj.out s2.out (by omega) s3.out ?_;rw[<- hW.out])
  go_wp2
  go_ret
  refine⟨by rw[show n-(j-i)=i+(n-j) by omega];rfl,.inr ⟨bj,?_⟩⟩;rw[hW.out,hn'.out]
end
section
open Go.Proofs Go.Shelf
variable {P:Program} {ρ:Ren}
def Fbp (K:Nat):List D->Option (List D)
 |[.rows sz rs,.int .i64 i,.int .i64 j]=>if sz=K/\0<=i/\i<=j/\j<=rs.length/\rs.length<=4611686018427387904/\0<rs.length then some [.rows K (rs.take i.toNat++rs.drop j.toNat)] else none
 |_=>none
def Za0 (K i j:Nat):Ow->Ow
 |.slc 0 (k::p)=>if k / K<i then .slc 0 (k::p) else if k / K<j then .frz else .slc 0 ((k-(j-i)*K)::p)
 |o=>o
theorem Ebj {K i j r c:Nat}{p:List Nat}(hK:0<K)(hc:c<K)(h:r<i):Za0 K i j (.slc 0 ((r*K+c)::p))=.slc 0 ((r*K+c)::p):=by
 have e:(r*K+c) / K=r:=by rw[Ybk,Ybr hK,Ybg hc,Wbv]
 simp only[Za0];rw[e,if_pos h]
theorem Zaz {K i j r c:Nat}{p:List Nat}(hK:0<K)(hc:c<K)(se:i<=j)(h:i<=r):Za0 K i j (.slc 0 (((r+(j-i))*K+c)::p))=.slc 0 ((r*K+c)::p):=by
 have e:((r+(j-i))*K+c) / K=r+(j-i):=by rw[Ybk,Ybr hK,Ybg hc,Wbv]
 simp only[Za0];rw[e,if_neg (by omega),if_neg (by omega),Wb7];congr 2;omega
theorem Zay (L:SlLaysE0.n45 P ρ){K m:Nat}{i0:TypeInfo}{z:Value}(kx:P.info? (ρ.t 23)=some i0)(np:i0.zero=some z)(lf:i0.size=K)(qf:z.cells.size=K)(hK:0<K)(hzo:∀ u∈z.cells.toList,u.oneCell'=true)
  (z23:∀ w,(Go.sizeOf (ρ.t 23)).run P w=.ok K w):Eb0 P ⟨ρ.f 45,[(false,[.ow (m+1)]),(false,[.sc]),(false,[.sc])],[],[(false,[.ow (m+1)])]⟩ (Fbp K):=by
 intro vals w G ds ie fe hr;unfold Fbp at hr;split at hr
 case h_2=>cases hr
 rename_i sz rs i j;split at hr
 case isFalse=>cases hr
 rename_i hc;obtain⟨rfl,h0,se,hj,oA,nu⟩:=hc;obtain rfl:=Wbk hr;obtain⟨u,us,vs,rfl,⟨v,uc,rfl,⟨hv,fR⟩,rfl⟩,tM,u2,us2,vs2,rfl,⟨v2,vs3,rfl,gR,rfl⟩,hsh2,u3,us3,vs4,rfl,⟨v3,vs5,rfl,hs3,rfl⟩,hsh3,fx⟩:=fe.params;simp only[Vbm,if_false]at tM hsh2 hsh3;obtain rfl:v=u:=by simpa using tM
 obtain rfl:v2=u2:=by simpa using hsh2
 obtain rfl:v3=u3:=by simpa using hsh3
 simp only[mQ]at fx;subst fx;have yu:Sc v2 (.int .i64 i):=gR;have a7q:Sc v3 (.int .i64 j):=hs3;obtain rfl:=yu.int_inv;obtain rfl:=a7q.int_inv;have we:Rp G.own w 0 [] (m+1) v (.rows sz rs):=fR;obtain⟨A,a,n,c,cv,et,hn,vh,hA,dh,cu,cE,cR⟩:=we.sl_inv
 obtain rfl:A=some a:=by
  rcases hA with h|⟨-,h⟩
  ·exact h
  ·omega
 obtain⟨iy,mj,dv⟩:=cu rfl;have lv:=Gae iy;obtain⟨nm,tv,hfn⟩:=L.f45;refine .inl ⟨nO hfn tv rfl _ _,?_⟩
 have ea:(⟨a.block,a.off,none⟩:Addr)=a:=by
  cases a with
  | mk b o s =>
   obtain rfl:s=none:=iy;rfl
 have tk:=sO dh cE;have fW:(jA cv n sz).length=n*sz:=lT _ _ _
 have vA:∀ r,r<n->∃ row,rs[r]?=some row/\row.length=sz:=fun r hr=>by
  have h1:rs[r]?=some (rs[r]'(by omega)):=Vbq (by omega);exact⟨_,h1,dh _ (Vb3 h1)⟩
 have kf:∀ u∈jA cv n sz,u.oneCell'=true:=by
  intro u hu;obtain⟨k,hk⟩:=Wb8.1 hu;obtain⟨k1,k2,k3,rfl⟩:=zB hk;obtain⟨row,h1,h2⟩:=vA _ k1;have h3:row[k % sz]?=some (row[k % sz]'(by omega)):=Vbq (by omega);exact (cR _ _ h1 _ _ h3).one
 have tn:((i.toNat:Nat):Int)=i:=by omega
 have hej:((j.toNat:Nat):Int)=j:=by omega
 have hW:=Sae L kx np lf qf hK hzo z23 a.block a.off n c i.toNat j.toNat w (jA cv n sz) fW (fun k u hk=>by rw[<- lv];exact tk k u (hn.symm▸hk)) kf (fun k hk=>by rw[<- lv];exact (dv k hk).imp fun u h=>⟨h.1,xG h.2 rfl⟩) vh (by omega) (by omega) (by omega);rw[ea,<- et,tn,hej]at hW;refine hW.mono ?_
 rintro e w' ⟨rfl,hw⟩
 rcases hw with ⟨a4p,rfl⟩|⟨bj,hw⟩
 ·
  refine⟨G,[_],rfl,Faa fe rfl,⟨_,_,_,rfl,⟨_,_,rfl,?_,rfl⟩,rfl,rfl⟩,trivial,trivial⟩;have e1:rs.take i.toNat++rs.drop j.toNat=rs:=by rw[<- a4p];exact List.take_append_drop _ _
  show Rp G.own w' 0 [] (m+1) (.slice (some a) (n-(j.toNat-i.toNat)) c) (.rows sz (rs.take i.toNat++rs.drop j.toNat))
  rw[e1,show n-(j.toNat-i.toNat)=n by omega,<- et];exact we
 ·generalize hI:i.toNat=I at *
  generalize hJ:j.toNat=J at *;have hJn:J<=n:=by omega
  generalize hZ:(Builtin.zeroCells z.cells (n-(I+(n-J)))).toList=Z at hw;have hZl:Z.length=(n-(I+(n-J)))*sz:=by rw[<- hZ];simp[Builtin.zeroCells,qf]
  have hmul:∀ a b:Nat,a<=b->a*sz<=b*sz:=fun a b h=>Wbr sz h
  have vq:((jA cv n sz).drop (J*sz)).length=(n-J)*sz:=by rw[Wb4,fW,Nat.sub_mul]
  generalize mC:(jA cv n sz).drop (J*sz)=news at hw vq;have eu:I*sz+(n-J)*sz<=c*sz:=by rw[<- Wb7];exact hmul _ _ (by omega)
  have hroom2:(I+(n-J))*sz+(n-(I+(n-J)))*sz<=c*sz:=by rw[<- Wb7];exact hmul _ _ (by omega)
  have qj:∀ k,k<c*sz->∃ u,w.cell? ⟨a.block,a.off+k,none⟩=some u/\fzq w ⟨a.block,a.off+k,none⟩=false:=fun k hk=>by rw[<- lv];exact dv k hk
  have oY:∀ t,t<news.length->(w.drew.cell? ⟨a.block,a.off+I*sz+t,none⟩).isSome=true:=fun t ht=>by
   obtain⟨u,h1,-⟩:=qj (I*sz+t) (by omega);rw[<- Vb8]at h1;show (w.cell? _).isSome=true
   rw[h1];rfl
  have u6:∀ k,k<c*sz->∃ u,(w.drew.setCells a.block (a.off+I*sz) news).cell? ⟨a.block,a.off+k,none⟩=some u/\fzq (w.drew.setCells a.block (a.off+I*sz) news) ⟨a.block,a.off+k,none⟩=false:=by
   intro k hk;obtain⟨u,h1,h2⟩:=qj k hk;obtain⟨u',h3⟩:=dS (w:=w.drew) (B:=a.block) (o:=a.off+I*sz) (vs:=news) (b:=⟨a.block,a.off+k,none⟩) (fun _=>rfl) oY h1;exact⟨u',h3,by rw[eZ];exact h2⟩
  have pD:∀ t,t<Z.length->((w.drew.setCells a.block (a.off+I*sz) news).cell? ⟨a.block,a.off+(I+(n-J))*sz+t,none⟩).isSome=true:=fun t ht=>by
   obtain⟨u,h1,-⟩:=u6 ((I+(n-J))*sz+t) (by omega);rw[<- Vb8]at h1;rw[h1];rfl
  have pj:∀ k,k<c*sz->∃ u,w'.cell? ⟨a.block,a.off+k,none⟩=some u/\fzq w' ⟨a.block,a.off+k,none⟩=false:=by
   intro k hk;obtain⟨u,h1,h2⟩:=u6 k hk;rw[hw];obtain⟨u',h3⟩:=dS (B:=a.block) (o:=a.off+(I+(n-J))*sz) (vs:=Z) (b:=⟨a.block,a.off+k,none⟩) (fun _=>rfl) pD h1;exact⟨u',h3,by rw[eZ];exact h2⟩
  have tp:∀ k u,k<I*sz->w.cell? ⟨a.block,a.off+k,none⟩=some u->w'.cell? ⟨a.block,a.off+k,none⟩=some u:=by
   intro k u hk h1;have:I*sz<=(I+(n-J))*sz:=hmul _ _ (by omega);rw[hw,World.cell?_setCells_out _ _ _ _ _ (fun _ _=>.inl (by dsimp only;omega)),World.cell?_setCells_out _ _ _ _ _ (fun _ _=>.inl (by dsimp only;omega))];exact h1
  have a2g:∀ t u,news[t]?=some u->w'.cell? ⟨a.block,a.off+I*sz+t,none⟩=some u:=by
   intro t u ht;have htl:=(Vbn.1 ht).1;have e1:(I+(n-J))*sz=I*sz+(n-J)*sz:=Wb7 _ _ _;rw[hw,World.cell?_setCells_out _ _ _ _ _ (fun _ _=>.inl (by dsimp only;omega)),World.cell?_setCells_in a.block news (a.off+I*sz) w.drew oY t htl,<- ht,Vbq]
  have cP:∀ b,b≠a.block->w'.heap[b]?=w.heap[b]?:=fun b hb=>by
   rw[hw,bI _ _ _ _ _ hb,bI _ _ _ _ _ hb];rfl
  have ox:w'.heap.size=w.heap.size:=by rw[hw,setCells_size,setCells_size];rfl
  have mS:w'.os=w.os/\w'.tape=w.tape/\w'.output=w.output:=by
   obtain⟨q1,q2,q3⟩:=dI a.block Z (a.off+(I+(n-J))*sz) (w.drew.setCells a.block (a.off+I*sz) news);obtain⟨p1,p2,p3⟩:=dI a.block news (a.off+I*sz) w.drew;rw[hw];exact⟨q1.trans p1,q2.trans p2,q3.trans p3⟩
  have yg:∀ b,(∀ p,G.own b≠.slc 0 p)->Za0 sz I J (G.own b)=G.own b:=by
   intro b hb
   cases e:G.own b with
   | slc s p =>
    cases s with
    |zero=>exact absurd e (hb p)
    |succ s=>rfl
   |_=>rfl
  have r9:∀ b,G.own b=.frz->b<w.heap.size->Za0 sz I J (G.own b)=.frz/\w'.heap[b]?=w.heap[b]?:=fun b hb _=>⟨by rw[hb];rfl,cP b fun e=>by rw[e,mj]at hb;cases hb⟩
  have n5:∀ {b k:Nat} {p:List Nat},G.own b=.slc 0 (k::p)->w'.heap[b]?=w.heap[b]?:=fun {b k p} hb=>cP b fun e=>by rw[e,mj]at hb;injection hb with _ hb;cases hb
  refine⟨{ G with own:=fun b=>Za0 sz I J (G.own b) },[_],rfl,⟨mS.1,mS.2.1,mS.2.2,by rw[ox];exact Vb6 _,fun b hb ho=>?_,fun b q hb ho=>?_,fun b hb=>?_⟩,⟨_,_,_,rfl,⟨_,_,rfl,?_,rfl⟩,rfl,rfl⟩,trivial,trivial⟩
  ·change G.own b=_\/G.own b=_ at ho
   refine⟨cP b fun e=>?_,yg b fun p e=>?_⟩
   ·rw[e,mj]at ho;rcases ho with h|h<;>cases h
   ·rw[e]at ho;rcases ho with h|h<;>cases h
  ·exact absurd (fe.cells b q hb ho).1 (Nat.not_lt_zero _)
  ·show Za0 sz I J (G.own b)=.frz
   rw[fe.fresh b (by omega)];rfl
  ·show Rp (fun b=>Za0 sz I J (G.own b)) w' 0 [] (m+1) (.slice (some a) (n-(J-I)) c) (.rows sz (rs.take I++rs.drop J))
   have gj:∀ r row,(rs.take I++rs.drop J)[r]?=some row->(r<I/\rs[r]?=some row)\/(I<=r/\rs[r+(J-I)]?=some row):=by
    intro r row hr;have kg:(rs.take I).length=I:=by rw[Wbh];omega
    rcases Wbc r I with h|h
    ·rw[Vb2 (by omega),Wbw,if_pos h]at hr
     exact .inl ⟨h,hr⟩
    ·rw[Vbz (by omega),kg,Wbt,show J+(r-I)=r+(J-I) by omega]at hr
     exact .inr ⟨h,hr⟩
   refine .sl (some a) a _ c sz _ (fun r q=>if r<I then cv r q else cv (r+(J-I)) q) ?_ (by omega) (.inl rfl) (fun row hr=>?_) (fun _=>⟨iy,?_,fun k hk=>?_⟩) (fun r row hr q d hq=>?_) (fun r row hr q d hq=>?_)
   ·rw[Vbw,Wbh,Wb4];omega
   ·rcases Vb5.1 hr with h|h
    ·exact dh row (Yba h)
    ·exact dh row (Xbj h)
   ·rw[mj];rfl
   ·rw[lv];exact pj k hk
   ·rcases gj r row hr with ⟨h,h1⟩|⟨h,h1⟩
    ·rw[if_pos h]
     have pc:q<sz:=by rw[<- dh row (Vb3 h1)];exact (Vbn.1 hq).1
     have h2:=cE r row h1 q d hq;rw[lv]at h2 ⊢;refine tp _ _ ?_ h2;have:=hmul (r+1) I (by omega);rw[Wb7]at this;omega
    ·rw[if_neg (by omega)]
     have pc:q<sz:=by rw[<- dh row (Vb3 h1)];exact (Vbn.1 hq).1
     have pw:r+(J-I)<n:=by rw[<- hn];exact (Vbn.1 h1).1
     have h3:news[(r-I)*sz+q]?=some (cv (r+(J-I)) q):=by
      rw[<- mC,Wbt,show J*sz+((r-I)*sz+q)=(r+(J-I))*sz+q by rw[<- Vb8,<- Wb7];congr 2;omega];exact nE cv pw pc
     have:=a2g _ _ h3;rw[show a.off+I*sz+((r-I)*sz+q)=a.off+(r*sz+q) by rw[Vb8,<- Vb8 (I*sz),<- Wb7];congr 3;omega,<- lv]at this;exact this
   ·rcases gj r row hr with ⟨h,h1⟩|⟨h,h1⟩
    ·rw[if_pos h]
     have pc:q<sz:=by rw[<- dh row (Vb3 h1)];exact (Vbn.1 hq).1
     have:=(cR r row h1 q d hq).mono' (own':=fun b=>Za0 sz I J (G.own b)) (w':=w') (r':=0) (q:=[r*sz+q]) (q':=[r*sz+q]) r9 [] (by simp) (fun b t hb=>⟨by rw[hb];exact Ebj hK pc h,n5 hb⟩);simpa using this
    ·rw[if_neg (by omega)]
     have pc:q<sz:=by rw[<- dh row (Vb3 h1)];exact (Vbn.1 hq).1
     have:=(cR _ row h1 q d hq).mono' (own':=fun b=>Za0 sz I J (G.own b)) (w':=w') (r':=0) (q:=[(r+(J-I))*sz+q]) (q':=[r*sz+q]) r9 [] (by simp) (fun b t hb=>⟨by rw[hb];exact Zaz hK pc (by omega) h,n5 hb⟩);simpa using this
def Say (P:Program)(t:TypeId):Bool:=match P.info? t with
 | some i => match i.zero with
  |some z=>z.cells.toList.all fun u=>u.oneCell'
  |none=>true
 |none=>true
theorem Wak (L:SlLaysE0.n45 P ρ){K m f key:Nat}{T:Nat->Ent}{ti:Nat->Option TI}{sigs:List (Nat×Sig)}(hf:ρ.f 45=f)(h:Ca5 P (ρ.t 23)=some K)(z23:∀ w,(Go.sizeOf (ρ.t 23)).run P w=.ok K w)
  (lf:Say P (ρ.t 23)=true) (hT:T key=.ext (Fbp K)) :
  Waw P T ti sigs key ⟨f,[(false,[.ow (m+1)]),(false,[.sc]),(false,[.sc])],[],[(false,[.ow (m+1)])]⟩:=by
 subst hf;unfold Ca5 at h;split at h
 ·rename_i i hi
  split at h
  ·rename_i z hz
   split at h
   ·rename_i h1
    cases h
    have h2:(z.cells.toList.all fun u=>u.oneCell')=true:=by
     unfold Say at lf;rw[hi]at lf;dsimp only at lf;rw[hz]at lf;exact lf
    rw[Wbg]at h2;exact .inr ⟨_,hT,Zay L hi hz rfl h1.1 h1.2 h2 z23⟩
   ·cases h
  ·cases h
 ·cases h
end
section
open Go.Proofs Go.Shelf Go.RowKit Go.Lib
variable {P:Program}
theorem yG (w:World)(dT sT ty elem:TypeId){K:Nat}(b o zd a5v:Nat)(a:Addr)(a0b a4z:Nat)(cs:List Value)
  (hu:P.underlying dT=some (.slice elem)) (hs:(P.info? elem).map (·.size)=some K) (hn:cs.length=Nat.min a0b zd*K)
  (lj:∀ j v,cs[j]?=some v->w.cell? (a.add j)=some v) (hc:∀ j,j<cs.length->(w.cell? ⟨b,o+j,none⟩).isSome=true) (hf:∀ j,j<cs.length->w.frozen? ⟨b,o+j,none⟩=false) (h1:∀ v∈cs,v.oneCell'=true) :
  (Builtin.copy_ #[dT,sT] ty #[.slice (some ⟨b,o,none⟩) zd a5v,.slice (some a) a0b a4z]).run P w=.ok (goInt (Nat.min a0b zd)) (w.setCells b o cs):=by
 have hl:=run_loadCells_list (P:=P) w a cs lj;have cA:=run_storeCells_cells (P:=P) b o cs 0 w (by simpa using hc) (by simpa using hf) h1
 cases hq:P.info? elem with
 |none=>simp[hq]at hs
 | some i =>
  have hi:i.size=K:=by simpa[hq] using hs
  simp[Builtin.copy_,run_underlying hu,Builtin.lenOf,Builtin.firstCells,sizeOf,typeInfo,hq,hi,<- hn,hl,cA]
structure Ia7 (w w':World) (A:Option Addr) (n cap K:Nat) (news:List Value) (B o:Nat):Prop where
 le:n+1<=cap
 place:(A=some ⟨B,o,none⟩/\w'.heap.size=w.heap.size/\∀ b,b≠B->w'.heap[b]?=w.heap[b]?)\/(B=w.heap.size/\w'.heap.size=w.heap.size+1/\∀ b,b<w.heap.size->w'.heap[b]?=w.heap[b]?)
 cell:∀ k u,news[k]?=some u->w'.cell? ⟨B,o+k,none⟩=some u
 all:∀ k,k<cap*K->∃ u,w'.cell? ⟨B,o+k,none⟩=some u
 fz:fzq w' ⟨B,o,none⟩=false
 rest:w'.os=w.os/\w'.tape=w.tape/\w'.output=w.output
def Sav (P:Program)(f K:Nat):Prop :=
 ∀ (A:Option Addr) (n c i vb eW vc:Nat) (cs vs:List Value) (w:World),i<=n->n<=c->n<=100000000000->cs.length=n*K->vs.length=K->(∀ u∈cs,u.oneCell'=true)->(∀ u∈vs,u.oneCell'=true) ->
  (A=none->c=0)->(∀ a,A=some a->a.spot=none/\a.block≠vb/\(0<c->fzq w a=false)/\(∀ k u,cs[k]?=some u->w.cell? ⟨a.block,a.off+k,none⟩=some u)/\∀ k,k<c*K->∃ u,w.cell? ⟨a.block,a.off+k,none⟩=some u) ->
  (∀ k u,vs[k]?=some u->w.cell? ⟨vb,eW+k,none⟩=some u)->fzq w ⟨vb,eW,none⟩=false ->
  Calls P f #[.slice A n c,.int .i64 i,.slice (some ⟨vb,eW,none⟩) 1 vc] w fun e w' =>
   ∃ B o cap,e=.returned (.slice (some ⟨B,o,none⟩) (n+1) cap)/\Ia7 w w' A n cap K (cs.take (i*K)++vs++cs.drop (i*K)) B o
end
section
open Go.Proofs Go.Shelf
variable {P:Program}
def Fbh (K:Nat):List D->Option (List D)
 |[.rows sz rs,.int .i64 i,.rows nk [row]]=>if sz=K/\nk=K/\0<=i/\i<=rs.length/\rs.length<=100000000000 then some [.rows K (rs.take i.toNat++row::rs.drop i.toNat)] else none
 |_=>none
def Qan (K i:Nat):Ow->Ow
 |.slc 0 []=>.frz
 |.slc 0 (k::p)=>if k / K<i then .slc 0 (k::p) else .slc 0 ((k+K)::p)
 |.slc 1 []=>.frz
 |.slc 1 (k::p)=>.slc 0 ((i*K+k)::p)
 |o=>o
theorem Dby {K i r c:Nat}{p:List Nat}(hK:0<K)(hc:c<K)(h:r<i):Qan K i (.slc 0 ((r*K+c)::p))=.slc 0 ((r*K+c)::p):=by
 have e:(r*K+c) / K=r:=by rw[Ybk,Ybr hK,Ybg hc,Wbv]
 simp only[Qan];rw[e,if_pos h]
theorem Ya6 {K i r c:Nat}{p:List Nat}(hK:0<K)(hc:c<K)(h:i<=r):Qan K i (.slc 0 ((r*K+c)::p))=.slc 0 (((r+1)*K+c)::p):=by
 have e:(r*K+c) / K=r:=by rw[Ybk,Ybr hK,Ybg hc,Wbv]
 simp only[Qan];rw[e,if_neg (by omega),Wb7];congr 2;omega
theorem Lbb {f K m : Nat} {fn : Func} {cd : Code} (hf : P.funcs[f]? = some fn) (hname : (fn.name == "runtime.NumGoroutine") = false) (hb : fn.body = some cd) (hK : 0 < K) (W : Sav P f K) :
  Eb0 P ⟨f,[(false,[.ow (m+1)]),(false,[.sc]),(false,[.ow (m+1)])],[],[(false,[.ow (m+1)])]⟩ (Fbh K):=by
 intro vals w G ds ie fe hr;unfold Fbh at hr;split at hr
 case h_2=>cases hr
 rename_i sz rs i nk row0;split at hr
 case isFalse=>cases hr
 rename_i hc;obtain⟨lf,nj,h0,hi,oA⟩:=hc;replace lf:=lf.symm;replace nj:=nj.symm;subst lf nj;obtain rfl:=Wbk hr;obtain⟨u,us,vs,rfl,⟨v,uc,rfl,⟨hv,fR⟩,rfl⟩,tM,u2,us2,vs2,rfl,⟨v2,vs3,rfl,gR,rfl⟩,hsh2,u3,us3,vs4,rfl,⟨v3,vs5,rfl,⟨hv3,a5m⟩,rfl⟩,hsh3,fx⟩:=fe.params;simp only[Vbm,if_false]at tM hsh2 hsh3;obtain rfl:v=u:=by simpa using tM
 obtain rfl:v2=u2:=by simpa using hsh2
 obtain rfl:v3=u3:=by simpa using hsh3
 simp only[mQ]at fx;subst fx;have yu:Sc v2 (.int .i64 i):=gR;obtain rfl:=yu.int_inv;have we:Rp G.own w 0 [] (m+1) v (.rows K rs):=fR;have a2p:Rp G.own w 1 [] (m+1) v3 (.rows K [row0]):=a5m;obtain⟨A,a,n,c,cv,et,hn,vh,hA,dh,cu,cE,cR⟩:=we.sl_inv;obtain⟨A3,b,n3,c3,vv,a2m,hn3,hcap3,hA3,yj,a1k,yh,xu⟩:=a2p.sl_inv;obtain rfl:1=n3:=hn3
 obtain rfl:A3=some b:=by
  rcases hA3 with h|⟨-,h⟩
  ·exact h
  ·omega
 obtain⟨sw,a4k,uo⟩:=a1k rfl;have xp:=Gae sw
 have ea3:(⟨b.block,b.off,none⟩:Addr)=b:=by
  cases b with
  | mk b o s =>
   obtain rfl:s=none:=sw;rfl
 have pw:row0.length=K:=yj row0 (by simp);have fW:(jA cv n K).length=n*K:=lT _ _ _;have a1x:(jA vv 1 K).length=K:=by rw[lT,Nat.one_mul]
 have kf:∀ (cv:Nat->Nat->Value) (rs:List (List D)) (r:Nat),(∀ r∈rs,r.length=K)->(∀ i row,rs[i]?=some row->∀ j d,row[j]?=some d->Rp G.own w r ([]++[i*K+j]) m (cv i j) d)->∀ u∈jA cv rs.length K,u.oneCell'=true:=by
  intro cv rs r dh cR u hu;obtain⟨k,hk⟩:=Wb8.1 hu;obtain⟨k1,k2,k3,rfl⟩:=zB hk;have h1:rs[k / K]?=some (rs[k / K]'(by omega)):=Vbq (by omega);have h2:=dh _ (Vb3 h1);have h3:(rs[k / K]'(by omega))[k % K]?=some ((rs[k / K]'(by omega))[k % K]'(by omega)):=Vbq (by omega);exact (cR _ _ h1 _ _ h3).one
 have tn:((i.toNat:Nat):Int)=i:=by omega
 refine .inl ⟨nO hf hname hb _ _,?_⟩
 have hW:=W A n c i.toNat b.block b.off c3 (jA cv n K) (jA vv 1 K) w (by omega) vh (by omega) fW a1x (hn▸kf cv rs 0 dh cR) (kf vv [row0] 1 yj xu) (fun e=>by
   rcases hA with h|⟨-,h⟩
   ·rw[h]at e;cases e
   ·exact h) (fun a' e=>by
   obtain rfl:a=a':=by
    rcases hA with h|⟨h,-⟩
    ·exact Wbk (h.symm.trans e)
    ·rw[h]at e;cases e
   obtain⟨iy,mj,dv⟩:=cu e;have lv:=Gae iy;refine⟨iy,fun e=>?_,fun hc=>?_,fun k u hk=>?_,fun k hk=>?_⟩
   ·rw[e,a4k]at mj
    injection mj with h1 _
    cases h1
   ·obtain⟨u,-,hu⟩:=dv 0 (Nat.mul_pos hc hK)
    rw[lv]at hu;exact hu
   ·rw[<- lv]
    exact sO dh cE k u (hn.symm▸hk)
   ·obtain⟨u,hu,-⟩:=dv k hk
    rw[<- lv]
    exact⟨u,hu⟩) (fun k u hk=>by rw[<- xp];exact sO yj yh k u hk) (by
   obtain⟨u,-,hu⟩:=uo 0 (Nat.mul_pos (by omega) hK);rw[xp]at hu;exact hu)
 have ev3:v3=.slice (some ⟨b.block,b.off,none⟩) 1 c3:=by rw[ea3];exact a2m
 rw[<- et,tn,<- ev3]at hW;refine hW.mono ?_
 rintro e w' ⟨B,o,cap,rfl,D⟩
 generalize hI:i.toNat=I at *;have hIn:I<=n:=by omega
 have a1o:∀ x,B≠x\/G.own x=.slc 0 []\/w.heap.size<=x:=by
  intro x
  rcases D.place with ⟨hp,-⟩|⟨hp,-⟩
  ·by_cases hx:B=x
   ·obtain⟨-,mj,-⟩:=cu (show A=some a by
     rcases hA with h|⟨h,-⟩
     ·exact h
     ·rw[h]at hp;cases hp)
    have:a=⟨B,o,none⟩:=by
     rcases hA with h|⟨h,-⟩
     ·exact Wbk (h.symm.trans hp)
     ·rw[h]at hp;cases hp
    rw[this]at mj;exact .inr (.inl (hx▸mj))
   ·exact .inl hx
  ·by_cases hx:B=x
   ·exact .inr (.inr (by omega))
   ·exact .inl hx
 have hBlt:B<w'.heap.size:=by
  obtain⟨u,hu⟩:=D.all 0 (Nat.mul_pos (by have:=D.le;omega) hK);exact block_lt_of_cell hu
 have tD:w.heap.size<=w'.heap.size:=by
  rcases D.place with ⟨-,h,-⟩|⟨-,h,-⟩<;>omega
 have cP:∀ x,x<w.heap.size->G.own x≠.slc 0 []->w'.heap[x]?=w.heap[x]?:=fun x hx ho=>by
  rcases D.place with ⟨-,-,h⟩|⟨-,-,h⟩
  ·refine h x fun e=>?_
   rcases a1o x with h1|h1|h1
   ·exact h1 e.symm
   ·exact ho h1
   ·omega
  ·exact h x hx
 have bj:∀ x,G.own x≠.frz->x<w.heap.size:=fun x h=>by
  rcases Wbc x w.heap.size with h1|h1
  ·exact h1
  ·exact absurd (fe.fresh x h1) h
 have fb:∀ x,x<w.heap.size->G.own x≠.slc 0 []->(if x=B then Ow.slc 0 [] else Qan K I (G.own x))=Qan K I (G.own x):=fun x hx ho=>by
  rw[if_neg];intro e
  rcases a1o x with h|h|h
  ·exact h e.symm
  ·exact ho h
  ·omega
 have r9:∀ x,G.own x=.frz->x<w.heap.size->(if x=B then Ow.slc 0 [] else Qan K I (G.own x))=.frz/\w'.heap[x]?=w.heap[x]?:=fun x hx hl=>by
  have cU:G.own x≠.slc 0 []:=by rw[hx];exact fun h=>by cases h
  exact⟨by rw[fb x hl cU,hx];rfl,cP x hl cU⟩
 have n5:∀ {x r k:Nat} {p:List Nat},G.own x=.slc r (k::p)->(if x=B then Ow.slc 0 [] else Qan K I (G.own x))=Qan K I (.slc r (k::p))/\w'.heap[x]?=w.heap[x]?:=fun {x r k p} hx=>by
  have cU:G.own x≠.slc 0 []:=by rw[hx];exact fun h=>by injection h with _ h;cases h
  have hl:=bj x (by rw[hx];exact fun h=>by cases h);exact⟨by rw[fb x hl cU,hx],cP x hl cU⟩
 refine⟨{ G with own:=fun x=>if x=B then .slc 0 [] else Qan K I (G.own x) },[_],rfl,⟨D.rest.1,D.rest.2.1,D.rest.2.2,tD,fun x hx ho=>?_,fun x q hx ho=>?_,fun x hx=>?_⟩,⟨_,_,_,rfl,⟨_,_,rfl,?_,rfl⟩,rfl,rfl⟩,trivial,trivial⟩
 ·change G.own x=_\/G.own x=_ at ho
  have cU:G.own x≠.slc 0 []:=by rcases ho with h|h<;>rw[h]<;>exact fun h=>by cases h
  refine⟨cP x hx cU,?_⟩;show (if x=B then Ow.slc 0 [] else Qan K I (G.own x))=G.own x
  rw[fb x hx cU]
  rcases ho with h|h<;>rw[h]<;>rfl
 ·exact absurd (fe.cells x q hx ho).1 (Nat.not_lt_zero _)
 ·show (if x=B then Ow.slc 0 [] else Qan K I (G.own x))=.frz
  rw[if_neg (by omega),fe.fresh x (by omega)];rfl
 ·show Rp (fun x=>if x=B then .slc 0 [] else Qan K I (G.own x)) w' 0 [] (m+1) (.slice (some ⟨B,o,none⟩) (n+1) cap) (.rows K (rs.take I++row0::rs.drop I))
  have lv:∀ k,(⟨B,o,none⟩:Addr).add k=⟨B,o+k,none⟩:=fun k=>Gae (a:=⟨B,o,none⟩) rfl k
  have gj:∀ r row,(rs.take I++row0::rs.drop I)[r]?=some row->(r<I/\rs[r]?=some row)\/(r=I/\row=row0)\/(I<r/\rs[r-1]?=some row):=by
   intro r row hr;have kg:(rs.take I).length=I:=by rw[Wbh];omega
   rcases Nat.lt_trichotomy r I with h|h|h
   ·rw[Vb2 (by omega),Wbw,if_pos h]at hr
    exact .inl ⟨h,hr⟩
   ·subst h
    rw[Vbz (by omega),kg,Nat.sub_self,List.getElem?_cons_zero]at hr;exact .inr (.inl ⟨rfl,(Wbk hr).symm⟩)
   ·rw[Vbz (by omega),kg,show r-I=(r-I-1)+1 by omega,List.getElem?_cons_succ,Wbt,show I+(r-I-1)=r-1 by omega]at hr
    exact .inr (.inr ⟨h,hr⟩)
  have hIK:I*K<=n*K:=Wbr K hIn;have a1t:((jA cv n K).take (I*K)).length=I*K:=by rw[Wbh,fW];omega
  refine .sl (some ⟨B,o,none⟩) ⟨B,o,none⟩ _ cap K _ (fun r q=>if r<I then cv r q else if r=I then vv 0 q else cv (r-1) q) ?_ D.le (.inl rfl) (fun row hr=>?_) (fun _=>⟨rfl,if_pos rfl,fun k hk=>?_⟩) (fun r row hr q d hq=>?_) (fun r row hr q d hq=>?_)
  ·rw[Vbw,Wbh,Wbb,Wb4];omega
  ·rcases Vb5.1 hr with h|h
   ·exact dh row (Yba h)
   ·rcases Vbu.1 h with h|h
    ·rw[h];exact pw
    ·exact dh row (Xbj h)
  ·obtain⟨u,hu⟩:=D.all k hk
   rw[lv];refine⟨u,hu,?_⟩;have:=D.fz;unfold fzq at this ⊢;exact this
  ·rw[lv]
   refine D.cell _ _ ?_
   rcases gj r row hr with ⟨h,h1⟩|⟨h,h1⟩|⟨h,h1⟩
   ·rw[if_pos h]
    have pc:q<K:=by rw[<- dh row (Vb3 h1)];exact (Vbn.1 hq).1
    have h2:=Wbr K (show r+1<=I by omega);rw[Wb7]at h2;rw[Vbx,Vb2 (by omega),Wbw,if_pos (by omega)];exact nE cv (by omega) pc
   ·subst h h1
    rw[if_neg (by omega),if_pos rfl];have pc:q<K:=by rw[<- pw];exact (Vbn.1 hq).1
    rw[Vbx,Vbz (by omega),a1t,Nat.add_sub_cancel_left,Vb2 (by omega)];have:=nE vv (n:=1) (i:=0) (by omega) pc;rwa[Nat.zero_mul,Wbj]at this
   ·rw[if_neg (by omega),if_neg (by omega)]
    have pc:q<K:=by rw[<- dh row (Vb3 h1)];exact (Vbn.1 hq).1
    have oi:r-1<n:=by rw[<- hn];exact (Vbn.1 h1).1
    have h2:=Wbr K (show I+1<=r by omega);rw[Wb7]at h2;rw[Vbx,Vbz (by omega),a1t,Vbz (by omega),a1x,Wbt]
    have e1:I*K+(r*K+q-I*K-K)=(r-1)*K+q:=by
     rw[Nat.sub_mul];omega
    rw[e1];exact nE cv oi pc
  ·rcases gj r row hr with ⟨h,h1⟩|⟨h,h1⟩|⟨h,h1⟩
   ·rw[if_pos h]
    have pc:q<K:=by rw[<- dh row (Vb3 h1)];exact (Vbn.1 hq).1
    have:=(cR r row h1 q d hq).mono' (own':=fun x=>if x=B then .slc 0 [] else Qan K I (G.own x)) (w':=w') (r':=0) (q:=[r*K+q]) (q':=[r*K+q]) r9 [] (by simp) (fun x t hx=>⟨(n5 hx).1.trans (Dby hK pc h),(n5 hx).2⟩);simpa using this
   ·subst h h1
    rw[if_neg (by omega),if_pos rfl];have pc:q<K:=by rw[<- pw];exact (Vbn.1 hq).1
    have:=(xu 0 row rfl q d hq).mono' (own':=fun x=>if x=B then .slc 0 [] else Qan K r (G.own x)) (w':=w') (r':=0) (q:=[0*K+q]) (q':=[r*K+q]) r9 [] (by simp) (fun x t hx=>⟨(n5 hx).1.trans (by rw[Nat.zero_mul,Wbj];rfl),(n5 hx).2⟩);simpa using this
   ·rw[if_neg (by omega),if_neg (by omega)]
    have pc:q<K:=by rw[<- dh row (Vb3 h1)];exact (Vbn.1 hq).1
    have:=(cR _ row h1 q d hq).mono' (own':=fun x=>if x=B then .slc 0 [] else Qan K I (G.own x)) (w':=w') (r':=0) (q:=[(r-1)*K+q]) (q':=[r*K+q]) r9 [] (by simp) (fun x t hx=>⟨(n5 hx).1.trans (by rw[List.singleton_append,Ya6 hK pc (by omega),show r-1+1=r by omega];rfl),(n5 hx).2⟩);simpa using this
theorem Gb7 {f K m key : Nat} {fn : Func} {cd : Code} {T : Nat -> Ent} {ti : Nat -> Option TI} {sigs : List (Nat × Sig)} (hf : P.funcs[f]? = some fn) (hname : (fn.name == "runtime.NumGoroutine") = false) (hb : fn.body = some cd) (hK : 0 < K) (W : Sav P f K) (hT : T key = .ext (Fbh K)) :
  Waw P T ti sigs key ⟨f,[(false,[.ow (m+1)]),(false,[.sc]),(false,[.ow (m+1)])],[],[(false,[.ow (m+1)])]⟩:=.inr ⟨_,hT,Lbb hf hname hb hK W⟩
end
section
open Go.Proofs Go.Shelf Go.RowKit Go.Lib
variable {P:Program}
theorem Ca7 {w:World}{b o:Nat}{vs:List Value}(h:∀ j,j<vs.length->(w.cell? ⟨b,o+j,none⟩).isSome=true){k:Nat}{u:Value}(hk:vs[k]?=some u):(w.setCells b o vs).cell? ⟨b,o+k,none⟩=some u:=by
 have hl:=(Vbn.1 hk).1;rw[World.cell?_setCells_in b vs o w h k hl];rw[<- hk,Vbq hl]
theorem qK {w:World}{b o k:Nat}{vs:List Value}(h:k<o\/o+vs.length<=k):(w.setCells b o vs).cell? ⟨b,k,none⟩=w.cell? ⟨b,k,none⟩ :=
 World.cell?_setCells_out b vs o w _ fun _ _=>h
theorem Bao {w:World}{b o:Nat}{v:Value}(h:w.cell? ⟨b,o,none⟩=some v):∃ t k,w.shape? b=some (t,k)/\k≠0:=by
 unfold World.cell? at h;unfold World.shape?;simp only at h
 cases hb:w.heap[b]? with
 |none=>rw[hb]at h;cases h
 | some o' =>
  rw[hb]at h
  cases o' with
  | cells c e fr =>
   refine⟨e,c.size,rfl,fun hz=>?_⟩;have:c=#[]:=Array.eq_empty_of_size_eq_zero hz;subst this;simp at h
  |_=>simp at h
theorem Ea8 {w:World}(c:Array Value)(t:TypeId)(o:Nat):fzq (w.alloc (.cells c t)) ⟨w.heap.size,o,none⟩=false:=by
 unfold fzq World.alloc;simp
theorem Ya1 {w w':World}{b o n c i K:Nat}{cs vs:List Value}(hi:i<n)(eu:n+1<=c)(fW:cs.length=n*K)(mb:vs.length=K)(kc:fzq w ⟨b,o,none⟩=false)
  (lh:∀ k u,cs[k]?=some u->w.cell? ⟨b,o+k,none⟩=some u) (cT:∀ k,k<c*K->∃ u,w.cell? ⟨b,o+k,none⟩=some u)
  (hw:w'=(w.drew.setCells b (o+(i+1)*K) (cs.drop (i*K))).setCells b (o+i*K) vs) :
  Ia7 w w' (some ⟨b,o,none⟩) n c K (cs.take (i*K)++vs++cs.drop (i*K)) b o:=by
 have hIK:(i+1)*K=i*K+K:=Yb5 i K;have zf:(n+1)*K<=c*K:=Wbr K eu;have gm:(i+1)*K<=n*K:=Wbr K hi;rw[Yb5]at zf;have oe:(cs.drop (i*K)).length=n*K-i*K:=by rw[Wb4,fW]
 have oY:∀ j,j<(cs.drop (i*K)).length->(w.drew.cell? ⟨b,o+(i+1)*K+j,none⟩).isSome=true:=fun j hj=>by
  obtain⟨u,hu⟩:=cT ((i+1)*K+j) (by omega);rw[<- Vb8]at hu;show (w.cell? _).isSome=true
  rw[hu];rfl
 have lO:∀ k,k<c*K->∃ u,(w.drew.setCells b (o+(i+1)*K) (cs.drop (i*K))).cell? ⟨b,o+k,none⟩=some u:=fun k hk=>by
  obtain⟨u,hu⟩:=cT k hk;exact dS (w:=w.drew) (fun _=>rfl) oY hu
 have pD:∀ j,j<vs.length->((w.drew.setCells b (o+(i+1)*K) (cs.drop (i*K))).cell? ⟨b,o+i*K+j,none⟩).isSome=true:=fun j hj=>by
  obtain⟨u,hu⟩:=lO (i*K+j) (by omega);rw[<- Vb8]at hu;rw[hu];rfl
 subst hw;refine⟨eu,.inl ⟨rfl,?_,fun x hx=>?_⟩,fun k u hk=>?_,fun k hk=>?_,?_,?_⟩
 ·rw[setCells_size,setCells_size];rfl
 ·rw[bI _ _ _ _ _ hx,bI _ _ _ _ _ hx];rfl
 ·have kg:(cs.take (i*K)).length=i*K:=by rw[Wbh];omega
  rcases Wbc k (i*K) with h|h
  ·rw[Vbx,Vb2 (by omega),Wbw,if_pos h]at hk
   rw[qK (by omega),qK (by omega)];exact lh k u hk
  ·rcases Wbc k (i*K+K) with h2|h2
   ·rw[Vbx,Vbz (by omega),kg,Vb2 (by omega)]at hk
    have:=Ca7 pD hk;rwa[show o+i*K+(k-i*K)=o+k by omega]at this
   ·rw[Vbz (by rw[Vbw];omega),Vbw,kg,mb]at hk
    have:=Ca7 oY hk;rw[qK (by omega)];rwa[show o+(i+1)*K+(k-(i*K+K))=o+k by omega]at this
 ·obtain⟨u,hu⟩:=lO k hk
  exact dS (fun _=>rfl) pD hu
 ·rw[eZ,eZ];exact kc
 ·have h1:=dI b vs (o+i*K) (w.drew.setCells b (o+(i+1)*K) (cs.drop (i*K)))
  have h2:=dI b (cs.drop (i*K)) (o+(i+1)*K) w.drew;exact⟨h1.1.trans h2.1,h1.2.1.trans h2.2.1,h1.2.2.trans h2.2.2⟩
theorem Oa8 {w w':World}{b o n c K:Nat}{cs vs:List Value}(eu:n+1<=c)(fW:cs.length=n*K)(mb:vs.length=K)(kc:fzq w ⟨b,o,none⟩=false)
  (lh:∀ k u,cs[k]?=some u->w.cell? ⟨b,o+k,none⟩=some u) (cT:∀ k,k<c*K->∃ u,w.cell? ⟨b,o+k,none⟩=some u)
  (hw:w'=w.setCells b (o+n*K) vs) :
  Ia7 w w' (some ⟨b,o,none⟩) n c K (cs.take (n*K)++vs++cs.drop (n*K)) b o:=by
 have zf:(n+1)*K<=c*K:=Wbr K eu;rw[Yb5]at zf
 have hex:∀ j,j<vs.length->(w.cell? ⟨b,o+n*K+j,none⟩).isSome=true:=fun j hj=>by
  obtain⟨u,hu⟩:=cT (n*K+j) (by omega);rw[<- Vb8]at hu;rw[hu];rfl
 rw[<- fW,Xbt,List.drop_length,Wbo];subst hw;refine⟨eu,.inl ⟨rfl,?_,fun x hx=>?_⟩,fun k u hk=>?_,fun k hk=>?_,?_,dI b vs _ w⟩
 ·rw[setCells_size]
 ·rw[bI _ _ _ _ _ hx]
 ·rcases Wbc k (n*K) with h|h
  ·rw[Vb2 (by omega)]at hk
   rw[qK (by omega)];exact lh k u hk
  ·rw[Vbz (by omega),fW]at hk
   have:=Ca7 hex hk;rwa[show o+n*K+(k-n*K)=o+k by omega]at this
 ·obtain⟨u,hu⟩:=cT k hk
  exact dS (fun _=>rfl) hex hu
 ·rw[eZ];exact kc
theorem Oa9 {w w':World}{A:Option Addr}{n G K:Nat}{cs vs:List Value}{zs:Array Value}{t:TypeId}(hG:n+1<=G)(fW:cs.length=n*K)(mb:vs.length=K)(hz:zs.size=(G-(n+1))*K)
  (hw:w'=w.drew.alloc (.cells ((cs++vs).toArray++zs) t)) :
  Ia7 w w' A n G K (cs.take (n*K)++vs++cs.drop (n*K)) w.heap.size 0:=by
 have hl:(cs++vs).length=(n+1)*K:=by rw[Vbw,fW,mb,Yb5]
 have hs:((cs++vs).toArray++zs).size=G*K:=by
  rw[Yb9,Ybs,hl,hz,<- Wb7];congr 1;omega
 rw[show cs.take (n*K)++vs++cs.drop (n*K)=cs++vs by rw[<- fW,Xbt,List.drop_length,Wbo]];subst hw;refine⟨hG,.inr ⟨rfl,?_,fun x hx=>?_⟩,fun k u hk=>?_,fun k hk=>?_,Ea8 (w:=w.drew) _ _ _,rfl,rfl,rfl⟩
 ·show (w.heap.push _).size=_;rw[Array.size_push]
 ·show (w.heap.push _)[x]?=_;rw[Ybo];rw[if_neg (by omega)]
 ·have bj:=(Vbn.1 hk).1
  rw[World.cell?_alloc_at (w:=w.drew) _ _ w.heap.size _ rfl,Wbj,Ybm (by rw[Ybs];exact bj)];simpa using hk
 ·rw[World.cell?_alloc_at (w:=w.drew) _ _ w.heap.size _ rfl,Wbj]
  exact⟨_,Wbq (by omega)⟩
theorem Dbx {w w':World}{A:Option Addr}{n G i K:Nat}{cs vs:List Value}{z1 z2:Array Value}{t:TypeId}(hi:i<n)(hG:n+1<=G)(fW:cs.length=n*K)(mb:vs.length=K)(h1:z1.size=(n+1-i)*K)(h2:z2.size=(G-(n+1))*K)
  (hw:w'=(((w.alloc (.cells ((cs.take (i*K)).toArray++z1++z2) t)).drew.setCells w.heap.size (i*K) vs).drew).setCells w.heap.size ((i+1)*K) (cs.drop (i*K))) :
  Ia7 w w' A n G K (cs.take (i*K)++vs++cs.drop (i*K)) w.heap.size 0:=by
 have hIK:(i+1)*K=i*K+K:=Yb5 i K;have gm:(i+1)*K<=n*K:=Wbr K hi;have hnG:(n+1)*K<=G*K:=Wbr K hG;have hnK:(n+1)*K=n*K+K:=Yb5 n K;have htl:(cs.take (i*K)).length=i*K:=by rw[Wbh];omega
 have oe:(cs.drop (i*K)).length=n*K-i*K:=by rw[Wb4,fW]
 have hs:((cs.take (i*K)).toArray++z1++z2).size=G*K:=by
  rw[Yb9,Yb9,Ybs,htl,h1,h2,<- Wb7,<- Wb7];congr 1;omega
 generalize hR:(cs.take (i*K)).toArray++z1++z2=R at *
 have tp:∀ k u,k<i*K->cs[k]?=some u->R[k]?=some u:=fun k u hk h=>by
  rw[<- hR,Array.append_assoc,Ybm (by rw[Ybs,htl];exact hk)];rw[List.getElem?_toArray,Wbw,if_pos hk];exact h
 have wo:∀ k,k<G*K->∃ u,((w.alloc (.cells R t)).drew).cell? ⟨w.heap.size,k,none⟩=some u:=fun k hk=>by
  show ∃ u,(w.alloc (.cells R t)).cell? ⟨w.heap.size,k,none⟩=some u
  rw[World.cell?_alloc_at _ _ _ _ rfl];exact⟨_,Wbq (by omega)⟩
 have oY:∀ j,j<vs.length->(((w.alloc (.cells R t)).drew).cell? ⟨w.heap.size,i*K+j,none⟩).isSome=true:=fun j hj=>by
  obtain⟨u,hu⟩:=wo (i*K+j) (by omega);rw[hu];rfl
 have lO:∀ k,k<G*K->∃ u,(((w.alloc (.cells R t)).drew.setCells w.heap.size (i*K) vs).drew).cell? ⟨w.heap.size,k,none⟩=some u:=fun k hk=>by
  obtain⟨u,hu⟩:=wo k hk;exact dS (w:=(w.alloc (.cells R t)).drew) (fun _=>rfl) oY hu
 have pD:∀ j,j<(cs.drop (i*K)).length->((((w.alloc (.cells R t)).drew.setCells w.heap.size (i*K) vs).drew).cell? ⟨w.heap.size,(i+1)*K+j,none⟩).isSome=true:=fun j hj=>by
  obtain⟨u,hu⟩:=lO ((i+1)*K+j) (by omega);rw[hu];rfl
 subst hw;refine⟨hG,.inr ⟨rfl,?_,fun x hx=>?_⟩,fun k u hk=>?_,fun k hk=>?_,?_,?_⟩
 ·rw[setCells_size]
  show (((w.alloc (.cells R t)).drew.setCells w.heap.size (i*K) vs)).heap.size=_
  rw[setCells_size];show (w.heap.push _).size=_;rw[Array.size_push]
 ·rw[bI _ _ _ _ _ (by omega)]
  show (((w.alloc (.cells R t)).drew.setCells w.heap.size (i*K) vs)).heap[x]?=_
  rw[bI _ _ _ _ _ (by omega)];show (w.heap.push _)[x]?=_;rw[Ybo];rw[if_neg (by omega)]
 ·rw[Wbj]
  rcases Wbc k (i*K) with h|h
  ·rw[Vbx,Vb2 (by omega),Wbw,if_pos h]at hk
   rw[qK (by omega)];show ((w.alloc (.cells R t)).drew.setCells w.heap.size (i*K) vs).cell? _=_
   rw[qK (by omega)];show (w.alloc (.cells R t)).cell? _=_
   rw[World.cell?_alloc_at _ _ _ _ rfl];exact tp k u h hk
  ·rcases Wbc k (i*K+K) with h2|h2
   ·rw[Vbx,Vbz (by omega),htl,Vb2 (by omega)]at hk
    have:=Ca7 oY hk;rw[qK (by omega)];show ((w.alloc (.cells R t)).drew.setCells w.heap.size (i*K) vs).cell? _=_
    rwa[show i*K+(k-i*K)=k by omega]at this
   ·rw[Vbz (by rw[Vbw];omega),Vbw,htl,mb]at hk
    have:=Ca7 pD hk;rwa[show (i+1)*K+(k-(i*K+K))=k by omega]at this
 ·rw[Wbj]
  obtain⟨u,hu⟩:=lO k hk;exact dS (fun _=>rfl) pD hu
 ·rw[eZ]
  show fzq ((w.alloc (.cells R t)).drew.setCells w.heap.size (i*K) vs) _=false
  rw[eZ];exact Ea8 R t 0
 ·have a:=dI w.heap.size (cs.drop (i*K)) ((i+1)*K) (((w.alloc (.cells R t)).drew.setCells w.heap.size (i*K) vs).drew)
  have b:=dI w.heap.size vs (i*K) ((w.alloc (.cells R t)).drew);exact⟨a.1.trans b.1,a.2.1.trans b.2.1,a.2.2.trans b.2.2⟩
end
class Enc (α:Type) where
 sz:Nat
 enc:α->List D
 len:∀ a,(enc a).length=sz
instance:Enc Int:=⟨1,fun n=>[i64 n],fun _=>rfl⟩
instance:Enc Bool:=⟨1,fun b=>[.bool b],fun _=>rfl⟩
instance:Enc (List UInt8):=⟨1,fun s=>[.str s],fun _=>rfl⟩
def rL {α:Type}[Enc α](xs:List α):D:=.rows (Enc.sz α) (xs.map Enc.enc)
instance {α:Type} [Enc α]:Enc (List α):=⟨1,fun xs=>[rL xs],fun _=>rfl⟩
def InB {α:Type}(xs:List α)(k:Int):Prop:=0<=k/\k<xs.length
def atI {α:Type}[Inhabited α](xs:List α)(k:Int):α:=xs.getD k.toNat default
def jF {α:Type}(xs:List α)(k:Int)(a:α):List α:=xs.set k.toNat a
theorem aX {α:Type}{xs:List α}{i:Nat}:InB xs (i:Int)↔i<xs.length:=by unfold InB;omega
theorem Naa {α:Type}[Inhabited α]{xs:List α}{i:Nat}:atI xs (i:Int)=xs.getD i default:=rfl
theorem bH {α:Type}[Inhabited α]{xs:List α}{i:Nat}(h:i<xs.length):atI xs (i:Int)=xs[i]:=by
 rw[Naa,Vby,Vbq h];rfl
theorem InB.lt {α:Type}{xs:List α}{k:Int}(h:InB xs k):k.toNat<xs.length:=by unfold InB at h;omega
def tick:Nat:=0
def Sb4:Nat:=0
def jN {γ:Type}(c:Bool)(a b:γ):γ:=match c with
 |true=>a
 |false=>b
theorem Waa {γ:Type}{a b:γ}:jN true a b=a:=rfl
theorem Ra7 {γ:Type}{a b:γ}:jN false a b=b:=rfl
@[congr] theorem Hbk {γ:Type} {c c':Bool} {a b:γ} (h:c=c') {dd:Nat} (hd:tick=dd):jN c a b=jN c' a b:=by rw[h]
theorem aF {γ:Type}{c:Bool}{a b r:γ}(h1:c=true->a=r)(h2:c=false->b=r):jN c a b=r:=by
 cases c with
 |true=>exact h1 rfl
 |false=>exact h2 rfl
section
variable {T:Nat->Ent} {β:Type}
@[congr] theorem Obw {t:Tm β} {ρ gn:List D} (h:ρ=gn) {dd:Nat} (hd:tick=dd):Er T t ρ=Er T t gn:=by rw[h]
@[congr] theorem Gbc {k:Tm β} {ρ gn:List D} {n:Nat} {a a':Option (List D)} (h:ρ=gn) (h2:a=a') {dd:Nat} (hd:tick=dd):stepT T k ρ n a=stepT T k gn n a':=by rw[h,h2]
@[congr] theorem Fb3 {i:Nat} {k:Tm β} {ρ gn:List D} {r r':Option (Kind×List D)} (h:ρ=gn) (h2:r=r') {dd:Nat} (hd:tick=dd):oN T i k ρ r=oN T i k gn r':=by rw[h,h2]
@[congr] theorem Kbs {p:aT} {xs xs':List D} (h:xs=xs') {dd:Nat} (hd:tick=dd):p.run xs=p.run xs':=by rw[h]
def nth:List D->Nat->D
 |[],_=>.undef
 |a::_,0=>a
 |_::r,n+1=>nth r n
theorem Pbg {a:D}{r:List D}:nth (a::r) 0=a:=rfl
theorem Pbf {a:D}{r:List D}{n:Nat}:nth (a::r) (n+1)=nth r n:=rfl
theorem Taz (r:List D)(n:Nat):r.getD n .undef=nth r n:=by
 induction r generalizing n with
 |nil=>rfl
 | cons a r ih => cases n with
  |zero=>rfl
  |succ n=>exact ih n
def vals (ρ:List D):List aI->List D
 |[]=>[]
 |.v i::r=>nth ρ i::vals ρ r
 |.c d::r=>d::vals ρ r
@[congr] theorem Ibm {ρ gn:List D} {xs:List aI} (h:ρ=gn) {dd:Nat} (hd:tick=dd):vals ρ xs=vals gn xs:=by rw[h]
theorem xY (ρ:List D)(xs:List aI):xs.map (·.val ρ)=vals ρ xs:=by
 induction xs with
 |nil=>rfl
 | cons x xs ih =>
  rw[Wbe,ih]
  cases x with
  |v i=>show ρ.getD i .undef::_=_;rw[Taz];rfl
  |c d=>rfl
theorem Ibx {ρ:List D}:vals ρ []=[]:=rfl
theorem Ibw {ρ:List D}{i:Nat}{r:List aI}:vals ρ (.v i::r)=nth ρ i::vals ρ r:=rfl
theorem Iby {ρ:List D}{d:D}{r:List aI}:vals ρ (.c d::r)=d::vals ρ r:=rfl
def Uat (ρ:List D):aI->D
 |.v i=>nth ρ i
 |.c d=>d
theorem Ibz {ρ:List D}{i:Nat}:Uat ρ (.v i)=nth ρ i:=rfl
theorem Ib0 {ρ:List D}{d:D}:Uat ρ (.c d)=d:=rfl
theorem Lag (ρ:List D)(a:aI):a.val ρ=Uat ρ a:=by
 cases a with
 |v i=>exact Taz ρ i
 |c d=>rfl
@[congr] theorem Ibn {ρ gn:List D} {a:aI} (h:ρ=gn) {dd:Nat} (hd:tick=dd):Uat ρ a=Uat gn a:=by rw[h]
theorem Ibi (k:Kind)(xs:List aI)(e:β)(ρ:List D):Er T (.leaf k xs e) ρ=some (k,vals ρ xs):=by rw[Ibg,xY]
theorem Pb3 (p:aT)(xs:List aI)(n:Nat)(k:Tm β)(ρ:List D):Er T (.lt none p xs n k) ρ=stepT T k ρ n (p.run (vals ρ xs)):=by rw[Lby,xY]
theorem Ibj (f:Nat)(xs:List aI)(n:Nat)(os:List aI)(k:Tm β)(ρ:List D):Er T (.call none f xs n os k) ρ=stepT T k ρ n (Fun T f (vals ρ xs)):=by rw[Eb3,xY]
def Aav (w:Bool)(a b:Option (Kind×List D))(c:D):Option (Kind×List D):=if gdR c w=true then a else b
@[congr] theorem Hbh {w:Bool} {a b:Option (Kind×List D)} {c c':D} (h:c=c') {dd:Nat} (hd:tick=dd):Aav w a b c=Aav w a b c':=by rw[h]
theorem Hbf {a b:Option (Kind×List D)}{c:Bool}:Aav true a b (.bool c)=jN c a b:=by cases c<;>rfl
theorem Hbg {a b:Option (Kind×List D)}{c:Bool}:Aav false a b (.bool c)=jN c b a:=by cases c<;>rfl
theorem Hbe {w:Bool}{a b:Option (Kind×List D)}:Aav w a b .undef=b:=by simp[Aav,gdR]
theorem Lb0 (a:aI)(w:Bool)(p:aT)(xs:List aI)(n:Nat)(k:Tm β)(ρ:List D) :
  Er T (.lt (some (a,w)) p xs n k) ρ=Aav w (stepT T k ρ n (p.run (vals ρ xs))) (Er T k (ρ++Wba n .undef)) (Uat ρ a):=by
 rw[Lbx,ltT,Aav,xY,Lag]
theorem Eb4 (a:aI)(w:Bool)(f:Nat)(xs:List aI)(n:Nat)(os:List aI)(k:Tm β)(ρ:List D) :
  Er T (.call (some (a,w)) f xs n os k) ρ=Aav w (stepT T k ρ n (Fun T f (vals ρ xs))) (Er T k (ρ++(Wba (n-os.length) .undef++vals ρ os))) (Uat ρ a):=by
 rw[Eb2,Hbw,Aav,xY,xY,Lag]
def Qau {γ:Type}(a b:Option γ)(c:D):Option γ:=Sbz c a b
@[congr] theorem Fb4 {γ:Type} {a b:Option γ} {c c':D} (h:c=c') {dd:Nat} (hd:tick=dd):Qau a b c=Qau a b c':=by rw[h]
theorem Fb5 {γ:Type}{a b:Option γ}{c:Bool}:Qau a b (.bool c)=jN c a b:=by cases c<;>rfl
theorem Lb1 (c:aI)(t e:Tm β)(ρ:List D):Er T (.ite c t e) ρ=Qau (Er T t ρ) (Er T e ρ) (Uat ρ c):=by rw[Lbz,Pbk,Qau,Lag]
theorem Ibk (i:Nat)(t k:Tm β)(ρ:List D):Er T (.bind i t k) ρ=oN T i k ρ (Er T t ρ):=Ibh i t k ρ
theorem Uaz {i:Nat}{k:Tm β}{ρ:List D}{c:Bool}{a b:Option (Kind×List D)}:oN T i k ρ (jN c a b)=jN c (oN T i k ρ a) (oN T i k ρ b):=by cases c<;>rfl
theorem Qat {i j:Nat}{k:Tm β}{ρ ds:List D}:oN T i k ρ (some (.yield j,ds))=if j=i then Er T k (ρ++ds) else some (.yield j,ds):=by
 by_cases h:j=i
 ·subst h;rw[Uay,if_pos rfl]
 ·rw[Cbu h,if_neg h]
noncomputable def fin (o:Option (Kind×List D)):Option (List D):=o.bind Sbu
theorem Db2 {c:Bool}{a b:Option (Kind×List D)}:fin (jN c a b)=jN c (fin a) (fin b):=by cases c<;>rfl
theorem Hbl {ds:List D}:fin (some (.ret,ds))=some ds:=rfl
theorem aO {f:Nat}{t:Tm Unit}(h:T f=.tm t)(args:List D):Fun T f args=fin (Er T t args):=Pb2 h args
theorem Pbw {ρ:List D}:ρ++[]=ρ:=Wbo ρ
theorem Pbx {a:D}{r s:List D}:(a::r)++s=a::(r++s):=rfl
theorem Pby {s:List D}:[]++s=s:=rfl
theorem Gbb {k:Tm β}{ρ ds:List D}{n:Nat}:stepT T k ρ n (some ds)=if ds.length=n then Er T k (ρ++ds) else none:=rfl
end
section
variable {α:Type} [Enc α]
theorem Kbw {xs:List α}:aT.len.run [rL xs]=some [i64 xs.length]:=by simp[rL,aT.run]
theorem Kbx {xs:List α}{k:Int}(h:InB xs k):aT.inb.run [rL xs,i64 k]=some []:=by
 unfold InB at h;simp only[rL,aT.run,Wbm];rw[if_pos ⟨h.1,h.2⟩]
def rowOf (off:Nat)(ks:List Bool)(r:List D):Option (List D):=if off+ks.length<=r.length/\Daz ks (r.drop off)=true then some ((r.drop off).take ks.length) else none
theorem oK [Inhabited α]{xs:List α}{k:Int}{sz off:Nat}{ks:List Bool}(hs:Enc.sz α=sz)(h:InB xs k):(aT.row sz off ks).run [rL xs,i64 k]=rowOf off ks (Enc.enc (atI xs k)):=by
 have h2:=h.lt;unfold InB at h;subst hs
 have e:xs[k.toNat]?=some (atI xs k):=by
  rw[Vbq h2,atI,Vby,Vbq h2];rfl
 simp only[rL,aT.run,Wbs,e,Wb5];simp only[true_and];rw[if_pos h.1];rfl
theorem Kao [Inhabited α]{xs:List α}{k:Int}{sz off n:Nat}{vs:List D}{a:α}(hs:Enc.sz α=sz)(hl:vs.length=n)(ho:off+n<=sz)(ha:Enc.enc a=(Enc.enc (atI xs k)).take off++vs++(Enc.enc (atI xs k)).drop (off+n))(h:InB xs k) :
  (aT.set sz off n).run (rL xs::i64 k::vs)=some [rL (jF xs k a)]:=by
 have h2:=h.lt;unfold InB at h;subst hs
 have e:xs[k.toNat]?=some (atI xs k):=by
  rw[Vbq h2,atI,Vby,Vbq h2];rfl
 simp only[rL,aT.run,Wbs,e,Wb5];simp only[true_and];rw[if_pos h.1,if_pos ⟨by rw[Enc.len];exact ho,hl⟩,<- ha,jF,List.map_set]
theorem Xa5 {b:Nat}{n:Int}{zero:List D}{a:α}(ha:Enc.enc a=zero)(h:0<=n)(h2:n.toNat*b<=iL):(aT.make b zero).run [i64 n]=some [rL (Wba n.toNat a)]:=by
 simp only[aT.run];rw[if_pos ⟨h,h2⟩,rL,List.map_replicate,ha,<- Enc.len a,ha]
theorem Xa4 {sz:Nat}{vs:List D}{a:α}(hs:Enc.sz α=sz)(ha:Enc.enc a=vs):(aT.mk sz 1).run vs=some [rL [a]]:=by
 subst hs;subst ha
 have:=Enc.len a;simp[rL,aT.run,chunk,this,List.take_of_length_le (Nat.le_of_eq this)]
theorem Eay {sz b:Nat}{fl:Bool}{xs ys:List α}(hs:Enc.sz α=sz)(hf:fl=true->∀ a:α,(Enc.enc a).all D.isSc=true)(h:(xs.length+ys.length)*b<=iL):(aT.app sz b fl).run [rL xs,rL ys]=some [rL (xs++ys)]:=by
 subst hs
 have cT:(!fl||(xs.map Enc.enc++ys.map Enc.enc).all fun r=>r.all D.isSc)=true:=by
  cases fl with
  |false=>rfl
  | true =>
   rw[Vbt,Xba,<- Ybj,List.all_map,Wbg];exact fun a _=>hf rfl a
 simp only[rL,aT.run,Wbm];rw[if_pos ⟨trivial,trivial,cT,h⟩,<- Ybj]
theorem Aal {sz b:Nat}{fl:Bool}{ys:List α}(hs:Enc.sz α=sz)(hf:fl=true->∀ a:α,(Enc.enc a).all D.isSc=true)(h:ys.length*b<=iL):(aT.app sz b fl).run [.rows sz [],rL ys]=some [rL ys]:=by
 have:=Eay (xs:=[]) (ys:=ys) (b:=b) hs hf (by simpa using h);subst hs;exact this
theorem Eax {sz:Nat}{fl:Bool}{xs:List α}{lo hi:Int}(hs:Enc.sz α=sz)(hf:fl=true->∀ a:α,(Enc.enc a).all D.isSc=true)(h0:0<=lo)(h1:lo<=hi)(h2:hi<=xs.length):(aT.sub sz fl).run [rL xs,i64 lo,i64 hi]=some [rL ((xs.take hi.toNat).drop lo.toNat)]:=by
 subst hs
 have cT:(!fl||(xs.map Enc.enc).all fun r=>r.all D.isSc)=true:=by
  cases fl with
  |false=>rfl
  | true =>
   rw[Vbt,Xba,List.all_map,Wbg];exact fun a _=>hf rfl a
 simp only[rL,aT.run,Wbm];rw[if_pos ⟨trivial,cT,h0,h1,h2⟩,<- List.map_take,<- List.map_drop]
theorem Kby {xs:List α}:aT.emp.run [rL xs]=some [.bool xs.isEmpty]:=by simp[rL,aT.run]
theorem Pba {x:α}{xs:List α}:aT.ne.run [rL (x::xs)]=some []:=by simp[rL,aT.run]
class Fits (α:Type) [Enc α] (m:Nat):Prop where
 fits:∀ a:α,(Enc.enc a).all (qH m)=true
theorem Kbz {m:Nat}[Fits α m]{xs:List α}:(aT.dep (m+1)).run [rL xs]=some []:=by
 have:qH (m+1) (rL xs)=true:=by
  unfold rL;simp only[qH,List.all_map,Wbg];intro a _;exact Fits.fits a
 simp only[aT.run,this,if_true]
end
instance {m:Nat}:Fits Int m:=⟨fun a=>by cases m<;>rfl⟩
instance {m:Nat}:Fits Bool m:=⟨fun a=>by cases m<;>rfl⟩
instance {m:Nat}:Fits (List UInt8) m:=⟨fun a=>by cases m<;>rfl⟩
theorem xI {α:Type}[Enc α]{m:Nat}[Fits α m](xs:List α):qH (m+1) (rL xs)=true:=by
 unfold rL;simp only[qH,List.all_map,Wbg];intro a _;exact Fits.fits a
instance {α:Type} [Enc α] {m:Nat} [Fits α m]:Fits (List α) (m+1):=⟨fun xs=>by
 show [rL xs].all (qH (m+1))=true
 simp[xI]⟩
theorem Cb7 {a b:Int}:aT.min.run [i64 a,i64 b]=some [i64 (min a b)]:=by
 simp only[aT.run,Mat,Kb2,if_true,Vbs,Wb5];congr 3;by_cases h:b<a
 ·rw[if_pos (by simpa using h)];omega
 ·rw[if_neg (by simpa using h)];omega
theorem Cb9 {a b:Int}:aT.max.run [i64 a,i64 b]=some [i64 (max a b)]:=by
 simp only[aT.run,Mat,Kb2,if_true,Vbs,Wb5];congr 3;by_cases h:b>a
 ·rw[if_pos (by simpa using h)];omega
 ·rw[if_neg (by simpa using h)];omega
theorem Cb6 {a b:Int}(h1:-9223372036854775808<=a*b)(h2:a*b<=9223372036854775807):(aT.bin .mul).run [i64 a,i64 b]=some [i64 (a*b)]:=by simp[aT.run,Ma9,zK,wrap_i64 h1 h2]
theorem Ua1 {a b:Int}(ha:-9223372036854775808<=a)(ha':a<=9223372036854775807)(hb:0<b):-9223372036854775808<=a.tdiv b/\a.tdiv b<=9223372036854775807:=by
 rcases Int.le_total 0 a with h|h
 ·have h1:=Int.tdiv_nonneg h (Int.le_of_lt hb)
  have h2:=Int.tdiv_le_self b h;omega
 ·have h1:(-a).tdiv b=-(a.tdiv b):=Int.neg_tdiv ..
  have h2:=Int.tdiv_nonneg (show 0<=-a by omega) (Int.le_of_lt hb);have h3:=Int.tdiv_le_self b (show 0<=-a by omega);omega
theorem Cb5 {a b:Int}(ha:0<=a)(ha':a<=9223372036854775807)(hb:0<b):(aT.bin .quo).run [i64 a,i64 b]=some [i64 (a / b)]:=by
 have h:=Ua1 (by omega) ha' hb;have fg:¬ b=0:=by omega
 rw[<- Int.tdiv_eq_ediv_of_nonneg ha];simp only[aT.run,Ma9,zK,if_true,if_neg fg,Wb5,wrap_i64 h.1 h.2]
theorem Cb4 {a b:Int}(ha:0<=a)(hb:0<b):(aT.bin .rem).run [i64 a,i64 b]=some [i64 (a % b)]:=by
 have fg:¬ b=0:=by omega
 simp only[aT.run,Ma9,zK,if_true,if_neg fg,Wb5,Int.tmod_eq_emod_of_nonneg ha]
theorem Pat:∀ xs ys:List Int,xs.length=ys.length->Qao (Wba xs.length 0) (xs.map i64) (ys.map i64)=some (decide (xs=ys))
 |[],[],_=>rfl
 | x :: xs, y :: ys, h => by
  have ih:=Pat xs ys (by simpa using h);simp only[Wbb,List.replicate_succ,Wbe,Qao,eqD,if_true,Vbs,ih,List.cons.injEq,Bool.decide_and];by_cases e:x=y
  ·simp[e]
  ·simp[e]
theorem Db6 {p:Prop}[Decidable p](xs ys:List Int)(h:xs.length=ys.length)(hp:p↔xs=ys):(Qao (Wba xs.length 0) (xs.map i64) (ys.map i64)).map (fun b=>[D.bool b])=some [.bool (decide p)]:=by
 rw[Pat xs ys h,Wb5,decide_eq_decide.2 hp]
theorem Lbi (i:Nat):((i+1:Nat):Int)=(i:Int)+1:=rfl
theorem SA:(∀ {T β} (k:Kind) (xs:List aI) (e:β) (ρ:List D),Er T (.leaf k xs e) ρ=some (k,vals ρ xs)) /\
  (∀ {T} {β:Type} (p:aT) (xs:List aI) (n:Nat) (k:Tm β) (ρ:List D),Er T (.lt none p xs n k) ρ=stepT T k ρ n (p.run (vals ρ xs))) /\
  (∀ {T} {β:Type} (f:Nat) (xs:List aI) (n:Nat) (os:List aI) (k:Tm β) (ρ:List D),Er T (.call none f xs n os k) ρ=stepT T k ρ n (Fun T f (vals ρ xs))) /\
  (∀ {T} {β:Type} (c:aI) (t e:Tm β) (ρ:List D),Er T (.ite c t e) ρ=Qau (Er T t ρ) (Er T e ρ) (Uat ρ c)) /\
  (∀ {T} {β:Type} (i:Nat) (t k:Tm β) (ρ:List D),Er T (.bind i t k) ρ=oN T i k ρ (Er T t ρ)) /\
  (∀ {T} {β:Type} (a:aI) (w:Bool) (p:aT) (xs:List aI) (n:Nat) (k:Tm β) (ρ:List D),
   Er T (.lt (some (a,w)) p xs n k) ρ=Aav w (stepT T k ρ n (p.run (vals ρ xs))) (Er T k (ρ++Wba n .undef)) (Uat ρ a)) /\
  (∀ {T} {β:Type} (a:aI) (w:Bool) (f:Nat) (xs:List aI) (n:Nat) (os:List aI) (k:Tm β) (ρ:List D),
   Er T (.call (some (a,w)) f xs n os k) ρ=Aav w (stepT T k ρ n (Fun T f (vals ρ xs))) (Er T k (ρ++(Wba (n-os.length) .undef++vals ρ os))) (Uat ρ a)) :=
 ⟨Ibi,Pb3,Ibj,Lb1,Ibk,Lb0,Eb4⟩
theorem SB:(tick=Sb4)/\(∀ {γ:Type} {c:Bool} {a b:γ},jN (!c) a b=jN c b a)/\(∀ {a b:Option (Kind×List D)} {c:Bool},Aav true a b (.bool c)=jN c a b)/\(∀ {a b:Option (Kind×List D)} {c:Bool},Aav false a b (.bool c)=jN c b a) /\
  (∀ {w:Bool} {a b:Option (Kind×List D)},Aav w a b .undef=b)/\(∀ {γ:Type} {a b:Option γ} {c:Bool},Qau a b (.bool c)=jN c a b) /\
  (∀ {T} {β:Type} {i:Nat} {k:Tm β} {ρ:List D} {c:Bool} {a b:Option (Kind×List D)},oN T i k ρ (jN c a b)=jN c (oN T i k ρ a) (oN T i k ρ b)) /\
  (∀ {T} {β:Type} {i j:Nat} {k:Tm β} {ρ ds:List D},oN T i k ρ (some (.yield j,ds))=if j=i then Er T k (ρ++ds) else some (.yield j,ds)) /\
  (∀ {T} {β:Type} {i:Nat} {k:Tm β} {ρ ds:List D},oN T i k ρ (some (.ret,ds))=some (.ret,ds))/\(∀ {T} {β:Type} {i:Nat} {k:Tm β} {ρ ds:List D},oN T i k ρ (some (.cont,ds))=some (.cont,ds)) /\
  (∀ {c:Bool} {a b:Option (Kind×List D)},fin (jN c a b)=jN c (fin a) (fin b))/\(∀ {ds:List D},fin (some (.ret,ds))=some ds) /\
  (∀ {γ:Type} {a b:γ},jN true a b=a)/\(∀ {γ:Type} {a b:γ},jN false a b=b) :=
 ⟨rfl,by intro γ c a b;cases c<;>rfl,Hbf,Hbg,Hbe,Fb5,Uaz,Qat,Xaa,Ua0,Db2,Hbl,Waa,Ra7⟩
theorem SC:(∀ {a:D} {r:List D},nth (a::r) 0=a)/\(∀ {a:D} {r:List D} {n:Nat},nth (a::r) (n+1)=nth r n) /\
  (∀ {ρ:List D},vals ρ []=[])/\(∀ {ρ:List D} {i:Nat} {r:List aI},vals ρ (.v i::r)=nth ρ i::vals ρ r)/\(∀ {ρ:List D} {d:D} {r:List aI},vals ρ (.c d::r)=d::vals ρ r) /\
  (∀ {ρ:List D} {i:Nat},Uat ρ (.v i)=nth ρ i)/\(∀ {ρ:List D} {d:D},Uat ρ (.c d)=d) /\
  (∀ {ρ:List D},ρ++[]=ρ)/\(∀ {a:D} {r s:List D},(a::r)++s=a::(r++s))/\(∀ {s:List D},[]++s=s) /\
  (∀ {T} {β:Type} {k:Tm β} {ρ ds:List D} {n:Nat},stepT T k ρ n (some ds)=if ds.length=n then Er T k (ρ++ds) else none) /\
  (∀ {α:Type} {a:α} {l:List α},(a::l).length=l.length+1)/\(∀ {α:Type},([]:List α).length=0)/\(∀ {α:Type} {x:α} {n:Nat},Wba (n+1) x=x::Wba n x)/\(∀ {α:Type} {x:α},Wba 0 x=[]) :=
 ⟨Pbg,Pbf,Ibx,Ibw,Iby,Ibz,Ib0,Pbw,Pbx,Pby,Gbb,Wbb,List.length_nil,List.replicate_succ,List.replicate_zero⟩
theorem SP:(∀ {a b:Int},(aT.bin .lss).run [i64 a,i64 b]=some [.bool (decide (a<b))])/\(∀ {a b:Int},(aT.bin .gtr).run [i64 a,i64 b]=some [.bool (decide (b<a))]) /\
  (∀ {a b:Int},(aT.bin .leq).run [i64 a,i64 b]=some [.bool (decide (a<=b))])/\(∀ {a b:Int},(aT.bin .geq).run [i64 a,i64 b]=some [.bool (decide (b<=a))]) /\
  (∀ {a b:Int},(aT.bin .neq).run [i64 a,i64 b]=some [.bool (!(a==b))])/\(∀ {a b:Int},(aT.bin .eql).run [i64 a,i64 b]=some [.bool (a==b)]) /\
  (∀ {b:Bool},aT.not.run [.bool b]=some [.bool (!b)])/\(∀ {c:Bool} {a b:D},aT.pick.run [.bool c,a,b]=some [jN c a b])/\(∀ {a b:Bool},(aT.eqb true).run [.bool a,.bool b]=some [.bool (!(a==b))])/\(∀ {a b:Bool},(aT.eqb false).run [.bool a,.bool b]=some [.bool (a==b)]) /\
  (∀ {d:D},aT.id.run [d]=some [d])/\(∀ {α:Type} [Enc α] {xs:List α},aT.len.run [rL xs]=some [i64 xs.length]) /\
  (∀ {α:Type} [Enc α] {xs:List α} {k:Int},InB xs k->aT.inb.run [rL xs,i64 k]=some []) /\
  (∀ {a b:Int},aT.min.run [i64 a,i64 b]=some [i64 (min a b)])/\(∀ {a b:Int},aT.max.run [i64 a,i64 b]=some [i64 (max a b)]) /\
  (∀ {α:Type} [Enc α] {m:Nat} [Fits α m] {xs:List α},(aT.dep (m+1)).run [rL xs]=some []) :=
 ⟨Gbh,Gbj,Gbi,Gbk,Gbg,Gbl,Gbf,by intro c a b;cases c<;>rfl,Gbm,rfl,Kbr,Kbw,Kbx,Cb7,Cb9,Kbz⟩
set_option maxRecDepth 4000
structure kM where
 kind:Int
 id:Int
 src:Int
 dst:Int
 amt:Int
 deriving DecidableEq
instance:Inhabited kM:=⟨⟨0,0,0,0,0⟩⟩
instance:Enc kM:=⟨5,fun x=>[i64 x.kind,i64 x.id,i64 x.src,i64 x.dst,i64 x.amt],fun _=>rfl⟩
instance {m:Nat}:Fits kM m:=⟨fun x=>by cases m<;>rfl⟩
structure bN where
 seq:Int
 deps:(List Int)
 deriving DecidableEq
instance:Inhabited bN:=⟨⟨0,[]⟩⟩
instance:Enc bN:=⟨2,fun x=>[i64 x.seq,rL x.deps],fun _=>rfl⟩
theorem Zav (x:bN):Enc.enc x=[i64 x.seq,rL x.deps]:=rfl
instance {m:Nat}:Fits bN (m+1):=⟨fun x=>by
 rw[Zav];simp only[Ybt,Zbb,Xbv,Vbk];refine⟨?_,?_⟩
 all_goals first|rfl|exact xI _⟩
structure bF where
 ballot:Int
 vote:Int
 state:Int
 cmd:kM
 attr:bN
 deriving DecidableEq
instance:Inhabited bF:=⟨⟨0,0,0,default,default⟩⟩
instance:Enc bF:=⟨10,fun x=>[i64 x.ballot,i64 x.vote,i64 x.state,i64 x.cmd.kind,i64 x.cmd.id,i64 x.cmd.src,i64 x.cmd.dst,i64 x.cmd.amt,i64 x.attr.seq,rL x.attr.deps],fun _=>rfl⟩
theorem Eba (x:bF):Enc.enc x=[i64 x.ballot,i64 x.vote,i64 x.state,i64 x.cmd.kind,i64 x.cmd.id,i64 x.cmd.src,i64 x.cmd.dst,i64 x.cmd.amt,i64 x.attr.seq,rL x.attr.deps]:=rfl
instance {m:Nat}:Fits bF (m+1):=⟨fun x=>by
 rw[Eba];simp only[Ybt,Zbb,Xbv,Vbk];refine⟨?_,?_,?_,?_,?_,?_,?_,?_,?_,?_⟩
 all_goals first|rfl|exact xI _⟩
structure aM where
 n:Int
 rows:(List (List bF))
 deriving DecidableEq
instance:Inhabited aM:=⟨⟨0,[]⟩⟩
instance:Enc aM:=⟨2,fun x=>[i64 x.n,rL x.rows],fun _=>rfl⟩
theorem Wai (x:aM):Enc.enc x=[i64 x.n,rL x.rows]:=rfl
instance {m:Nat}:Fits aM (m+3):=⟨fun x=>by
 rw[Wai];simp only[Ybt,Zbb,Xbv,Vbk];refine⟨?_,?_⟩
 all_goals first|rfl|exact xI _⟩
structure aN where
 rep:Int
 no:Int
 ballot:Int
 phase:Int
 cmd:kM
 first:bN
 attr:bN
 same:Bool
 who:(List Int)
 seen:(List bF)
 deriving DecidableEq
instance:Inhabited aN:=⟨⟨0,0,0,0,default,default,default,false,[],[]⟩⟩
instance:Enc aN:=⟨16,fun x=>[i64 x.rep,i64 x.no,i64 x.ballot,i64 x.phase,i64 x.cmd.kind,i64 x.cmd.id,i64 x.cmd.src,i64 x.cmd.dst,i64 x.cmd.amt,i64 x.first.seq,rL x.first.deps,i64 x.attr.seq,rL x.attr.deps,.bool x.same,rL x.who,rL x.seen],fun _=>rfl⟩
theorem Zau (x:aN):Enc.enc x=[i64 x.rep,i64 x.no,i64 x.ballot,i64 x.phase,i64 x.cmd.kind,i64 x.cmd.id,i64 x.cmd.src,i64 x.cmd.dst,i64 x.cmd.amt,i64 x.first.seq,rL x.first.deps,i64 x.attr.seq,rL x.attr.deps,.bool x.same,rL x.who,rL x.seen]:=rfl
instance {m:Nat}:Fits aN (m+2):=⟨fun x=>by
 rw[Zau];simp only[Ybt,Zbb,Xbv,Vbk];refine⟨?_,?_,?_,?_,?_,?_,?_,?_,?_,?_,?_,?_,?_,?_,?_,?_⟩
 all_goals first|rfl|exact xI _⟩
structure pO where
 me:Int
 table:aM
 leads:(List aN)
 deriving DecidableEq
instance:Inhabited pO:=⟨⟨0,default,[]⟩⟩
instance:Enc pO:=⟨4,fun x=>[i64 x.me,i64 x.table.n,rL x.table.rows,rL x.leads],fun _=>rfl⟩
theorem Ebb (x:pO):Enc.enc x=[i64 x.me,i64 x.table.n,rL x.table.rows,rL x.leads]:=rfl
instance {m:Nat}:Fits pO (m+3):=⟨fun x=>by
 rw[Ebb];simp only[Ybt,Zbb,Xbv,Vbk];refine⟨?_,?_,?_,?_⟩
 all_goals first|rfl|exact xI _⟩
structure fC where
 kind:Int
 src:Int
 dst:Int
 rep:Int
 no:Int
 ballot:Int
 vote:Int
 state:Int
 cmd:kM
 attr:bN
 deriving DecidableEq
instance:Inhabited fC:=⟨⟨0,0,0,0,0,0,0,0,default,default⟩⟩
instance:Enc fC:=⟨15,fun x=>[i64 x.kind,i64 x.src,i64 x.dst,i64 x.rep,i64 x.no,i64 x.ballot,i64 x.vote,i64 x.state,i64 x.cmd.kind,i64 x.cmd.id,i64 x.cmd.src,i64 x.cmd.dst,i64 x.cmd.amt,i64 x.attr.seq,rL x.attr.deps],fun _=>rfl⟩
theorem Ebd (x:fC):Enc.enc x=[i64 x.kind,i64 x.src,i64 x.dst,i64 x.rep,i64 x.no,i64 x.ballot,i64 x.vote,i64 x.state,i64 x.cmd.kind,i64 x.cmd.id,i64 x.cmd.src,i64 x.cmd.dst,i64 x.cmd.amt,i64 x.attr.seq,rL x.attr.deps]:=rfl
instance {m:Nat}:Fits fC (m+1):=⟨fun x=>by
 rw[Ebd];simp only[Ybt,Zbb,Xbv,Vbk];refine⟨?_,?_,?_,?_,?_,?_,?_,?_,?_,?_,?_,?_,?_,?_,?_⟩
 all_goals first|rfl|exact xI _⟩
structure Lab where
 rep:Int
 no:Int
 cmd:kM
 deriving DecidableEq
instance:Inhabited Lab:=⟨⟨0,0,default⟩⟩
instance:Enc Lab:=⟨7,fun x=>[i64 x.rep,i64 x.no,i64 x.cmd.kind,i64 x.cmd.id,i64 x.cmd.src,i64 x.cmd.dst,i64 x.cmd.amt],fun _=>rfl⟩
instance {m:Nat}:Fits Lab m:=⟨fun x=>by cases m<;>rfl⟩
structure Sau where
 reps:(List pO)
 bag:(List fC)
 asked:(List Lab)
 deriving DecidableEq
instance:Inhabited Sau:=⟨⟨[],[],[]⟩⟩
instance:Enc Sau:=⟨3,fun x=>[rL x.reps,rL x.bag,rL x.asked],fun _=>rfl⟩
theorem Ebc (x:Sau):Enc.enc x=[rL x.reps,rL x.bag,rL x.asked]:=rfl
instance {m:Nat}:Fits Sau (m+4):=⟨fun x=>by
 rw[Ebc];simp only[Ybt,Zbb,Xbv,Vbk];refine⟨?_,?_,?_⟩
 all_goals first|rfl|exact xI _⟩
theorem Lbm:(∀ x:kM,kM.mk x.kind x.id x.src x.dst x.amt=x) /\
  (∀ x:bN,bN.mk x.seq x.deps=x) /\
  (∀ x:bF,bF.mk x.ballot x.vote x.state x.cmd x.attr=x) /\
  (∀ x:aM,aM.mk x.n x.rows=x) /\
  (∀ x:aN,aN.mk x.rep x.no x.ballot x.phase x.cmd x.first x.attr x.same x.who x.seen=x) /\
  (∀ x:pO,pO.mk x.me x.table x.leads=x) /\
  (∀ x:fC,fC.mk x.kind x.src x.dst x.rep x.no x.ballot x.vote x.state x.cmd x.attr=x) /\
  (∀ x:Lab,Lab.mk x.rep x.no x.cmd=x) /\
  (∀ x:Sau,Sau.mk x.reps x.bag x.asked=x) :=
 ⟨fun _=>rfl,
  fun _=>rfl,
  fun _=>rfl,
  fun _=>rfl,
  fun _=>rfl,
  fun _=>rfl,
  fun _=>rfl,
  fun _=>rfl,
  fun _=>rfl⟩
theorem aS:(∀ {xs:List Int} {k:Int},InB xs k->(aT.row 1 0 [true]).run [rL xs,i64 k]=some [i64 (atI xs k)]) /\
  (∀ {xs:List (List UInt8)} {k:Int},InB xs k->(aT.row 1 0 [true]).run [rL xs,i64 k]=some [.str (atI xs k)]) /\
  (∀ {xs:List (List Int)} {k:Int},InB xs k->(aT.row 1 0 [false]).run [rL xs,i64 k]=some [rL (atI xs k)]) /\
  (∀ {xs:List (List bF)} {k:Int},InB xs k->(aT.row 1 0 [false]).run [rL xs,i64 k]=some [rL (atI xs k)]) /\
  (∀ {xs:List (List (List Int))} {k:Int},InB xs k->(aT.row 1 0 [false]).run [rL xs,i64 k]=some [rL (atI xs k)]) /\
  (∀ {xs:List bF} {k:Int},InB xs k->(aT.row 10 0 [true,true,true,true,true,true,true,true,true,false]).run [rL xs,i64 k]=some [i64 (atI xs k).ballot,i64 (atI xs k).vote,i64 (atI xs k).state,i64 (atI xs k).cmd.kind,i64 (atI xs k).cmd.id,i64 (atI xs k).cmd.src,i64 (atI xs k).cmd.dst,i64 (atI xs k).cmd.amt,i64 (atI xs k).attr.seq,rL (atI xs k).attr.deps]) /\
  (∀ {xs:List bF} {k:Int},InB xs k->(aT.row 10 1 [true]).run [rL xs,i64 k]=some [i64 (atI xs k).vote]) /\
  (∀ {xs:List bF} {k:Int},InB xs k->(aT.row 10 3 [true,true,true,true,true]).run [rL xs,i64 k]=some [i64 (atI xs k).cmd.kind,i64 (atI xs k).cmd.id,i64 (atI xs k).cmd.src,i64 (atI xs k).cmd.dst,i64 (atI xs k).cmd.amt]) /\
  (∀ {xs:List bF} {k:Int},InB xs k->(aT.row 10 8 [true,false]).run [rL xs,i64 k]=some [i64 (atI xs k).attr.seq,rL (atI xs k).attr.deps]) /\
  (∀ {xs:List aN} {k:Int},InB xs k->(aT.row 16 0 [true,true,true,true,true,true,true,true,true,true,false,true,false,true,false,false]).run [rL xs,i64 k]=some [i64 (atI xs k).rep,i64 (atI xs k).no,i64 (atI xs k).ballot,i64 (atI xs k).phase,i64 (atI xs k).cmd.kind,i64 (atI xs k).cmd.id,i64 (atI xs k).cmd.src,i64 (atI xs k).cmd.dst,i64 (atI xs k).cmd.amt,i64 (atI xs k).first.seq,rL (atI xs k).first.deps,i64 (atI xs k).attr.seq,rL (atI xs k).attr.deps,.bool (atI xs k).same,rL (atI xs k).who,rL (atI xs k).seen]) /\
  (∀ {xs:List aN} {k:Int},InB xs k->(aT.row 16 0 [true]).run [rL xs,i64 k]=some [i64 (atI xs k).rep]) /\
  (∀ {xs:List aN} {k:Int},InB xs k->(aT.row 16 1 [true]).run [rL xs,i64 k]=some [i64 (atI xs k).no]) /\
  (∀ {xs:List aN} {k:Int},InB xs k->(aT.row 16 14 [false]).run [rL xs,i64 k]=some [rL (atI xs k).who]) /\
  (∀ {xs:List aN} {k:Int},InB xs k->(aT.row 16 2 [true]).run [rL xs,i64 k]=some [i64 (atI xs k).ballot]) /\
  (∀ {xs:List aN} {k:Int},InB xs k->(aT.row 16 3 [true]).run [rL xs,i64 k]=some [i64 (atI xs k).phase]) /\
  (∀ {xs:List fC} {k:Int},InB xs k->(aT.row 15 0 [true,true,true,true,true,true,true,true,true,true,true,true,true,true,false]).run [rL xs,i64 k]=some [i64 (atI xs k).kind,i64 (atI xs k).src,i64 (atI xs k).dst,i64 (atI xs k).rep,i64 (atI xs k).no,i64 (atI xs k).ballot,i64 (atI xs k).vote,i64 (atI xs k).state,i64 (atI xs k).cmd.kind,i64 (atI xs k).cmd.id,i64 (atI xs k).cmd.src,i64 (atI xs k).cmd.dst,i64 (atI xs k).cmd.amt,i64 (atI xs k).attr.seq,rL (atI xs k).attr.deps]) :=
 ⟨fun h=>(oK rfl h),
  fun h=>(oK rfl h),
  fun h=>(oK rfl h),
  fun h=>(oK rfl h),
  fun h=>(oK rfl h),
  fun h=>(oK rfl h),
  fun h=>(oK rfl h),
  fun h=>(oK rfl h),
  fun h=>(oK rfl h),
  fun h=>(oK rfl h),
  fun h=>(oK rfl h),
  fun h=>(oK rfl h),
  fun h=>(oK rfl h),
  fun h=>(oK rfl h),
  fun h=>(oK rfl h),
  fun h=>(oK rfl h)⟩
theorem Faw:(∀ {xs:List Int} {k:Int} {v:Int},InB xs k->(aT.set 1 0 1).run [rL xs,i64 k,i64 v]=some [rL (jF xs k v)]) /\
  (∀ {xs:List (List UInt8)} {k:Int} {v:(List UInt8)},InB xs k->(aT.set 1 0 1).run [rL xs,i64 k,.str v]=some [rL (jF xs k v)]) /\
  (∀ {xs:List (List Int)} {k:Int} {v:(List Int)},InB xs k->(aT.set 1 0 1).run [rL xs,i64 k,rL v]=some [rL (jF xs k v)]) /\
  (∀ {xs:List (List bF)} {k:Int} {v:(List bF)},InB xs k->(aT.set 1 0 1).run [rL xs,i64 k,rL v]=some [rL (jF xs k v)]) /\
  (∀ {xs:List (List (List Int))} {k:Int} {v:(List (List Int))},InB xs k->(aT.set 1 0 1).run [rL xs,i64 k,rL v]=some [rL (jF xs k v)]) /\
  (∀ {xs:List bF} {k:Int} {eV jn ib de eK ej ee eg di:Int} {cX:(List Int)},InB xs k->(aT.set 10 0 10).run [rL xs,i64 k,i64 eV,i64 jn,i64 ib,i64 de,i64 eK,i64 ej,i64 ee,i64 eg,i64 di,rL cX]=some [rL (jF xs k ⟨eV,jn,ib,⟨de,eK,ej,ee,eg⟩,⟨di,cX⟩⟩)]) :=
 ⟨fun h=>(Kao rfl rfl (by decide) rfl h),
  fun h=>(Kao rfl rfl (by decide) rfl h),
  fun h=>(Kao rfl rfl (by decide) rfl h),
  fun h=>(Kao rfl rfl (by decide) rfl h),
  fun h=>(Kao rfl rfl (by decide) rfl h),
  fun h=>(Kao rfl rfl (by decide) rfl h)⟩
theorem jH:(∀ {v0:Int},(aT.mk 1 1).run [i64 v0]=some [rL [v0]]) /\
  (∀ {v0 v1:Int},(aT.mk 1 2).run [i64 v0,i64 v1]=some [rL [v0,v1]]) /\
  (∀ {v0 v1 v2:Int},(aT.mk 1 3).run [i64 v0,i64 v1,i64 v2]=some [rL [v0,v1,v2]]) /\
  (∀ {v0 v1 v2 v3:Int},(aT.mk 1 4).run [i64 v0,i64 v1,i64 v2,i64 v3]=some [rL [v0,v1,v2,v3]]) /\
  (∀ {v0 v1 v2 v3 v4:Int},(aT.mk 1 5).run [i64 v0,i64 v1,i64 v2,i64 v3,i64 v4]=some [rL [v0,v1,v2,v3,v4]]) /\
  aT.ne.run []=none /\
  aT.ne.run []=none /\
  (∀ {v0 v1 v2 v3 v4 v5 v6 v7 v8:Int},(aT.mk 1 9).run [i64 v0,i64 v1,i64 v2,i64 v3,i64 v4,i64 v5,i64 v6,i64 v7,i64 v8]=some [rL [v0,v1,v2,v3,v4,v5,v6,v7,v8]]) /\
  (∀ {v0:(List UInt8)},(aT.mk 1 1).run [.str v0]=some [rL [v0]]) /\
  (∀ {v0 v1:(List UInt8)},(aT.mk 1 2).run [.str v0,.str v1]=some [rL [v0,v1]]) /\
  (∀ {v0 v1 v2:(List UInt8)},(aT.mk 1 3).run [.str v0,.str v1,.str v2]=some [rL [v0,v1,v2]]) /\
  (∀ {v0 v1 v2 v3:(List UInt8)},(aT.mk 1 4).run [.str v0,.str v1,.str v2,.str v3]=some [rL [v0,v1,v2,v3]]) /\
  (∀ {v0 v1 v2 v3 v4:(List UInt8)},(aT.mk 1 5).run [.str v0,.str v1,.str v2,.str v3,.str v4]=some [rL [v0,v1,v2,v3,v4]]) /\
  aT.ne.run []=none /\
  aT.ne.run []=none /\
  (∀ {v0 v1 v2 v3 v4 v5 v6 v7 v8:(List UInt8)},(aT.mk 1 9).run [.str v0,.str v1,.str v2,.str v3,.str v4,.str v5,.str v6,.str v7,.str v8]=some [rL [v0,v1,v2,v3,v4,v5,v6,v7,v8]]) /\
  (∀ {v0:(List Int)},(aT.mk 1 1).run [rL v0]=some [rL [v0]]) /\
  (∀ {v0:(List bF)},(aT.mk 1 1).run [rL v0]=some [rL [v0]]) /\
  (∀ {v0:(List (List Int))},(aT.mk 1 1).run [rL v0]=some [rL [v0]]) /\
  aT.ne.run []=none /\
  (∀ {eV jn ib de eK ej ee eg di:Int} {cX:(List Int)},(aT.mk 10 1).run [i64 eV,i64 jn,i64 ib,i64 de,i64 eK,i64 ej,i64 ee,i64 eg,i64 di,rL cX]=some [rL [(⟨eV,jn,ib,⟨de,eK,ej,ee,eg⟩,⟨di,cX⟩⟩:bF)]]) /\
  aT.ne.run []=none /\
  (∀ {oS tg eV qi de eK ej ee eg l8:Int} {kr:(List Int)} {di:Int} {cX:(List Int)} {sr:Bool} {xx:(List Int)} {tP:(List bF)},(aT.mk 16 1).run [i64 oS,i64 tg,i64 eV,i64 qi,i64 de,i64 eK,i64 ej,i64 ee,i64 eg,i64 l8,rL kr,i64 di,rL cX,.bool sr,rL xx,rL tP]=some [rL [(⟨oS,tg,eV,qi,⟨de,eK,ej,ee,eg⟩,⟨l8,kr⟩,⟨di,cX⟩,sr,xx,tP⟩:aN)]]) /\
  aT.ne.run []=none /\
  (∀ {sf ya xa oS tg eV jn ib de eK ej ee eg di:Int} {cX:(List Int)},(aT.mk 15 1).run [i64 sf,i64 ya,i64 xa,i64 oS,i64 tg,i64 eV,i64 jn,i64 ib,i64 de,i64 eK,i64 ej,i64 ee,i64 eg,i64 di,rL cX]=some [rL [(⟨sf,ya,xa,oS,tg,eV,jn,ib,⟨de,eK,ej,ee,eg⟩,⟨di,cX⟩⟩:fC)]]) /\
  aT.ne.run []=none :=
 ⟨rfl,
  rfl,
  rfl,
  rfl,
  rfl,
  rfl,
  rfl,
  rfl,
  rfl,
  rfl,
  rfl,
  rfl,
  rfl,
  rfl,
  rfl,
  rfl,
  rfl,
  rfl,
  rfl,
  rfl,
  (Xa4 rfl rfl),
  rfl,
  (Xa4 rfl rfl),
  rfl,
  (Xa4 rfl rfl),
  rfl⟩
theorem Uaq:(∀ {n:Int},0<=n->n<=100000000000->(aT.make 8 [(.int .i64 0)]).run [i64 n]=some [rL (Wba n.toNat (0:Int))]) /\
  aT.ne.run []=none /\
  aT.ne.run []=none /\
  (∀ {n:Int},0<=n->n<=100000000000->(aT.make 24 [(.rows 10 [])]).run [i64 n]=some [rL (Wba n.toNat ([]:(List bF)))]) /\
  aT.ne.run []=none :=
 ⟨fun h h2=>(Xa5 rfl h (by unfold iL;omega)),
  rfl,
  rfl,
  fun h h2=>(Xa5 rfl h (by unfold iL;omega)),
  rfl⟩
theorem kU:(∀ {xs ys:List Int},xs.length+ys.length<=100000000000->(aT.app 1 8 true).run [rL xs,rL ys]=some [rL (xs++ys)]) /\
  (∀ {ys:List Int},ys.length<=100000000000->(aT.app 1 8 true).run [.rows 1 [],rL ys]=some [rL ys]) /\
  (∀ {xs ys:List (List Int)},xs.length+ys.length<=100000000000->(aT.app 1 24 false).run [rL xs,rL ys]=some [rL (xs++ys)]) /\
  (∀ {ys:List (List Int)},ys.length<=100000000000->(aT.app 1 24 false).run [.rows 1 [],rL ys]=some [rL ys]) /\
  (∀ {xs ys:List (List bF)},xs.length+ys.length<=100000000000->(aT.app 1 24 false).run [rL xs,rL ys]=some [rL (xs++ys)]) /\
  (∀ {ys:List (List bF)},ys.length<=100000000000->(aT.app 1 24 false).run [.rows 1 [],rL ys]=some [rL ys]) /\
  (∀ {xs ys:List (List (List Int))},xs.length+ys.length<=100000000000->(aT.app 1 24 false).run [rL xs,rL ys]=some [rL (xs++ys)]) /\
  (∀ {ys:List (List (List Int))},ys.length<=100000000000->(aT.app 1 24 false).run [.rows 1 [],rL ys]=some [rL ys]) /\
  (∀ {xs ys:List bF},xs.length+ys.length<=100000000000->(aT.app 10 96 false).run [rL xs,rL ys]=some [rL (xs++ys)]) /\
  (∀ {ys:List bF},ys.length<=100000000000->(aT.app 10 96 false).run [.rows 10 [],rL ys]=some [rL ys]) /\
  (∀ {xs ys:List aN},xs.length+ys.length<=100000000000->(aT.app 16 192 false).run [rL xs,rL ys]=some [rL (xs++ys)]) /\
  (∀ {ys:List aN},ys.length<=100000000000->(aT.app 16 192 false).run [.rows 16 [],rL ys]=some [rL ys]) /\
  (∀ {xs ys:List fC},xs.length+ys.length<=100000000000->(aT.app 15 136 false).run [rL xs,rL ys]=some [rL (xs++ys)]) /\
  (∀ {ys:List fC},ys.length<=100000000000->(aT.app 15 136 false).run [.rows 15 [],rL ys]=some [rL ys]) :=
 ⟨fun h=>(Eay rfl (fun _ _=>rfl) (by unfold iL;omega)),
  fun h=>(Aal rfl (fun _ _=>rfl) (by unfold iL;omega)),
  fun h=>(Eay rfl (fun h=>by cases h) (by unfold iL;omega)),
  fun h=>(Aal rfl (fun h=>by cases h) (by unfold iL;omega)),
  fun h=>(Eay rfl (fun h=>by cases h) (by unfold iL;omega)),
  fun h=>(Aal rfl (fun h=>by cases h) (by unfold iL;omega)),
  fun h=>(Eay rfl (fun h=>by cases h) (by unfold iL;omega)),
  fun h=>(Aal rfl (fun h=>by cases h) (by unfold iL;omega)),
  fun h=>(Eay rfl (fun h=>by cases h) (by unfold iL;omega)),
  fun h=>(Aal rfl (fun h=>by cases h) (by unfold iL;omega)),
  fun h=>(Eay rfl (fun h=>by cases h) (by unfold iL;omega)),
  fun h=>(Aal rfl (fun h=>by cases h) (by unfold iL;omega)),
  fun h=>(Eay rfl (fun h=>by cases h) (by unfold iL;omega)),
  fun h=>(Aal rfl (fun h=>by cases h) (by unfold iL;omega))⟩
theorem Abx:(∀ {xs:List Int} {lo hi:Int},0<=lo->lo<=hi->hi<=xs.length->(aT.sub 1 true).run [rL xs,i64 lo,i64 hi]=some [rL ((xs.take hi.toNat).drop lo.toNat)]) /\
  (∀ {xs:List Int} {lo hi:Int},0<=lo->lo<=hi->hi<=xs.length->(aT.sub 1 false).run [rL xs,i64 lo,i64 hi]=some [rL ((xs.take hi.toNat).drop lo.toNat)]) /\
  (∀ {xs:List (List UInt8)} {lo hi:Int},0<=lo->lo<=hi->hi<=xs.length->(aT.sub 1 true).run [rL xs,i64 lo,i64 hi]=some [rL ((xs.take hi.toNat).drop lo.toNat)]) /\
  (∀ {xs:List (List UInt8)} {lo hi:Int},0<=lo->lo<=hi->hi<=xs.length->(aT.sub 1 false).run [rL xs,i64 lo,i64 hi]=some [rL ((xs.take hi.toNat).drop lo.toNat)]) /\
  (∀ {xs:List (List Int)} {lo hi:Int},0<=lo->lo<=hi->hi<=xs.length->(aT.sub 1 false).run [rL xs,i64 lo,i64 hi]=some [rL ((xs.take hi.toNat).drop lo.toNat)]) /\
  (∀ {xs:List (List bF)} {lo hi:Int},0<=lo->lo<=hi->hi<=xs.length->(aT.sub 1 false).run [rL xs,i64 lo,i64 hi]=some [rL ((xs.take hi.toNat).drop lo.toNat)]) /\
  (∀ {xs:List (List (List Int))} {lo hi:Int},0<=lo->lo<=hi->hi<=xs.length->(aT.sub 1 false).run [rL xs,i64 lo,i64 hi]=some [rL ((xs.take hi.toNat).drop lo.toNat)]) /\
  aT.ne.run []=none /\
  aT.ne.run []=none /\
  aT.ne.run []=none /\
  aT.ne.run []=none /\
  (∀ {xs:List aN} {lo hi:Int},0<=lo->lo<=hi->hi<=xs.length->(aT.sub 16 false).run [rL xs,i64 lo,i64 hi]=some [rL ((xs.take hi.toNat).drop lo.toNat)]) /\
  aT.ne.run []=none :=
 ⟨fun h0 h1 h2=>(Eax rfl (fun _ _=>rfl) h0 h1 h2),
  fun h0 h1 h2=>(Eax rfl (fun h=>by cases h) h0 h1 h2),
  fun h0 h1 h2=>(Eax rfl (fun _ _=>rfl) h0 h1 h2),
  fun h0 h1 h2=>(Eax rfl (fun h=>by cases h) h0 h1 h2),
  fun h0 h1 h2=>(Eax rfl (fun h=>by cases h) h0 h1 h2),
  fun h0 h1 h2=>(Eax rfl (fun h=>by cases h) h0 h1 h2),
  fun h0 h1 h2=>(Eax rfl (fun h=>by cases h) h0 h1 h2),
  rfl,
  rfl,
  rfl,
  rfl,
  fun h0 h1 h2=>(Eax rfl (fun h=>by cases h) h0 h1 h2),
  rfl⟩
theorem mR:(∀ {fh kk gv gw gr cS fw dt dq dk:Int},(aT.eqs [0,0,0,0,0]).run [i64 fh,i64 kk,i64 gv,i64 gw,i64 gr,i64 cS,i64 fw,i64 dt,i64 dq,i64 dk]=some [.bool (decide ((⟨fh,kk,gv,gw,gr⟩:kM)=⟨cS,fw,dt,dq,dk⟩))]) /\
  aT.ne.run []=none :=
 ⟨(fun {fh kk gv gw gr cS fw dt dq dk}=>Db6 [fh,kk,gv,gw,gr] [cS,fw,dt,dq,dk] rfl (by simp[kM.mk.injEq])),
  rfl⟩
section
variable {T:Nat->Ent} {β:Type} {α:Type} [Inhabited α]
inductive Rd1 (σ:Type) where
 |go (s:σ)
 |out (r:Kind×List D)
def Ha2 {σ:Type}(f:Nat->α->σ->Rd1 σ):Nat->List α->σ->Rd1 σ
 |_,[],s=>.go s
 | i, x :: xs, s => match f i x s with
  |.go s'=>Ha2 f (i+1) xs s'
  |.out r=>.out r
def Tbm {σ:Type}(vs:Int->σ->List D)(i:Int):Rd1 σ->Kind×List D
 |.go s=>(.cont,vs (i+1) s)
 |.out r=>r
theorem Pbj {σ:Type}{body:Tm β}{ρ:List D}{init:List aI}(xs:List α)(vs:Int->σ->List D)(s0:σ)(f:Nat->α->σ->Rd1 σ)(inv:Nat->σ->Prop)(fin:σ->Kind×List D)
  (h0:init.map (·.val ρ)=vs 0 s0) (hi:inv 0 s0)
  (h1:∀ (i:Nat) s,i<xs.length->inv i s->Er T body (ρ++vs i s)=some (Tbm vs i (f i (atI xs i) s))/\(∀ s',f i (atI xs i) s=.go s'->inv (i+1) s')/\∀ r,f i (atI xs i) s=.out r->r.1≠.cont)
  (h2:∀ s,inv xs.length s->Er T body (ρ++vs xs.length s)=some (fin s)/\(fin s).1≠.cont) :
  ∃ r,Er T (.loop init body) ρ=some r/\((∃ s,Ha2 f 0 xs s0=.go s/\inv xs.length s/\r=fin s)\/Ha2 f 0 xs s0=.out r):=by
 have key:=Vat (T:=T) (body:=body) (ρ:=ρ) (γ:=Nat×σ) (fun c=>xs.length-c.1) (fun c=>c.1<=xs.length/\inv c.1 c.2/\Ha2 f c.1 (xs.drop c.1) c.2=Ha2 f 0 xs s0) (fun c=>vs (c.1:Int) c.2)
  (fun r=>(∃ s,Ha2 f 0 xs s0=.go s/\inv xs.length s/\r=fin s)\/Ha2 f 0 xs s0=.out r)
  (fun ⟨i,s⟩ ⟨hle,hv,hf⟩=>by
   simp only at hle hv hf ⊢
   rcases Wbc i xs.length with bj|n4
   ·obtain⟨h3,h4,h5⟩:=h1 i s bj hv
    have hd:xs.drop i=atI xs i::xs.drop (i+1):=by
     rw[List.drop_eq_getElem_cons bj,bH bj]
    rw[hd,Ha2]at hf;refine⟨_,h3,?_⟩
    cases e:f i (atI xs i) s with
    | go s' =>
     rw[e]at hf;exact .inl ⟨rfl,(i+1,s'),⟨by simp only;omega,h4 s' e,hf⟩,by simp only;omega,rfl⟩
    | out r =>
     rw[e]at hf;exact .inr ⟨h5 r e,.inr hf.symm⟩
   ·obtain rfl:i=xs.length:=by omega
    obtain⟨h3,h4⟩:=h2 s hv;rw[List.drop_length,Ha2]at hf;exact⟨_,h3,.inr ⟨h4,.inl ⟨s,hf.symm,hv,rfl⟩⟩⟩)
  xs.length (0,s0) (by simp) ⟨by simp,hi,by simp⟩ init h0
 exact key
theorem Cb3 {body:Tm β}{ρ:List D}(j:Nat)(n:Nat)(p:Nat->Bool)(r:List D)
  (h1:∀ i:Nat,i<n->p i=true->Er T body (ρ++[i64 i])=some (.cont,[i64 ((i:Int)+1)]))
  (h2:∀ i:Nat,i<n->p i=false->Er T body (ρ++[i64 i])=some (.ret,r))
  (h3:Er T body (ρ++[i64 n])=some (.yield j,[])) :
  Er T (.loop [.c (i64 0)] body) ρ=jN (zM p n) (some (.yield j,[])) (some (.ret,r)):=by
 have key:=Vat (T:=T) (body:=body) (ρ:=ρ) (fun i=>n-i) (fun i=>i<=n/\∀ j,j<i->p j=true) (fun i=>[i64 (i:Nat)])
  (fun q=>(∀ j,j<n->p j=true)/\q=(.yield j,[])\/(∃ j,j<n/\p j=false)/\q=(.ret,r))
  (fun i ⟨hi,cT⟩=>by
   rcases Wbc i n with bj|n4
   ·cases e:p i with
    | true => exact ⟨_, h1 i bj e, .inl ⟨rfl, i + 1, ⟨by omega, fun j hj => by
      rcases Wbc j i with h|h
      ·exact cT j h
      ·obtain rfl:j=i:=by omega
       exact e⟩,by omega,rfl⟩⟩
    |false=>exact⟨_,h2 i bj e,.inr ⟨by simp,.inr ⟨⟨i,bj,e⟩,rfl⟩⟩⟩
   ·obtain rfl:i=n:=by omega
    exact⟨_,h3,.inr ⟨by simp,.inl ⟨cT,rfl⟩⟩⟩)
  n 0 (by omega) ⟨by omega,fun j hj=>by omega⟩ [.c (i64 0)] (by simp[aI.val])
 obtain⟨q,h4,h5⟩:=key;rw[h4]
 rcases h5 with ⟨h6,rfl⟩|⟨h6,rfl⟩
 ·rw[fZ.2 h6];rfl
 ·rw[Eaf.2 h6];rfl
theorem Uan (xs:List α)(p:α->Bool):zM (fun i=>p (atI xs i)) xs.length=xs.all p:=by
 cases e:xs.all p with
 | true =>
  rw[Wbg]at e;rw[fZ];intro i hi;rw[bH hi];exact e _ (Xbb hi)
 | false =>
  rw[List.all_eq_false]at e;obtain⟨x,hx,hp⟩:=e;obtain⟨i,hi,rfl⟩:=List.getElem_of_mem hx;exact Eaf.2 ⟨i,hi,by rw[bH hi];simpa using hp⟩
theorem Ia2 [DecidableEq α]{xs ys:List α}(hl:xs.length=ys.length):zM (fun i=>decide (atI xs i=atI ys i)) xs.length=decide (xs=ys):=by
 by_cases e:xs=ys
 ·subst e
  rw[decide_eq_true rfl,fZ];exact fun i _=>decide_eq_true rfl
 ·rw[decide_eq_false e]
  cases h:zM (fun i=>decide (atI xs i=atI ys i)) xs.length with
  |false=>rfl
  | true =>
   rw[fZ]at h;refine absurd (List.ext_getElem hl fun i h1 h2=>?_) e;have:=of_decide_eq_true (h i h1);rwa[bH h1,bH h2]at this
theorem Pau {xs ys:List α}[DecidableEq α](h:¬ xs.length=ys.length):decide (xs=ys)=false:=decide_eq_false fun e=>h (by rw[e])
theorem Sb1 {body:Tm β}{ρ:List D}(j:Nat)(xs:List α)(p:α->Bool)(r:List D)
  (h1:∀ i:Nat,i<xs.length->InB xs (i:Int)->decide ((i:Int)<xs.length)=true->p (atI xs i)=true->Er T body (ρ++[i64 i])=some (.cont,[i64 ((i:Int)+1)]))
  (h2:∀ i:Nat,i<xs.length->InB xs (i:Int)->decide ((i:Int)<xs.length)=true->p (atI xs i)=false->Er T body (ρ++[i64 i])=some (.ret,r))
  (h3:decide ((xs.length:Int)<xs.length)=false->Er T body (ρ++[i64 xs.length])=some (.yield j,[])) :
  Er T (.loop [.c (i64 0)] body) ρ=jN (xs.all p) (some (.yield j,[])) (some (.ret,r)):=by
 rw[Cb3 j xs.length (fun i=>p (atI xs i)) r (fun i hi hp=>h1 i hi (aX.2 hi) (by simp;omega) hp) (fun i hi hp=>h2 i hi (aX.2 hi) (by simp;omega) hp) (h3 (by simp)),Uan]
omit [Inhabited α] in
theorem Vaj {body:Tm β}{ρ:List D}(j:Nat)(n:Nat)(p:Nat->Bool)(r:List D)
  (h1:∀ i:Nat,i<n->decide ((i:Int)<n)=true->Er T body (ρ++[i64 i])=jN (p i) (some (.cont,[i64 ((i:Int)+1)])) (some (.ret,r)))
  (h3:decide ((n:Int)<n)=false->Er T body (ρ++[i64 n])=some (.yield j,[])) :
  Er T (.loop [.c (i64 0)] body) ρ=jN (zM p n) (some (.yield j,[])) (some (.ret,r)) :=
 Cb3 j n p r (fun i hi hp=>by rw[h1 i hi (by simp;omega),hp];rfl) (fun i hi hp=>by rw[h1 i hi (by simp;omega),hp];rfl) (h3 (by simp))
theorem Pbz {body:Tm β}{ρ:List D}(j:Nat)(xs:List α)(p:α->Bool)(r:List D)
  (h1:∀ i:Nat,i<xs.length->InB xs (i:Int)->decide ((i:Int)<xs.length)=true->atI xs (i:Int)∈xs->Er T body (ρ++[i64 i])=jN (p (atI xs i)) (some (.cont,[i64 ((i:Int)+1)])) (some (.ret,r)))
  (h3:decide ((xs.length:Int)<xs.length)=false->Er T body (ρ++[i64 xs.length])=some (.yield j,[])) :
  Er T (.loop [.c (i64 0)] body) ρ=jN (xs.all p) (some (.yield j,[])) (some (.ret,r)) :=
 Sb1 j xs p r (fun i hi hb hl hp=>by rw[h1 i hi hb hl (by rw[bH hi];exact Xbb hi),hp];rfl) (fun i hi hb hl hp=>by rw[h1 i hi hb hl (by rw[bH hi];exact Xbb hi),hp];rfl) h3
def ixF (p:α->Bool)(xs:List α):Int:=match xs.findIdx? p with
 |some i=>i
 |none=>-1
omit [Inhabited α] in
theorem jG (p:α->Bool)(xs:List α):decide (0<=ixF p xs)=xs.any p:=by
 unfold ixF
 cases h:xs.findIdx? p with
 | none =>
  rw[List.findIdx?_eq_none_iff]at h
  have:xs.any p=false:=by
   rw[List.any_eq_false];exact fun x hx=>by simp[h x hx]
  rw[this];rfl
 | some i =>
  have:xs.any p=true:=by
   rw[Ybh]at h;obtain⟨hi,hp,-⟩:=h;rw[Xb1];exact⟨_,Xbb hi,hp⟩
  rw[this];simp
theorem Jao {body:Tm β}{ρ:List D}(j:Nat)(xs:List α)(p:α->Bool)(rf:Int->List D)
  (h1:∀ i:Nat,i<xs.length->InB xs (i:Int)->decide ((i:Int)<xs.length)=true->p (atI xs i)=true->Er T body (ρ++[i64 i])=some (.ret,rf i))
  (h2:∀ i:Nat,i<xs.length->InB xs (i:Int)->decide ((i:Int)<xs.length)=true->p (atI xs i)=false->Er T body (ρ++[i64 i])=some (.cont,[i64 ((i:Int)+1)]))
  (h3:decide ((xs.length:Int)<xs.length)=false->Er T body (ρ++[i64 xs.length])=some (.yield j,[])) :
  Er T (.loop [.c (i64 0)] body) ρ=jN (xs.any p) (some (.ret,rf (ixF p xs))) (some (.yield j,[])):=by
 have cT:∀ (i:Nat) (ys:List α),Ha2 (fun (i:Nat) x (_:Unit)=>if p x then Rd1.out (.ret,rf i) else .go ()) i ys ()=match ys.findIdx? p with|some k=>.out (.ret,rf ((i+k:Nat):Int))|none=>.go ():=by
  intro i ys
  induction ys generalizing i with
  |nil=>rfl
  | cons y ys ih =>
   rw[Ha2,List.findIdx?_cons]
   cases p y with
   |true=>simp
   | false =>
    simp only[Vbm,if_false];rw[ih (i+1)]
    cases ys.findIdx? p with
    |none=>rfl
    |some k=>simp only[Wb5];congr 4;omega
 obtain⟨q,h4,h5⟩:=Pbj (T:=T) (body:=body) (ρ:=ρ) (init:=[.c (i64 0)]) xs (fun i (_:Unit)=>[i64 i]) () (fun i x _=>if p x then .out (.ret,rf i) else .go ()) (fun _ _=>True) (fun _=>(.yield j,[])) rfl trivial
  (fun i _ hi _=>by
   cases e:p (atI xs i) with
   |true=>exact⟨by rw[h1 i hi (aX.2 hi) (by simp;omega) e];rfl,fun _ _=>trivial,fun r h=>by simp at h;rw[<- h];simp⟩
   |false=>exact⟨by rw[h2 i hi (aX.2 hi) (by simp;omega) e];rfl,fun _ _=>trivial,fun r h=>by simp at h⟩)
  (fun _ _=>⟨h3 (by simp),by simp⟩)
 rw[h4,<- jG];rw[cT]at h5;unfold ixF
 cases e:xs.findIdx? p with
 | none =>
  rw[e]at h5
  rcases h5 with ⟨s,-,-,rfl⟩|h5
  ·rfl
  ·simp at h5
 | some k =>
  rw[e]at h5
  rcases h5 with ⟨s,h5,-⟩|h5
  ·simp at h5
  ·simp only[Wbj,Rd1.out.injEq]at h5
   rw[<- h5];simp[jN]
theorem at_mem {xs:List α}{i:Nat}(h:i<xs.length):atI xs (i:Int)∈xs:=by rw[bH h];exact Xbb h
omit [Inhabited α] in
theorem rX {body:Tm β}{ρ:List D}{init:List aI}(n:Nat)(vs:Nat->List D)(r:Kind×List D)(h0:init.map (·.val ρ)=vs 0)(hr:r.1≠.cont)
  (h1:∀ i:Nat,i<n->decide ((i:Int)<n)=true->Er T body (ρ++vs i)=some (.cont,vs (i+1)))
  (h2:decide ((n:Int)<n)=false->Er T body (ρ++vs n)=some r):Er T (.loop init body) ρ=some r:=by
 obtain⟨q,h3,rfl⟩:=Vat (T:=T) (body:=body) (ρ:=ρ) (fun i=>n-i) (fun i=>i<=n) vs (fun q=>q=r)
  (fun i hi=>by
   rcases Wbc i n with bj|n4
   ·exact⟨_,h1 i bj (by simp;omega),.inl ⟨rfl,i+1,by omega,by omega,rfl⟩⟩
   ·obtain rfl:i=n:=by omega
    exact⟨_,h2 (by simp),.inr ⟨hr,rfl⟩⟩) n 0 (by omega) (by omega) init h0
 exact h3
omit [Inhabited α] in
theorem Eal {γ:Type}{body:Tm β}{ρ:List D}{init:List aI}(r:Kind×List D)(m:γ->Nat)(inv:γ->Prop)(vs:γ->List D)(c0:γ)(h0:init.map (·.val ρ)=vs c0)(hi:inv c0)(hr:r.1≠.cont)
  (h:∀ c,inv c->(∃ c',Er T body (ρ++vs c)=some (.cont,vs c')/\inv c'/\m c'<m c)\/Er T body (ρ++vs c)=some r):Er T (.loop init body) ρ=some r:=by
 obtain⟨q,h1,rfl⟩:=Vat (T:=T) (body:=body) (ρ:=ρ) m inv vs (fun q=>q=r)
  (fun c hc=>by
   rcases h c hc with ⟨c',h2,h3,h4⟩|h2
   ·exact⟨_,h2,.inl ⟨rfl,c',h3,h4,rfl⟩⟩
   ·exact⟨_,h2,.inr ⟨hr,rfl⟩⟩) (m c0) c0 (Vb6 _) hi init h0
 exact h1
end
theorem take_at {α:Type}[Inhabited α]{xs:List α}{i:Nat}(h:i<xs.length):xs.take i++[atI xs (i:Int)]=xs.take (i+1):=by rw[List.take_succ_eq_append_getElem h,bH h]
theorem Raj {α:Type}[Inhabited α]{xs:List α}{k:Int}(h:InB xs k):jF xs k (atI xs k)=xs:=by
 have h2:=h.lt;unfold jF atI;rw[Vby,Vbq h2];exact List.set_getElem_self h2
def Hba {α:Type}[Enc α](xs:List (List α))(k:Int):D:=.rows 1 ((xs.map Enc.enc).set k.toNat [.hole])
theorem Qai:(∀ {α:Type} [Enc α] {xs:List (List α)} {k:Int},InB xs k->(aT.set 1 0 1).run [rL xs,i64 k,.hole]=some [Hba xs k])/\(∀ {α:Type} [Enc α] {xs:List (List α)} {k j:Int},InB xs j->aT.inb.run [Hba xs k,i64 j]=some []) /\
  (∀ {α:Type} [Enc α] {xs:List (List α)} {k:Int} {l:List α},InB xs k->(aT.set 1 0 1).run [Hba xs k,i64 k,rL l]=some [rL (jF xs k l)]):=by
 refine⟨?_,?_,?_⟩
 ·intro α _ xs k h
  have h2:=h.lt;unfold InB at h;have e:(xs.map Enc.enc)[k.toNat]?=some [rL xs[k.toNat]]:=by rw[Wbs,Vbq h2];rfl
  show (if _ then _ else _)=_
  rw[if_pos ⟨rfl,h.1⟩,e];rfl
 ·intro α _ xs k j h
  unfold InB at h;show (if _ then _ else _)=_
  rw[if_pos ⟨h.1,by simpa using h.2⟩]
 ·intro α _ xs k l h
  have h2:=h.lt;unfold InB at h;have e:((xs.map Enc.enc).set k.toNat [.hole])[k.toNat]?=some [.hole]:=by rw[List.getElem?_set_self (by simpa using h2)]
  show (if _ then _ else _)=_
  rw[if_pos ⟨rfl,h.1⟩,e];show some _=_
  simp only[rL,jF,List.map_set,List.set_set];rfl
theorem SQ:(∀ {a b:Int},-9223372036854775808<=a+b->a+b<=9223372036854775807->(aT.bin .add).run [i64 a,i64 b]=some [i64 (a+b)]) /\
  (∀ {a b:Int},-9223372036854775808<=a-b->a-b<=9223372036854775807->(aT.bin .sub).run [i64 a,i64 b]=some [i64 (a-b)]) /\
  (∀ {a b:Int},0<=a->a<=9223372036854775807->0<b->(aT.bin .quo).run [i64 a,i64 b]=some [i64 (a / b)])/\(∀ {a b:Int},0<=a->0<b->(aT.bin .rem).run [i64 a,i64 b]=some [i64 (a % b)]) :=
 ⟨Gbo,Gbe,Cb5,Cb4⟩
theorem zN:(∀ {α:Type} [Inhabited α] {xs:List α} {k:Int} {a:α},InB xs k->atI (jF xs k a) k=a)/\(∀ {α:Type} {xs:List α} {k:Int} {a b:α},jF (jF xs k a) k b=jF xs k b) /\
  (∀ {α:Type} {xs:List α} {j k:Int} {a:α},InB (jF xs j a) k=InB xs k)/\(∀ {α:Type} {xs:List α} {j:Int} {a:α},(jF xs j a).length=xs.length):=by
 refine⟨?_,?_,?_,?_⟩
 ·intro α _ xs k a h
  have:=h.lt;rw[jF,atI,Vby,List.getElem?_set_self this];rfl
 ·intro α xs k a b
  rw[jF,jF,jF,List.set_set]
 ·intro α xs j k a
  unfold InB jF;rw[Ybn]
 ·intro α xs j a
  exact Ybn ..
def szL {α:Type}(f:α->Nat)(xs:List α):Nat:=xs.length+(xs.map f).sum
theorem Sa5 {α:Type}{f:α->Nat}{x:α}{xs:List α}:szL f (x::xs)=1+f x+szL f xs:=by simp[szL];omega
theorem Qa0 {α:Type}{f:α->Nat}:∀ {xs:List α} {x:α},x∈xs->1+f x<=szL f xs
 |[],x,h=>by cases h
 | y :: ys, x, h => by
  rw[Sa5]
  rcases Vbu.1 h with rfl|h
  ·omega
  ·have:=Qa0 (f:=f) h
   omega
theorem Lai {α:Type}{xs:List α}:szL (fun _=>0) xs=xs.length:=by
 have:∀ xs:List α,(xs.map fun _=>0).sum=0:=fun xs=>by
  induction xs with
  |nil=>rfl
  |cons x xs ih=>simp only[Wbe,List.sum_cons,ih]
 rw[szL,this];rfl
theorem Xah {α:Type}{f:α->Nat}{xs:List α}:xs.length<=szL f xs:=by unfold szL;omega
section
variable {T:Nat->Ent} {β:Type} {α:Type} [Inhabited α]
end
def Bad (x:bN):Nat:=szL (fun _=>0) x.deps
theorem Xaf (x:bN):Bad x=x.deps.length:=by
 unfold Bad;simp only[Lai]
 try omega
def kH (x:bF):Nat:=Bad x.attr
def Faz (x:aN):Nat:=Bad x.first+Bad x.attr+szL (fun _=>0) x.who+szL kH x.seen
theorem vX (x:aN):Faz x=x.first.deps.length+x.attr.deps.length+x.who.length+szL kH x.seen:=by
 unfold Faz;simp only[Lai,Xaf]
 try omega
theorem SZ:(∀ b:Bool,(b&&true)=b)/\(∀ b:Bool,(true&&b)=b)/\(∀ b:Bool,(b&&false)=false)/\(∀ b:Bool,(false&&b)=false) /\
  (∀ b:Bool,(b||true)=true)/\(∀ b:Bool,(true||b)=true)/\(∀ b:Bool,(b||false)=b)/\(∀ b:Bool,(false||b)=b)/\((!true)=false)/\((!false)=true) :=
 ⟨Xbv,Wbf,Bool.and_false,Bool.false_and,Bool.or_true,Bool.true_or,Bool.or_false,Xba,rfl,rfl⟩
theorem aG {γ:Type}{a r:γ}(h:jN true a r=r):a=r:=h
theorem S0:type_of% (And.intro Vbm (And.intro @ite_true.{1} (And.intro @ite_false.{1} (And.intro @SA (And.intro @SB (And.intro @SC (And.intro @SP (And.intro @SQ (And.intro @SZ (And.intro @beq_self_eq_true.{0} (And.intro @decide_true (And.intro @decide_false (And.intro @Lbi @Lbm))))))))))))):=And.intro Vbm (And.intro @ite_true.{1} (And.intro @ite_false.{1} (And.intro @SA (And.intro @SB (And.intro @SC (And.intro @SP (And.intro @SQ (And.intro @SZ (And.intro @beq_self_eq_true.{0} (And.intro @decide_true (And.intro @decide_false (And.intro @Lbi @Lbm))))))))))))
theorem Ma8 {x y:Bool}(h:x=true↔y=true):some [D.bool x]=some [D.bool y]:=by rw[Bool.eq_iff_iff.2 h]
def bR (n:Int):Bool:=n==3||n==5
theorem aL {n:Int}(h:bR n=true):n=3\/n=5:=by simpa[bR] using h
def inst (n rep no:Int):Bool:=inR rep 0 (n-1)&&inR no 1 6
def iZ (c:kM):Bool :=
 if c.kind==0 then decide (c=⟨0,0,0,0,0⟩) else if c.kind==1 then inR c.id 1 999&&inR c.src 0 3&&inR c.dst 0 3&&!(c.src==c.dst)&&inR c.amt 1 1000
 else c.kind==2&&inR c.id 1 999&&inR c.src 0 3&&c.dst==0&&c.amt==0
def Ma5 (c:kM):Int :=
 if !inR c.src 0 3||(c.kind==1&&!inR c.dst 0 3) then 4 else if c.kind==1&&c.src==c.dst then 5 else if !inR c.id 1 999||(c.kind==1&&!inR c.amt 1 1000) then 6 else 0
def bZ (n:Int)(a:bN):Bool:=inR a.seq 0 999&&(a.deps.length:Int)==n&&a.deps.all fun x=>inR x 0 6
def none0 (n:Int):bN:=⟨0,Wba n.toNat 0⟩
def rowOk (n:Int)(r:bF):Bool :=
 inR r.ballot 0 9999&&inR r.vote 0 r.ballot&&inR r.state 0 3&&(if r.state==0 then r.vote==0&&decide (r.cmd=⟨0,0,0,0,0⟩)&&decide (r.attr=none0 n) else iZ r.cmd&&bZ n r.attr)
def Hah (n:Int)(m:fC):Bool :=
  bR n&&inR m.kind 1 7&&inst n m.rep m.no&&inR m.src 0 (n-1)&&inR m.dst 0 (n-1)&&!(m.src==m.dst)&&inR m.ballot 0 9999 &&
  (if m.kind==7 then !(m.state==3)&&rowOk n ⟨m.ballot,m.vote,m.state,m.cmd,m.attr⟩
   else !(m.kind==5&&!(m.ballot==0))&&m.vote==0&&m.state==0&&iZ m.cmd&&bZ n m.attr &&
     (if m.kind==2 then decide (m.cmd=⟨0,0,0,0,0⟩) else if m.kind==4||m.kind==6 then decide (m.cmd=⟨0,0,0,0,0⟩)&&decide (m.attr=none0 n) else true))
theorem Ba6 {n:Int}(h:bR n=true):bZ n (none0 n)=true:=by
 rcases aL h with rfl|rfl<;>rfl
theorem Za8 {c:kM}(h:decide (c=⟨0,0,0,0,0⟩)=true):iZ c=true:=by
 rw[of_decide_eq_true h];rfl
theorem Ebn {c:kM}:(Ma5 c==0)=(inR c.src 0 3&&inR c.id 1 999&&(!(c.kind==1)||(inR c.dst 0 3&&!(c.src==c.dst)&&inR c.amt 1 1000))):=by
 unfold Ma5;cases inR c.src 0 3<;>cases inR c.id 1 999<;>cases c.kind==1<;>cases inR c.dst 0 3<;>cases c.src==c.dst<;>cases inR c.amt 1 1000<;>rfl
def mF (xs:List bF):Prop:=xs.length<=10000000000/\∀ r∈xs,r.attr.deps.length<=10000000000
def gF (rows:List (List bF)):Prop:=rows.length<=10000000000/\∀ l∈rows,mF l
theorem Xag (r:bF):kH r=r.attr.deps.length:=Lai
theorem wC {xs:List bF}(h:szL kH xs<=1048576):mF xs:=by
 refine⟨Xb3 (Xah (f:=kH)) (by omega),fun r hr=>?_⟩;have h1:=Qa0 (f:=kH) hr;rw[Xag]at h1;omega
theorem Cb1 {rows:List (List bF)}(h:szL (szL kH) rows<=1048576):gF rows:=by
 refine⟨Xb3 (Xah (f:=szL kH)) (by omega),fun l hl=>wC ?_⟩;have h1:=Qa0 (f:=szL kH) hl;omega
def dZ (t:aM):Bool:=bR t.n&&(t.rows.length:Int)==t.n&&t.rows.all fun l=>l.all (fun r=>rowOk t.n r)&&decide ((l.length:Int)<=6)
def row0 (n:Int):bF:=⟨0,0,0,⟨0,0,0,0,0⟩,none0 n⟩
def eF (t:aM)(rep no:Int):bF:=if no<=(atI t.rows rep).length then atI (atI t.rows rep) (no-1) else row0 t.n
def Sbt:bF:=⟨0,0,0,⟨0,0,0,0,0⟩,⟨0,[]⟩⟩
def mV (t:aM)(rep no:Int):bF×Bool:=if dZ t&&inst t.n rep no then (eF t rep no,true) else (Sbt,false)
theorem Eby:(rL ([]:List Int)=.rows 1 [])/\(rL ([]:List (List Int))=.rows 1 [])/\(rL ([]:List bF)=.rows 10 [])/\(rL ([]:List (List bF))=.rows 1 [])/\(rL ([]:List aN)=.rows 16 [])/\(rL ([]:List fC)=.rows 15 []):=⟨rfl,rfl,rfl,rfl,rfl,rfl⟩
theorem gY {n rep no:Int}(h:inst n rep no=true):0<=rep/\rep<=n-1/\1<=no/\no<=6:=by
 simp only[inst,inR,Vbk,decide_eq_true_eq]at h;omega
theorem aU {t:aM}(h:dZ t=true):bR t.n=true:=by
 simp only[dZ,Vbk]at h;exact h.1.1
theorem bX {t:aM}(h:dZ t=true):(t.rows.length:Int)=t.n:=by
 simp only[dZ,Vbk,beq_iff_eq]at h;exact h.1.2
theorem dQ {t:aM}{rep no:Int}(h:dZ t=true)(hi:inst t.n rep no=true):InB t.rows rep:=by
 have:=bX h;have:=gY hi;unfold InB;omega
theorem cB {t:aM}(h:dZ t=true){l:List bF}(hl:l∈t.rows):l.length<=6/\∀ r∈l,rowOk t.n r=true:=by
 simp only[dZ,Vbk,Wbg,decide_eq_true_eq]at h;have:=h.2 l hl;exact⟨by omega,this.1⟩
theorem nA {n:Int}{r:bF}(h:rowOk n r=true)(hg:bR n=true):(r.attr.deps.length:Int)=n:=by
 have h2:bZ n r.attr=true:=by
  simp only[rowOk,Vbk]at h;have h3:=h.2;split at h3
  ·simp only[Vbk]at h3
   rw[of_decide_eq_true h3.2];exact Ba6 hg
  ·simp only[Vbk]at h3
   exact h3.2
 simp only[bZ,Vbk,beq_iff_eq]at h2;exact h2.1.2
theorem kP {n:Int}{r:bF}(h:rowOk n r=true):iZ r.cmd=true:=by
 simp only[rowOk,Vbk]at h;have h3:=h.2;split at h3
 ·simp only[Vbk]at h3
  exact Za8 h3.1.2
 ·simp only[Vbk]at h3
  exact h3.1
theorem iW {α:Type}[Inhabited α]{xs:List α}{k:Int}(h:InB xs k):atI xs k∈xs:=by
 have h2:=h.lt;have e:((k.toNat:Nat):Int)=k:=by unfold InB at h;omega
 rw[<- e];exact at_mem h2
theorem tT {t:aM}{rep no:Int}(h:dZ t=true)(hi:inst t.n rep no=true):rowOk t.n (eF t rep no)=true:=by
 unfold eF;have hb:=dQ h hi;have hr:=gY hi;split
 ·exact (cB h (iW hb)).2 _ (iW (by unfold InB;omega))
 ·rcases aL (aU h) with e|e<;>rw[e]<;>rfl
theorem Wa8 {t:aM}{rep no:Int}(h:dZ t=true)(hi:inst t.n rep no=true):((eF t rep no).attr.deps.length:Int)=t.n:=nA (tT h hi) (aU h)
def ext (n:Int)(l:List bF)(no:Int):List bF:=l++Wba (no-l.length).toNat (row0 n)
def nY (t:aM)(rep no:Int)(r:bF):aM:=⟨t.n,jF t.rows rep (jF (ext t.n (atI t.rows rep) no) (no-1) r)⟩
theorem Ha9 {n:Int}{l:List bF}{no:Int}(h:0<=no):((ext n l no).length:Int)=max (l.length:Int) no:=by
 simp only[ext,Vbw,List.length_replicate];omega
def nb (b me:Int):Int:=if b<8+me then 8+me else b+1+(me-b-1) % 8
def nbR (t:aM)(rep no me:Int):Int×Bool:=if dZ t&&inst t.n rep no&&inR me 0 (t.n-1)&&decide (nb (eF t rep no).ballot me<=9999) then (nb (eF t rep no).ballot me,true) else (0,false)
theorem nP {n:Int}{r:bF}(h:rowOk n r=true):0<=r.ballot/\r.ballot<=9999:=by
 simp only[rowOk,inR,Vbk,decide_eq_true_eq]at h;exact h.1.1.1
theorem Har {x lo hi:Int}(h:inR x lo hi=true):lo<=x/\x<=hi:=by
 simpa[inR] using h
theorem nJ {α:Type}{xs:List α}{k:Int}{a:α}:(jF xs k a).length=xs.length:=Ybn ..
theorem Abs {α:Type}[Inhabited α]{xs:List α}{j k:Int}{a:α}(hj:0<=j)(hk:0<=k)(h:j≠k):atI (jF xs j a) k=atI xs k:=by
 unfold atI jF;rw[Vby,Vby,List.getElem?_set_ne (by omega)]
theorem Za9 {c:kM}(h:iZ c=true):(c.kind=0\/c.kind=1\/c.kind=2)/\(c.kind=1->(0<=c.src/\c.src<=3)/\(0<=c.dst/\c.dst<=3)/\c.src≠c.dst/\1<=c.amt/\c.amt<=1000)/\(c.kind=2->0<=c.src/\c.src<=3):=by
 unfold iZ at h;split at h
 ·rename_i h0
  have:c.kind=0:=by simpa using h0
  exact⟨.inl this,by omega,by omega⟩
 ·split at h
  ·rename_i h1
   have:c.kind=1:=by simpa using h1
   simp only[Vbk,inR,decide_eq_true_eq,Vb9,beq_eq_false_iff_ne]at h;exact⟨by omega,fun _=>⟨h.1.1.1.2,h.1.1.2,h.1.2,h.2⟩,by omega⟩
  ·simp only[Vbk,inR,decide_eq_true_eq,beq_iff_eq]at h
   exact⟨by omega,by omega,fun _=>h.1.1.2⟩
def uN (xs:List Int)(n:Int):Bool:=xs.any fun x=>x==n
def pK (xs:List Int)(n:Int):Nat:=(xs.takeWhile fun x=>decide (x<n)).length
def Had (xs:List Int)(n:Int):List Int:=if decide ((pK xs n:Int)<xs.length)&&(atI xs (pK xs n:Nat)==n) then xs else xs.take (pK xs n)++[n]++xs.drop (pK xs n)
theorem Gbs (xs:List Int)(n:Int):pK xs n<=xs.length:=(List.takeWhile_sublist _).length_le
theorem Xa7:∀ {xs:List Int} {n:Int} {k:Nat},k<pK xs n->atI xs (k:Int)<n
 |[],n,k,h=>by simp[pK]at h
 | x :: xs, n, k, h => by
  unfold pK at h;rw[Yb7]at h;by_cases hx:x<n
  ·rw[if_pos (by simpa using hx)]at h
   cases k with
   |zero=>exact hx
   |succ k=>exact Xa7 (xs:=xs) (k:=k) (by simpa[pK] using h)
  ·rw[if_neg (by simpa using hx)]at h
   simp at h
theorem Xa8:∀ {xs:List Int} {n:Int},pK xs n<xs.length->¬ atI xs (pK xs n:Nat)<n
 |[],n,h=>by simp at h
 | x :: xs, n, h => by
  unfold pK at h ⊢;rw[Yb7]at h ⊢;by_cases hx:x<n
  ·rw[if_pos (by simpa using hx)]at h ⊢
   exact Xa8 (xs:=xs) (n:=n) (by simpa[pK] using h)
  ·rw[if_neg (by simpa using hx)]
   exact hx
def lG (c:kM):List Int:=if c.kind==1 then [min c.src c.dst,max c.src c.dst] else if c.kind==2 then [c.src] else []
theorem yB (c:kM):(lG c).length<=2:=by
 unfold lG;split
 ·simp
 ·split<;>simp
def wZ (a b:kM):Bool:=(lG a).any fun k=>uN (lG b) k
theorem Ra2 (a b:kM):wZ a b=wZ b a:=by
 unfold wZ uN;rw[Bool.eq_iff_iff];simp only[Xb1,beq_iff_eq];constructor
 ·rintro⟨x,hx,y,hy,rfl⟩;exact⟨y,hy,y,hx,rfl⟩
 ·rintro⟨x,hx,y,hy,rfl⟩;exact⟨y,hy,y,hx,rfl⟩
theorem Tbo {a b:Int}(h:a≠b):Had [a] b=[min a b,max a b]:=by
 by_cases hx:a<b
 ·have e:pK [a] b=1:=by simp[pK,hx]
  unfold Had;rw[e];simp[Int.min_eq_left (Int.le_of_lt hx),Int.max_eq_right (Int.le_of_lt hx)]
 ·have e:pK [a] b=0:=by simp[pK,hx]
  unfold Had;rw[e];simp[atI,h,Int.min_eq_right (by omega:b<=a),Int.max_eq_left (by omega:b<=a)]
def Za4 (l:List bF)(k:Int)(m:Nat):List (List Int):=(Yb1 m).flatMap fun i:Nat=>if (atI l (i:Int)).state==3 then [[k,(i:Int)+1]] else []
def Sb0 (rows:List (List bF))(m:Nat):List (List Int):=(Yb1 m).flatMap fun k:Nat=>Za4 (atI rows (k:Int)) k (atI rows (k:Int)).length
def Ibs (rows:List (List bF)):List (List Int):=Sb0 rows rows.length
theorem Ebk {rows:List (List bF)}{x:List Int}(h:x∈Ibs rows):∃ k i:Nat,k<rows.length/\i<(atI rows (k:Int)).length/\x=[(k:Int),(i:Int)+1]/\(atI (atI rows (k:Int)) (i:Int)).state=3:=by
 unfold Ibs Sb0 Za4 at h;simp only[Zba,Ybu]at h;obtain⟨k,hk,i,hi,hx⟩:=h;split at hx
 ·rename_i hs
  exact⟨k,i,hk,hi,by simpa using hx,by simpa using hs⟩
 ·cases hx
theorem Za5 {t:aM}(ht:dZ t=true){x:List Int}(h:x∈Ibs t.rows):InB x 0/\InB x 1/\x.length=2/\inst t.n (atI x 0) (atI x 1)=true/\(eF t (atI x 0) (atI x 1)).state=3:=by
 obtain⟨k,i,hk,hi,rfl,hs⟩:=Ebk h;have h1:=(cB ht (at_mem hk)).1;have h2:=bX ht;refine⟨by unfold InB;simp,by unfold InB;simp,rfl,?_,?_⟩
 ·simp only[atI,inst,inR,Vbk,decide_eq_true_eq]
  simp;omega
 ·show (eF t (k:Int) ((i:Int)+1)).state=3
  unfold eF;rw[if_pos (by omega),show (i:Int)+1-1=i by omega];exact hs
def Cak (xs ys:List Int)(m:Nat):List Int:=(Yb1 m).map fun i:Nat=>max (atI xs (i:Int)) (atI ys (i:Int))
def wX (a b:bN):bN:=⟨max a.seq b.seq,Cak a.deps b.deps a.deps.length⟩
theorem Vay (xs ys:List Int)(m:Nat):Cak xs ys (m+1)=Cak xs ys m++[max (atI xs (m:Int)) (atI ys (m:Int))]:=by simp[Cak,List.range_succ]
theorem wV (xs ys:List Int)(m:Nat):(Cak xs ys m).length=m:=by simp[Cak]
theorem wW (a b:bN):(wX a b).deps.length=a.deps.length:=wV ..
def Gad (st:Int)(o:Option bF)(r:bF):Option bF:=if r.state==st&&(match o with|none=>true|some b=>decide (b.vote<r.vote)) then some r else o
def Iau (st:Int)(seen:List bF):Nat->Option bF
 |0=>none
 |m+1=>Gad st (Iau st seen m) (atI seen (m:Int))
def Eag (st:Int)(seen:List bF):Nat->Int
 |0=>-1
 |m+1=>if (atI seen (m:Int)).state==st&&(decide (Eag st seen m<0)||decide ((atI seen (Eag st seen m)).vote<(atI seen (m:Int)).vote)) then m else Eag st seen m
theorem zG (st:Int)(seen:List bF):∀ m,-1<=Eag st seen m/\Eag st seen m<m
 |0=>by simp[Eag]
 | m + 1 => by
  have:=zG st seen m;unfold Eag;split<;>omega
theorem Ia4 (st:Int)(seen:List bF)(m:Nat):Eag st seen (m+1)=if (atI seen (m:Int)).state==st&&(decide (Eag st seen m<0)||decide ((atI seen (Eag st seen m)).vote<(atI seen (m:Int)).vote)) then (m:Int) else Eag st seen m:=rfl
theorem Ka6 (st:Int)(seen:List bF)(m:Nat):Iau st seen (m+1)=Gad st (Iau st seen m) (atI seen (m:Int)):=rfl
theorem Ia5 (st:Int)(seen:List bF):∀ m,Iau st seen m=if Eag st seen m<0 then none else some (atI seen (Eag st seen m))
 |0=>rfl
 | m + 1 => by
  have ih:=Ia5 st seen m;have hr:=zG st seen m;rw[Ka6,Ia4,ih];unfold Gad;by_cases h:Eag st seen m<0
  ·rw[if_pos h]
   have h2:decide (Eag st seen m<0)=true:=by simpa using h
   rw[h2];cases (atI seen (m:Int)).state==st
   ·simp[h]
   ·simp;try omega
  ·rw[if_neg h]
   have h2:decide (Eag st seen m<0)=false:=by simpa using h
   rw[h2];simp only[Xba];cases (atI seen (m:Int)).state==st&&decide ((atI seen (Eag st seen m)).vote<(atI seen (m:Int)).vote)
   ·simp[h]
   ·simp;try omega
def sZ (n:Int)(seen:List bF):Nat->bN
 |0=>none0 n
 |m+1=>if (atI seen (m:Int)).state==1 then wX (sZ n seen m) (atI seen (m:Int)).attr else sZ n seen m
theorem Kax (n:Int)(seen:List bF)(m:Nat):sZ n seen (m+1)=if (atI seen (m:Int)).state==1 then wX (sZ n seen m) (atI seen (m:Int)).attr else sZ n seen m:=rfl
theorem Oa7 (n:Int)(seen:List bF):∀ m,(sZ n seen m).deps.length=n.toNat
 |0=>by simp[sZ,none0]
 | m + 1 => by
  have:=Oa7 n seen m;unfold sZ;split
  ·rw[wW,this]
  ·exact this
def Gb0 (seen:List bF)(r:bF):Bool:=r.state==1&&r.vote==0&&decide (r.cmd=(atI seen 0).cmd)&&decide (r.attr=(atI seen 0).attr)
def Oa0 (seen:List bF):Nat->Bool:=zM fun i=>Gb0 seen (atI seen (i:Int))
def fF (n:Int)(seen:List bF):Int×kM×bN :=
 match Iau 2 seen seen.length with
 |some r=>(1,r.cmd,r.attr)
 | none => if Oa0 seen seen.length then (1, (atI seen 0).cmd, (atI seen 0).attr) else
  match Iau 1 seen seen.length with
  |some r=>(2,r.cmd,sZ n seen seen.length)
  |none=>(3,⟨0,0,0,0,0⟩,none0 n)
def Zam (l:List (List Int))(x:List Int):Int:=ixF (fun y=>decide (x=y)) l
def Fbo (k:Int)(rep no:Int)(m:Nat):List (List Int):=(Yb1 m).flatMap fun i:Nat=>if !(k==rep)||!((i:Int)+1==no) then [[k,(i:Int)+1]] else []
def Pbq (deps:List Int)(rep no:Int)(m:Nat):List (List Int):=(Yb1 m).flatMap fun k:Nat=>Fbo k rep no (atI deps (k:Int)).toNat
def Obq (t:aM)(rep no:Int):List (List Int):=Pbq (eF t rep no).attr.deps rep no (eF t rep no).attr.deps.length
theorem Vap {n:Int}{r:bF}(h:rowOk n r=true)(hg:bR n=true):∀ d∈r.attr.deps,0<=d/\d<=6:=by
 have h2:bZ n r.attr=true:=by
  simp only[rowOk,Vbk]at h;have h3:=h.2;split at h3
  ·simp only[Vbk]at h3
   rw[of_decide_eq_true h3.2];exact Ba6 hg
  ·simp only[Vbk]at h3
   exact h3.2
 simp only[bZ,Vbk,Wbg]at h2;exact fun d hd=>Har (h2.2 d hd)
theorem Ebh {deps:List Int}{rep no:Int}{m:Nat}{y:List Int}:y∈Pbq deps rep no m↔∃ k i:Nat,k<m/\(i:Int)<atI deps (k:Int)/\¬((k:Int)=rep/\(i:Int)+1=no)/\y=[(k:Int),(i:Int)+1]:=by
 unfold Pbq Fbo;simp only[Zba,Ybu];constructor
 ·rintro⟨k,hk,i,hi,hy⟩
  split at hy
  ·rename_i hc
   refine⟨k,i,hk,by omega,?_,by simpa using hy⟩;simp only[Wb9,Vb9,beq_eq_false_iff_ne,ne_eq]at hc;omega
  ·cases hy
 ·rintro⟨k,i,hk,hi,cU,rfl⟩
  refine⟨k,hk,i,by omega,?_⟩;rw[if_pos]
  ·simp
  ·simp only[Wb9,Vb9,beq_eq_false_iff_ne,ne_eq]
   omega
def nX (xs:List Int):Prop:=xs.Pairwise (· < ·)
theorem Dau:∀ {xs ys:List Int},nX xs->nX ys->(∀ x,x∈xs↔x∈ys)->xs=ys
 |[],[],_,_,_=>rfl
 |[],y::ys,_,_,h=>by have:=(h y).2 Vb7;cases this
 |x::xs,[],_,_,h=>by have:=(h x).1 Vb7;cases this
 | x :: xs, y :: ys, hx, hy, h => by
  unfold nX at hx hy;rw[Xbg]at hx hy
  have e:x=y:=by
   rcases Vbu.1 ((h x).1 Vb7) with h1|h1
   ·exact h1
   ·rcases Vbu.1 ((h y).2 Vb7) with h2|h2
    ·exact h2.symm
    ·have:=hx.1 y h2
     have:=hy.1 x h1;omega
  subst e;congr 1;refine Dau hx.2 hy.2 fun z=>?_
  constructor
  ·intro hz
   rcases Vbu.1 ((h z).1 (Vb1 _ hz)) with h1|h1
   ·subst h1
    exact absurd (hx.1 z hz) (by omega)
   ·exact h1
  ·intro hz
   rcases Vbu.1 ((h z).2 (Vb1 _ hz)) with h1|h1
   ·subst h1
    exact absurd (hy.1 z hz) (by omega)
   ·exact h1
theorem wM {x n:Int}{xs:List Int}:Had (x::xs) n=if x<n then x::Had xs n else if x==n then x::xs else n::x::xs:=by
 by_cases h:x<n
 ·rw[if_pos h]
  have e:pK (x::xs) n=pK xs n+1:=by simp[pK,h]
  have ea:atI (x::xs) ((pK xs n+1:Nat):Int)=atI xs (pK xs n:Nat):=by
   rw[Naa,Naa,List.getD_cons_succ]
  have el:decide (((pK xs n+1:Nat):Int)<(x::xs).length)=decide (((pK xs n:Nat):Int)<xs.length):=by
   simp only[Wbb,decide_eq_decide];omega
  unfold Had;rw[e,ea,el];split
  ·rfl
  ·simp
 ·rw[if_neg h]
  have e:pK (x::xs) n=0:=by simp[pK,h]
  unfold Had;rw[e];have ea:atI (x::xs) ((0:Nat):Int)=x:=rfl;rw[ea];have el:decide (((0:Nat):Int)<(x::xs).length)=true:=by simp
  rw[el,Wbf];split
  ·rfl
  ·simp
theorem La4:∀ {xs:List Int} {n x:Int},x∈Had xs n↔x∈xs\/x=n
 |[],n,x=>by simp[Had,pK]
 | y :: ys, n, x => by
  rw[wM];split
  ·rw[Vbu,La4,Vbu,or_assoc]
  ·split
   ·rename_i h
    have:y=n:=by simpa using h
    subst this;simp[or_comm]
   ·simp only[Vbu]
    constructor
    ·rintro (h|h|h)
     ·exact .inr h
     ·exact .inl (.inl h)
     ·exact .inl (.inr h)
    ·rintro ((h|h)|h)
     ·exact .inr (.inl h)
     ·exact .inr (.inr h)
     ·exact .inl h
theorem Hac:∀ {xs:List Int} {n:Int},nX xs->nX (Had xs n)
 |[],n,_=>by simp[Had,pK,nX]
 | y :: ys, n, h => by
  have h':=h;unfold nX at h;rw[Xbg]at h;rw[wM];split
  ·unfold nX
   rw[Xbg];refine⟨fun z hz=>?_,Hac h.2⟩
   rcases La4.1 hz with h1|h1
   ·exact h.1 z h1
   ·omega
  ·split
   ·exact h'
   ·rename_i h1 h2
    have:y≠n:=by simpa using h2
    unfold nX;rw[Xbg];refine⟨fun z hz=>?_,h'⟩
    rcases Vbu.1 hz with h3|h3
    ·omega
    ·have:=h.1 z h3
     omega
theorem Dbu {α:Type}[Inhabited α]{p:α->Bool}{xs:List α}(h:0<=ixF p xs):InB xs (ixF p xs)/\p (atI xs (ixF p xs))=true/\∀ k:Nat,(k:Int)<ixF p xs->p (atI xs (k:Int))=false:=by
 unfold ixF at h ⊢
 cases e:xs.findIdx? p with
 |none=>rw[e]at h;simp at h
 | some i =>
  rw[Ybh]at e;obtain⟨hi,hp,a52⟩:=e;refine⟨aX.2 hi,by simp only;rw[bH hi];exact hp,fun k hk=>?_⟩;have jx:k<i:=by simp only at hk;omega
  rw[bH (by omega)];have:=a52 k jx;simpa using this
theorem Kb7 {α:Type}[Inhabited α]{p:α->Bool}{xs:List α}{k:Nat}(hk:k<xs.length)(hp:p (atI xs (k:Int))=true):0<=ixF p xs:=by
 have h:xs.any p=true:=Xb1.2 ⟨_,at_mem hk,hp⟩;rw[<- jG]at h;exact of_decide_eq_true h
end Go.Proofs.YtgpamlpecmldfaaGreat.Rf
