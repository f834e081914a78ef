/- Terms for oe program's functions, and j9 they are right: part 8 of 9. -/
import Derived.Test.YtpgnlmfmlffjcaaGreatRf7
import Derived.Shelf.SlicesE.Clone
import Derived.Laws.CopyOwn
import Derived.LoopN
import Derived.WalkKit
import Derived.RegionTactic
import Derived.ChangeAlike
import Derived.Lib.Bytealg
import Derived.Lib.SplitLaws
import Derived.LaidLaws
import Derived.Lay
import Derived.Shelf.Strings.OnBuilder
import Derived.Shelf.Strconv.Itoa3
import Derived.Lib.AppendIntMem
import Derived.Lib.LaidTab
import Derived.Shelf.Lay
import Derived.Shelf.SlSortCmp.NoneTotal
import Derived.Shelf.SlicesE.Delete
open Bool renaming and_eq_true → Qb1, false_eq_true → Qb4, not_eq_true' → Rbp, or_eq_true → Sbe, not_true → Sb2, and_true → Sb4, false_or → Tbr, true_and → Ubh
open List renaming getElem?_eq_getElem → Qb3, length_append → Qb6, getD_eq_getElem?_getD → Qb8, mem_cons_of_mem → Rbd, length_cons → Rbe, replicate → Rbf, length_map → Rbh, mem_of_getElem? → Rbi, mem_cons_self → Rbj, length_nil → Rbk, length_take → Rbq, getElem?_map → Rbr, map_cons → Rbt, all_eq_true → Rbu, mem_cons → Rb2, getElem?_drop → Rb3, eq_nil_of_length_eq_zero → Sbd, length_drop → Sbf, getElem?_eq_none → Sbj, map_append → Sbr, flatMap_append → Sbu, getElem_mem → Sbx, mem_range → Sb1, length_set → Sb6, mem_of_mem_drop → Tbd, all_cons → Tbe, range_succ → Tbg, mem_flatMap → Tbi, pairwise_cons → Tbn, any_eq_true → Tbs, ext_getElem? → Tbu, range → Tb1, all_nil → Tb5
open Nat renaming le_refl → Rbg, add_assoc → Rbn, lt_or_ge → Rbo, add_zero → Rbx, mul_le_mul_right → Sbl, add_mul → Sbm, zero_le → Sbq, le_trans → Sb3, mul_comm → Uba, div_eq_of_lt → Ubb
open Option renaming bind_eq_some_iff → Qb0, bind_some → Qb7, map_eq_some_iff → Rbc, map_some → Rb9
set_option linter.unusedSimpArgs false
set_option linter.unusedVariables false
set_option linter.unnecessarySimpa false
set_option linter.unusedSectionVars false
namespace Go.Proofs.YtpgnlmfmlffjcaaGreat.Rf
open Go.Proofs Go.Shelf Go.RowKit Go.Lib
section
variable {P:Program} {ρ:Ren}
set_option maxHeartbeats 2000000 in
set_option maxRecDepth 100000 in
theorem Ra1 (L:SlLaysE0.n41 P ρ)(i0:TypeInfo)(z:Value)(size bytes:Nat)(hi:P.info? (ρ.t 23)=some i0)(qT:i0.zero=some z)(ji:i0.size=size)(lv:i0.bytes=bytes)(qg:z.cells.size=size)(b7:0<size)
  (z23:∀ w,(Go.sizeOf (ρ.t 23)).run P w=.ok size w) (a:Addr) (c:Nat) (w:World) :
  Calls P (ρ.f 41) #[.slice (some a) 0 c] w fun e w'=>∃ v',e=.returned v'/\w'.ownsRow w.heap.size (ρ.t 23) size v' 0 []/\Below w.heap.size w w':=by
 have mixed:=L.mixed;have t4:=L.t4;have a4:=L.a4;have z4:=L.z4;have v4:=L.v4;have t22:=L.t22;have a22:=L.a22;have z22:=L.z22;have v22:=L.v22
 have q22:∀ (w:World) (a:Option Addr) (n c n' c':Nat),(binOp .eql (ρ.t 22) (.slice a n c) (.slice none n' c')).run P w=.ok (.bool a.isNone) w:=fun w a n c n' c'=>Lib.run_eql_slice_nil w _ _ a n c n' c' L.t22
 have u22:∀ w,Sem.run P (underlying (ρ.t 22)) w=.ok (TypeDesc.slice (ρ.t 23)) w:=run_underlying t22;obtain⟨_,_,FG⟩:=L.f41
 go_enter FG,SlBodyN.n41_ntmps ρ
 go_wp2_with (at_builtin;refine wpList_append_own _ rfl _ _ (ρ.t 22) rfl w.heap.size (ρ.t 23) i0 z size bytes t22 hi qT ji lv qg b7 _ _ _ rfl (World.ownsRow_made w #[] 0 (Rbg _) (Sbq _) (by simp)) a 0 c [] rfl ?qc1 ?qc2 ?qc3 ?qc4 ?qc5 ?qc6 ?_)
 case qc1=>simp
 case qc2=>intro j u hj;simp at hj
 case qc3=>intro u hu;cases hu
 case qc4=>exact Sbq _
 case qc5=>simp
 case qc6=>simp
 intro v' w1 ab x9 c7
 go_wp2
 go_ret
 exact⟨v',rfl,by simpa using ab,((Below.refl _ w).alloc (Rbg _) _).grown x9 (by simp) (by intro k hk;simp[Value.ownBlock]at hk;omega)⟩
theorem Eac {s:Sig}{G:Gh}{w:World}{vals:List Value}{ds:List D}(h:Za2 s vals w G ds)(hb:s.boxes=[]):lM (nY s G w) G w :=
 ⟨rfl,rfl,rfl,Rbg _,fun b _ _=>⟨rfl,rfl⟩,fun b j hj he=>by
  obtain⟨h1,-⟩:=h.cells b j hj he;rw[hb]at h1;exact absurd h1 (Nat.not_lt_zero _),h.fresh⟩
theorem Bao {s:Sig}{G:Gh}{w w':World}{vals:List Value}{ds:List D}{own':Nat->Ow}(h:Za2 s vals w G ds)(hb:s.boxes=[])(po:Below w.heap.size w w')(h1:∀ b,b<w.heap.size->own' b=G.own b)(h2:∀ b,w'.heap.size<=b->own' b=.frz) :
  lM (nY s G w) { G with own:=own' } w' :=
 ⟨po.os,po.tape,po.output,po.size,fun b hlt _=>⟨po.block b hlt,h1 b hlt⟩,fun b j hj he=>by
  obtain⟨h1,-⟩:=h.cells b j hj he;rw[hb]at h1;exact absurd h1 (Nat.not_lt_zero _),h2⟩
theorem Cby (L:SlLaysE0.n41 P ρ){i0:TypeInfo}{z:Value}{size bytes m key:Nat}{T1:Nat->Ent}(hi:P.info? (ρ.t 23)=some i0)(qT:i0.zero=some z)(ji:i0.size=size)(lv:i0.bytes=bytes)(qg:z.cells.size=size)(b7:0<size)
  (z23:∀ w,(Go.sizeOf (ρ.t 23)).run P w=.ok size w) (hK:∀ n,tN P T1 n key ⟨ρ.f 41,[(false,[.fz false])],[],[(false,[.ow (m+1)])]⟩) :
  Zaz P ⟨ρ.f 41,[(false,[.fz false])],[],[(false,[.ow (m+1)])]⟩ (fun ds=>match ds with
   |[.rows _ []]=>some [.rows size []]
   |ds=>Fun T1 key ds):=by
 intro vals w G ds di bp he;by_cases kt:∃ sz,ds=[.rows sz []]
 ·obtain⟨sz,rfl⟩:=kt
  simp only[Option.some.injEq]at he;subst he;obtain⟨u,us,vs,rfl,⟨v,pN,rfl,⟨eo,-⟩,rfl⟩,mA,c7⟩:=bp.params;simp only[Qb4,if_false]at mA;obtain rfl:v=u:=by simpa using mA
  simp only[jO]at c7;subst c7;have a27:Rd (fun b=>G.own b=.frz) w v (.rows sz []):=eo;obtain⟨A,a,n,c,vs,rfl,hn,hc,-,-⟩:=a27.inv;obtain rfl:n=0:=hn.symm;obtain⟨nm,mb,hfn⟩:=L.f41;refine .inl ⟨gP hfn mb rfl _ _,?_⟩
  cases A with
  | none =>
   refine Calls.mono (AnyE.slices_Clone_nil L 0 c w) fun e w' ⟨h1,h2⟩=>?_
   subst h1;subst h2
   refine⟨G,[.slice none 0 0],rfl,Eac bp rfl,⟨_,_,_,rfl,⟨_,_,rfl,?_,rfl⟩,rfl,rfl⟩,trivial,trivial⟩;exact .sl none ⟨0,0,none⟩ 0 0 _ [] (fun _ _=>undef) rfl (Rbg _) (.inr ⟨rfl,rfl⟩) (by simp) (fun e=>by cases e) (by simp) (by simp)
  | some a' =>
   refine Calls.mono (Ra1 L i0 z size bytes hi qT ji lv qg b7 z23 a' c w) fun e w' ⟨v',h1,h2,h3⟩=>?_
   subst h1
   rcases h2.2 with ⟨rfl,-⟩|⟨g,cap,cur,rfl,hg,aq,-,-,hcur,-⟩
   ·refine⟨{ G with own:=G.own },[.slice none 0 0],rfl,Bao bp rfl h3 (fun _ _=>rfl) (fun b hb=>bp.fresh b (Sb3 h3.size hb)),⟨_,_,_,rfl,⟨_,_,rfl,?_,rfl⟩,rfl,rfl⟩,trivial,trivial⟩
    exact .sl none ⟨0,0,none⟩ 0 0 _ [] (fun _ _=>undef) rfl (Rbg _) (.inr ⟨rfl,rfl⟩) (by simp) (fun e=>by cases e) (by simp) (by simp)
   ·have hlt:g<w'.heap.size:=(Array.getElem?_eq_some_iff.1 aq).1
    refine⟨{ G with own:=fun b=>if b=g then .slc 0 [] else G.own b },[.slice (some ⟨g,0,none⟩) 0 cap],rfl,Bao bp rfl h3 (fun b hb=>if_neg (by omega)) (fun b hb=>?_),⟨_,_,_,rfl,⟨_,_,rfl,?_,rfl⟩,rfl,rfl⟩,trivial,trivial⟩
    ·show (if b=g then _ else _)=_
     rw[if_neg (by omega)];exact bp.fresh b (Sb3 h3.size hb)
    ·refine .sl (some ⟨g,0,none⟩) ⟨g,0,none⟩ 0 cap _ [] (fun _ _=>undef) rfl (Sbq _) (.inl rfl) (by simp) (fun _=>⟨rfl,if_pos rfl,fun k hk=>?_⟩) (by simp) (by simp)
     have fy:k<cur.size:=by omega
     refine⟨cur[k],?_,?_⟩
     ·have hb:((⟨g,0,none⟩:Addr).add k).block=g:=add_block _ _
      have ho:((⟨g,0,none⟩:Addr).add k)=⟨g,k,none⟩:=by unfold Addr.add;split<;>simp_all
      rw[ho];simp[World.cell?,aq,fy]
     ·have ho:((⟨g,0,none⟩:Addr).add k)=⟨g,k,none⟩:=by unfold Addr.add;split<;>simp_all
      rw[ho];simp[World.frozen?,aq]
 ·have he':Fun T1 key ds=some di:=by
   dsimp only at he;split at he
   ·rename_i sz
    exact absurd ⟨sz,rfl⟩ kt
   ·exact he
  obtain⟨n,hn⟩:=Fan.1 he';exact hK n vals w G ds di bp hn
def Ba4 (P:Program)(t:TypeId):Option Nat:=match P.info? t with
 | some i => match i.zero with
  |some z=>if z.cells.size=i.size/\0<i.size then some i.size else none
  |none=>none
 |none=>none
noncomputable def Dbx (size:Nat)(T1:Nat->Ent)(key:Nat):List D->Option (List D):=fun ds=>match ds with
 |[.rows _ []]=>some [.rows size []]
 |ds=>Fun T1 key ds
theorem Zae (L:SlLaysE0.n41 P ρ){size m key f:Nat}{T T1:Nat->Ent}{ti:Nat->Option TI}{sigs:List (Nat×Sig)}(hf:ρ.f 41=f)(h:Ba4 P (ρ.t 23)=some size)(z23:∀ w,(Go.sizeOf (ρ.t 23)).run P w=.ok size w)
  (hK:∀ n,tN P T1 n key ⟨f,[(false,[.fz false])],[],[(false,[.ow (m+1)])]⟩) (hT:T key=.ext (Dbx size T1 key)) :
  Ta3 P T ti sigs key ⟨f,[(false,[.fz false])],[],[(false,[.ow (m+1)])]⟩:=by
 subst hf;unfold Ba4 at h;split at h
 ·rename_i i hi
  split at h
  ·rename_i z hz
   split at h
   ·rename_i h1
    cases h;exact .inr ⟨_,hT,Cby L hi hz rfl rfl h1.1 h1.2 z23 hK⟩
   ·cases h
  ·cases h
 ·cases h
end
end Go.Proofs.YtpgnlmfmlffjcaaGreat.Rf
namespace Go.Proofs.YtpgnlmfmlffjcaaGreat.Rf
open Go.RowKit
section
variable {P:Program}
end
end Go.Proofs.YtpgnlmfmlffjcaaGreat.Rf
namespace Go.Proofs.YtpgnlmfmlffjcaaGreat.Rf
section
variable {P:Program}
end
open Go.Proofs Go.Shelf Go.RowKit Go.Lib
section
variable {P:Program} {ρ:Ren}
end
end Go.Proofs.YtpgnlmfmlffjcaaGreat.Rf
namespace Go.Proofs.YtpgnlmfmlffjcaaGreat.Rf
def ltQ (p q:Int×Int):Bool:=decide (p.1<q.1)||(p.1==q.1&&decide (p.2<q.2))
theorem Lah {p q:Int×Int}:ltQ p q=true↔p.1<q.1\/(p.1=q.1/\p.2<q.2):=by
 unfold ltQ;simp only[Sbe,Qb1,decide_eq_true_eq,beq_iff_eq]
theorem nI {p q:Int×Int}:ltQ p q=false↔q.1<p.1\/(p.1=q.1/\q.2<=p.2):=by
 rw[<- Bool.not_eq_true,Lah];omega
theorem Sa9 {p q:Int×Int}(h:ltQ p q=false)(h':ltQ q p=false):p=q:=by
 rw[nI]at h h';apply Prod.ext<;>omega
def Eb8 {β:Type}(k:β->Int×Int)(x:β):List β->List β
 |[]=>[x]
 |y::r=>if ltQ (k x) (k y) then x::y::r else y::Eb8 k x r
def jK {β:Type}(k:β->Int×Int):List β->List β
 |[]=>[]
 |x::r=>Eb8 k x (jK k r)
theorem Ga6 {β:Type}(k:β->Int×Int)(x:β):∀ l:List β,(Eb8 k x l).Perm (x::l)
 |[]=>.refl _
 | y :: r => by
  unfold Eb8;split
  ·exact .refl _
  ·exact ((Ga6 k x r).cons y).trans (.swap x y r)
theorem dJ {β:Type}(k:β->Int×Int):∀ l:List β,(jK k l).Perm l
 |[]=>.refl _
 |x::r=>(Ga6 k x _).trans ((dJ k r).cons x)
def pW {β:Type}(k:β->Int×Int)(l:List β):Prop:=l.Pairwise fun x y=>ltQ (k y) (k x)=false
theorem Ga5 {β:Type}(k:β->Int×Int)(x:β):∀ {l:List β},pW k l->pW k (Eb8 k x l)
 |[],_=>by unfold Eb8 pW;simp
 | y :: r, h => by
  obtain⟨h1,h2⟩:=List.pairwise_cons.1 h;unfold Eb8;split
  ·rename_i hx
   refine List.pairwise_cons.2 ⟨fun z hz=>?_,h⟩;rw[Lah]at hx
   rcases List.mem_cons.1 hz with rfl|hz
   ·rw[nI];omega
   ·have:=h1 z hz
    rw[nI]at this ⊢;omega
  ·rename_i hx
   refine List.pairwise_cons.2 ⟨fun z hz=>?_,Ga5 k x h2⟩
   rcases List.mem_cons.1 ((Ga6 k x r).mem_iff.1 hz) with rfl|hz
   ·simpa using hx
   ·exact h1 z hz
theorem oK {β:Type}(k:β->Int×Int):∀ l:List β,pW k (jK k l)
 |[]=>List.Pairwise.nil
 |x::r=>Ga5 k x (oK k r)
theorem Dax {β:Type}(k:β->Int×Int){l l':List β}(hp:l'.Perm l)(hs:pW k l')(hi:∀ x∈l,∀ y∈l,k x=k y->x=y):l'=jK k l :=
 List.Perm.eq_of_pairwise (le:=fun x y=>ltQ (k y) (k x)=false) (fun a b ha hb h1 h2=>hi a (hp.mem_iff.1 ha) b ((dJ k l).mem_iff.1 hb) (Sa9 h2 h1)) hs (oK k l) (hp.trans (dJ k l).symm)
def Ra0 (p q:Int×Int):Int:=if ltQ p q then -1 else if ltQ q p then 1 else 0
theorem Fbq {p q:Int×Int}:decide (Ra0 p q<0)=ltQ p q:=by
 unfold Ra0
 cases h:ltQ p q with
 |true=>rfl
 | false =>
  simp only[Qb4,if_false];split<;>rfl
def Gan (p:Int×Int):D:=.rows 1 [[.int .i64 p.1],[.int .i64 p.2]]
def Jav:List (List D)->Option (List (Int×Int))
 |[]=>some []
 |[.rows 1 [[.int .i64 a],[.int .i64 b]]]::r=>(Jav r).map ((a,b)::·)
 |_=>none
theorem Jau:∀ {rs:List (List D)} {l:List (Int×Int)},Jav rs=some l->rs=l.map fun p=>[Gan p]
 |[],l,h=>by obtain rfl:=Option.some.inj h;rfl
 | r :: rs, l, h => by
  unfold Jav at h;split at h
  ·rename_i he;cases he
  ·rename_i a b r' he
   obtain⟨rfl,rfl⟩:=List.cons.inj he;rw[Rbc]at h;obtain⟨l',h1,rfl⟩:=h;rw[Jau h1];rfl
  ·cases h
theorem Jat:∀ l:List (Int×Int),Jav (l.map fun p=>[Gan p])=some l
 |[]=>rfl
 | p :: r => by
  show (Jav (r.map fun p=>[Gan p])).map ((p.1,p.2)::·)=_
  rw[Jat r];rfl
def Iaq:List (List D)->Option (List Int)
 |[]=>some []
 |[.int .i64 a]::r=>(Iaq r).map (a::·)
 |_=>none
theorem Ga1:∀ {rs:List (List D)} {l:List Int},Iaq rs=some l->rs=l.map fun p=>[D.int .i64 p]
 |[],l,h=>by obtain rfl:=Option.some.inj h;rfl
 | r :: rs, l, h => by
  unfold Iaq at h;split at h
  ·rename_i he;cases he
  ·rename_i a r' he
   obtain⟨rfl,rfl⟩:=List.cons.inj he;rw[Rbc]at h;obtain⟨l',h1,rfl⟩:=h;rw[Ga1 h1];rfl
  ·cases h
theorem Oar:∀ l:List Int,Iaq (l.map fun p=>[D.int .i64 p])=some l
 |[]=>rfl
 | p :: r => by
  show (Iaq (r.map fun p=>[D.int .i64 p])).map (p::·)=_
  rw[Oar r];rfl
def uY:Nat:=1000000
def Gac:List D->Option (List D)
 |[.rows 1 rs]=>(Jav rs).bind fun l=>if l.length<=uY then some [.rows 1 ((jK id l).map fun p=>[Gan p])] else none
 |_=>none
def fZ (kl:List Int)(n:Int):Int×Int:=(kl.getD n.toNat 0,0)
def Da6 (l kl:List Int):Bool:=(l.all fun n=>decide (0<=n)&&decide (n.toNat<kl.length))&&(kl.all fun k=>decide (0<=k)&&decide (k<=1000000000))&&(l.all fun n=>l.all fun m=>!(fZ kl n==fZ kl m)||n==m)
def Jah:List D->Option (List D)
 |[.rows 1 rs,.rows 1 ks]=>(Iaq rs).bind fun l=>(Iaq ks).bind fun kl=>if l.length<=uY/\Da6 l kl=true then some [.rows 1 ((jK (fZ kl) l).map fun p=>[D.int .i64 p])] else none
 |_=>none
section
open Go.Proofs Go.Shelf Go.Sort
variable {P:Program} {ρ:Ren} {own:Nat->Ow} {w:World}
theorem Rp.zero1 {r:Nat}{p:List Nat}{v:Value}{d:D}(h:Rp own w r p 0 v d):Rd (fun b=>own b=.frz) w v d:=by
 cases h with
 |sc h=>exact .sc h
 |hole v h1=>exact .hole v h1
 |fz h=>exact h
theorem zT {ds:List D}{bx:Nat->Addr}:∀ {b i q:Nat} {bs:List (Bool×List (BS×BO))},(bs.all (·.1))=true->kX own w ds bx b i q bs
 |b,i,q,[],_=>trivial
 | b, i, q, (ro, cs) :: bs, h => by
  simp only[Tbe,Qb1]at h;simp only[kX];rw[if_pos h.1];exact zT h.2
theorem Faz {α:Type}[Inhabited α](enc:α->Value)(dq off m:Nat)(dk:Array α)(os:Array Obj){b:Nat}(hb:b<w.heap.size)(bh:b≠dq):(sortWorld enc w dq off m dk os).heap[b]?=w.heap[b]?:=by
 unfold sortWorld;rw[heap_grow_old _ _ (by simpa using hb)];simp[putRow,mapBlock,Array.getElem?_modify,Ne.symm bh]
theorem Wai {α:Type}[Inhabited α](enc:α->Value)(dq off m:Nat)(dk:Array α)(os:Array Obj):w.heap.size<=(sortWorld enc w dq off m dk os).heap.size:=by
 unfold sortWorld;rw[size_grow];simp
theorem Eby {α:Type}{lt:α->α->Prop}:∀ {l:List α},(∀ i j (hi:i<l.length) (hj:j<l.length),i<j->lt l[i] l[j])->l.Pairwise lt:=fun h=>List.pairwise_iff_getElem.2 fun i j hi hj nh=>h i j hi hj nh
theorem Taz {a:Addr}(h:a.spot=none)(k:Nat):a.add k=⟨a.block,a.off+k,none⟩:=by
 cases a with
 | mk b o s =>
  obtain rfl:s=none:=h;unfold Addr.add;split
  ·rename_i h0;subst h0;rfl
  ·rfl
theorem Nay (L:SlLaysF.n6 P ρ){α β:Type}[Inhabited α](enc:α->Value)(b:α->β)(tf:β->D)(qj:β->Int×Int)(cf:α->α->Int)(qe:∀ x y,ltOf cf x y=ltQ (qj (b x)) (qj (b y)))
  {g:Nat} {cs:List LS} {bxs:List (Bool×List (BS×BO))} {vals:List Value} {G:Gh} {ds:List D} (bp:Za2 ⟨ρ.f 6,[(false,[.mu 1]),(false,[.clo g cs])],bxs,[]⟩ vals w G ds)
  (nF:(bxs.all (·.1))=true) (eg:∀ args w,(callFunc g args).run P w=.ok (.enter g args) w)
  {v:Value} (hv:v=G.hdr 0) (cb:List Value) (x7:vals=[v,.func (.func g) #[] cb.toArray])
  (mo:∀ dq off size,G.own dq=.slc 0 []->CmpLays1 P g cb.toArray enc cf dq off size w) (ya:∀ x,Rd (fun b=>G.own b=.frz) w (enc x) (tf (b x)))
  {a:Addr} {n c:Nat} (ev:v=.slice (some a) n c) (cC:a.spot=none) (ab:G.own a.block=.slc 0 []) (bk:∀ k,k<c->∃ u,w.cell? (a.add k)=some u/\w.frozen? (a.add k)=false)
  (hnc:n<=c) (hn:n<=uY) (ew:0<n) (xs:List α) (lE:xs.length=n) (jm:∀ i x,xs[i]?=some x->w.cell? (a.add i)=some (enc x)) (a3l:∀ x∈xs.map b,∀ y∈xs.map b,qj x=qj y->x=y) :
  Calls P (ρ.f 6) vals.toArray w fun e w'=>∃ u,e=.returned u/\Ma0 ⟨ρ.f 6,[(false,[.mu 1]),(false,[.clo g cs])],bxs,[]⟩ (nY ⟨ρ.f 6,[(false,[.mu 1]),(false,[.clo g cs])],bxs,[]⟩ G w) G.bx u w' [.rows 1 ((jK qj (xs.map b)).map fun p=>[tf p])]:=by
 have ig:=Taz cC;have h1:OneCell enc:=fun x=>(ya x).one
 have hblk:a.block<w.heap.size:=by
  obtain⟨u,hu,-⟩:=bk 0 (by omega);have:=Ha0 hu;rwa[add_block]at this
 have b7:xs.toArray.size=n:=by simpa using lE
 have hH:Holds enc w a.block a.off xs.toArray:=by
  intro j hj;rw[b7]at hj;have hjx:j<xs.length:=by omega
  have hx:=jm j xs[j] (by rw[Qb3 hjx]);obtain⟨u,hu,hf⟩:=bk j (by omega);rw[ig]at hx hf;refine⟨?_,hf⟩;rw[hx,getElem!_pos xs.toArray j (by simpa using hjx)];simp
 have hO:SWO (ltOf cf):=by
  refine⟨fun x=>?_,fun x y z h h'=>?_,fun x y z h h'=>?_⟩
  ·rw[qe,nI];omega
  ·rw[qe,Lah]at *;omega
  ·rw[qe,nI]at *;omega
 have hS:=Any.slices_SortFunc L enc h1 cf hO g cb.toArray a.block a.off c xs.toArray w eg (mo _ _ _ ab) hH hblk (by rw[b7];unfold uY at hn;omega)
 have ea:(⟨a.block,a.off,none⟩:Addr)=a:=by
  cases a with
  | mk b o s =>
   obtain rfl:s=none:=cC;rfl
 rw[b7,ea,<- ev]at hS;rw[x7];refine hS.mono ?_
 rintro e w' ⟨rfl,d',m,os,hP,hSo,rfl⟩
 refine⟨_,rfl,?_⟩;obtain⟨kt,-,sY⟩:=hP;rw[b7]at kt;have e1:d'.extract 0 n=d':=by rw[<- kt];exact Array.extract_size
 have e2:xs.toArray.extract 0 n=xs.toArray:=by rw[<- b7];exact Array.extract_size
 rw[e1,e2]at sY
 have qz:d'.toList.map b=jK qj (xs.map b):=by
  refine Dax qj (by simpa using sY.map b) ?_ a3l;refine Eby fun i j hi hj nh=>?_
  have cu:i<d'.size:=by simpa using hi
  have dv:j<d'.size:=by simpa using hj
  have:=hSo i j (Sbq _) nh (by omega);rw[qe,getElem!_pos d' i cu,getElem!_pos d' j dv]at this;simpa using this
 have hlen:(jK qj (xs.map b)).length=n:=by rw[(dJ qj _).length_eq,Rbh,lE]
 have hH':Holds enc (sortWorld enc w a.block a.off m d' os) a.block a.off d':=by
  unfold sortWorld;refine holds_grow _ _ _ _ _ _ (by simpa using hblk) (holds_putRow enc _ _ _ xs.toArray d' hH (by rw[b7,kt]))
 refine⟨{ G with own:=fun b=>if b=a.block then .slc 1 [] else G.own b },[],rfl,?_,rfl,⟨?_,trivial⟩,zT nF⟩
 ·refine⟨rfl,rfl,rfl,Wai enc _ _ _ _ _,fun b hb ho=>?_,fun b j hb ho=>?_,fun b hb=>?_⟩
  ·have bh:b≠a.block:=by rintro rfl;change G.own a.block=_\/G.own a.block=_ at ho;rw[ab]at ho;rcases ho with h|h<;>cases h
   exact⟨Faz enc _ _ _ _ _ hb bh,if_neg bh⟩
  ·have bh:b≠a.block:=by rintro rfl;change G.own a.block=_ at ho;rw[ab]at ho;cases ho
   obtain⟨-,c0,e0,fr,uy⟩:=bp.cells b j hb ho;refine⟨(if_neg bh).trans ho,c0,c0,e0,fr,uy,(Faz enc _ _ _ _ _ hb bh).trans uy,rfl,fun _ _=>rfl⟩
  ·have h0:=Sb3 (Wai enc a.block a.off m d' os) hb
   show (if b=a.block then _ else _)=_
   rw[if_neg (by omega)];exact bp.fresh b h0
 ·show Rp _ _ _ _ _ (G.hdr 0) _
  rw[<- hv,ev]
  have eA:∀ i p,(jK qj (xs.map b))[i]?=some p->∃ x,d'[i]?=some x/\b x=p/\i<d'.size:=by
   intro i p hi;rw[<- qz,Rbr,Rbc]at hi;obtain⟨x,hx,rfl⟩:=hi;rw[Array.getElem?_toList]at hx;exact⟨x,hx,rfl,(Array.getElem?_eq_some_iff.1 hx).1⟩
  refine .sl (some a) a n c 1 _ (fun i _=>enc d'[i]!) (by rw[Rbh,hlen]) hnc (.inl rfl) (by simp) (fun _=>⟨cC,if_pos rfl,fun k hk=>?_⟩) (fun i row hi j d hj=>?_) (fun i row hi j d hj=>?_)
  ·rw[Nat.mul_one]at hk
   rcases Rbo k n with qk|qk
   ·obtain⟨h3,h4⟩:=hH' k (by omega)
    rw[ig];exact⟨_,h3,h4⟩
   ·obtain⟨u,hu,hf⟩:=bk k hk
    rw[ig]at hu hf ⊢;refine⟨u,?_,?_⟩
    ·unfold sortWorld
     rw[cell?_grow _ _ _ (by simpa using hblk),cell?_putRow_other _ _ _ _ _ _ (.inr (.inr (by simp only[kt];omega)))];exact hu
    ·unfold sortWorld
     rw[frozen?_grow _ _ _ (by simpa using hblk),frozen?_putRow];exact hf
  ·rw[Rbr,Rbc]at hi
   obtain⟨p,hp,rfl⟩:=hi;obtain⟨x,hx,-,hlt⟩:=eA i p hp
   cases j with
   |succ j=>simp at hj
   | zero =>
    rw[Nat.mul_one,Rbx,ig];exact (hH' i hlt).1
  ·rw[Rbr,Rbc]at hi
   obtain⟨p,hp,rfl⟩:=hi;obtain⟨x,hx,hb,hlt⟩:=eA i p hp
   cases j with
   |succ j=>simp at hj
   | zero =>
    simp only[List.getElem?_cons_zero,Option.some.injEq]at hj;subst hj
    have ex:d'[i]! = x:=by
     rw[getElem!_pos d' i hlt];exact (Array.getElem?_eq_some_iff.1 hx).2
    rw[ex,<- hb];refine .fz ((ya x).mono' fun b hb hlt=>?_);have bh:b≠a.block:=by rintro rfl;rw[ab]at hb;cases hb
    exact⟨(if_neg bh).trans hb,Faz enc _ _ _ _ _ hlt bh⟩
end
section
open Go.Proofs Go.Shelf Go.Sort
variable {P:Program} {ρ:Ren} {own:Nat->Ow} {w:World}
theorem Xaf {f g:Nat}{cs:List LS}{bxs:List (Bool×List (BS×BO))}{vals:List Value}{G:Gh}{ds:List D}(bp:Za2 ⟨f,[(false,[.mu 1]),(false,[.clo g cs])],bxs,[]⟩ vals w G ds)
  (nF:(bxs.all (·.1))=true) {d:D} (h:Rp G.own w 0 [] 1 (G.hdr 0) d) :
  Ma0 ⟨f,[(false,[.mu 1]),(false,[.clo g cs])],bxs,[]⟩ (nY ⟨f,[(false,[.mu 1]),(false,[.clo g cs])],bxs,[]⟩ G w) G.bx (.tuple #[]) w [d]:=by
 let fu:Nat->Ow:=fun b=>match G.own b with
  |.slc s p=>if s=0 then (if p.length<1 then .slc 1 p else .frz) else .slc s p
  |o=>o
 refine⟨{ G with own:=fu },[],rfl,⟨rfl,rfl,rfl,Rbg _,fun b hb ho=>⟨rfl,?_⟩,fun b j hb ho=>?_,fun b hb=>?_⟩,rfl,⟨?_,trivial⟩,zT nF⟩
 ·change G.own b=_\/G.own b=_ at ho
  show fu b=G.own b
  rcases ho with ho|ho<;>simp only[fu,ho]
 ·change G.own b=_ at ho
  obtain⟨-,c0,e0,fr,uy⟩:=bp.cells b j hb ho;refine⟨?_,c0,c0,e0,fr,uy,uy,rfl,fun _ _=>rfl⟩;show fu b=_
  simp only[fu,ho]
 ·show fu b=_
  simp only[fu,bp.fresh b hb]
 ·show Rp fu w 1 [] 1 (G.hdr 0) d
  refine h.move (fun b hb _=>⟨by simp only[fu,hb],rfl⟩) [] 1 (Rbg _) fun b t hb=>⟨?_,rfl⟩
  simp only[List.nil_append]at hb ⊢;simp only[fu,hb,if_true]
def Mar (P:Program)(g:Nat):Prop :=
 ∀ (a b:Addr) (ca cb:Nat) (x y:Int×Int) (w:World),w.cell? a=some (.int .i64 x.1)->w.cell? (a.add 1)=some (.int .i64 x.2)->w.cell? b=some (.int .i64 y.1)->w.cell? (b.add 1)=some (.int .i64 y.2) ->
  Calls P g #[.slice (some a) 2 ca,.slice (some b) 2 cb] w fun e w'=>e=.returned (.int .i64 (Ra0 x y))/\∃ q os,w'=grow (w.drewN q) os
def Ta2 (own:Nat->Ow)(w:World)(v:Value)(p:Int×Int):Prop :=
 ∃ a c,v=.slice (some a) 2 c/\2<=c/\own a.block=.frz/\w.cell? a=some (.int .i64 p.1)/\w.cell? (a.add 1)=some (.int .i64 p.2)
theorem Xa1 {v:Value}{p:Int×Int}(h:Rd (fun b=>own b=.frz) w v (Gan p)):Ta2 own w v p:=by
 obtain⟨A,a,n,c,vs,rfl,hn,hc,hA,b7,aq,bd⟩:=h.inv;obtain rfl:n=2:=hn.symm;obtain rfl:A=some a:=hA.resolve_left (by omega);obtain⟨h1,h2⟩:=aq 0 _ rfl 0 _ rfl;obtain⟨-,h3⟩:=aq 1 _ rfl 0 _ rfl;have h4:=bd 0 _ rfl 0 _ rfl;have h5:=bd 1 _ rfl 0 _ rfl;have e0:a.add 0=a:=if_pos rfl;simp only[Nat.zero_mul,Rbx,Nat.one_mul,e0]at h2 h3;generalize vs 0 0=u0 at h2 h4;generalize vs 1 0=u1 at h3 h5;obtain rfl:u0=.int .i64 p.1:=by cases h4 with|sc h=>cases h;rfl
 obtain rfl:u1=.int .i64 p.2:=by cases h5 with|sc h=>cases h;rfl
 exact⟨a,c,rfl,hc,h1,h2,h3⟩
theorem Ta2.rd {v:Value}{p:Int×Int}(h:Ta2 own w v p):Rd (fun b=>own b=.frz) w v (Gan p):=by
 obtain⟨a,c,rfl,hc,ho,h1,h2⟩:=h;have e0:a.add 0=a:=if_pos rfl;refine .rows (some a) a 2 c 1 _ (fun i _=>if i=0 then .int .i64 p.1 else .int .i64 p.2) rfl hc (.inr rfl) (by simp) (fun i r hi j d hj=>?_) (fun i r hi j d hj=>?_)
 ·match i,j with
  |0,0=>exact⟨ho,by simpa[e0] using h1⟩
  |1,0=>exact⟨ho,by simpa using h2⟩
  |0,j+1=>simp at hi;subst hi;simp at hj
  |1,j+1=>simp at hi;subst hi;simp at hj
  |i+2,_=>simp at hi
 ·match i,j with
  |0,0=>simp at hi;subst hi;simp at hj;subst hj;exact .sc (.int _ _)
  |1,0=>simp at hi;subst hi;simp at hj;subst hj;exact .sc (.int _ _)
  |0,j+1=>simp at hi;subst hi;simp at hj
  |1,j+1=>simp at hi;subst hi;simp at hj
  |i+2,_=>simp at hi
theorem Rp.sl1 {v:Value}{sz:Nat}{rs:List (List D)}(h:Rp own w 0 [] 1 v (.rows sz rs)):∃ (A:Option Addr) (a:Addr) (n c:Nat) (vs:Nat->Nat->Value),v=.slice A n c/\rs.length=n/\n<=c/\(A=some a\/(A=none/\c=0))/\(∀ r∈rs,r.length=sz) /\
  (A=some a->a.spot=none/\own a.block=.slc 0 []/\∀ k,k<c*sz->∃ u,w.cell? (a.add k)=some u/\w.frozen? (a.add k)=false) /\
  (∀ i row,rs[i]?=some row->∀ j d,row[j]?=some d->w.cell? (a.add (i*sz+j))=some (vs i j))/\∀ i row,rs[i]?=some row->∀ j d,row[j]?=some d->Rd (fun b=>own b=.frz) w (vs i j) d:=by
 obtain⟨A,a,n,c,vs,e1,e2,e3,e4,e5,e6,e7,e8⟩:=h.sl_inv;exact⟨A,a,n,c,vs,e1,e2,e3,e4,e5,e6,e7,fun i row hi j d hj=>(e8 i row hi j d hj).zero1⟩
theorem Bba (L : SlLaysF.n6 P ρ) {g : Nat} {fn : Func} {c : Code} (hg : P.funcs[g]? = some fn) (hname : (fn.name == "runtime.NumGoroutine") = false) (hb : fn.body = some c) (W : Mar P g) :
  Zaz P ⟨ρ.f 6,[(false,[.mu 1]),(false,[.clo g []])],[],[]⟩ Gac:=by
 intro vals w G ds di bp hr;unfold Gac at hr;split at hr
 case h_2=>cases hr
 rename_i rs;rw[Qb0]at hr;obtain⟨l,hl,hr⟩:=hr;split at hr
 case isFalse=>cases hr
 rename_i hlen;obtain rfl:=Option.some.inj hr;obtain⟨u,us,vs,rfl,⟨v,pN,rfl,⟨hv,cA⟩,rfl⟩,mA,u2,zl,vs2,rfl,⟨v2,vs3,rfl,⟨cb,rfl,nB⟩,rfl⟩,hsh2,c7⟩:=bp.params;simp only[Qb4,if_false]at mA hsh2;obtain rfl:v=u:=by simpa using mA
 obtain rfl:Value.func (.func g) #[] cb.toArray=u2:=by simpa using hsh2
 simp only[jO]at c7;subst c7;simp only[wS]at nB;subst nB;have kA:Rp G.own w 0 [] 1 v (.rows 1 rs):=cA;obtain⟨A,a,n,c,cv,b5,hn,nw,hA,b7,ab,aq,bd⟩:=kA.sl1;obtain rfl:=Jau hl;rw[Rbh]at hn;obtain⟨nm,mb,hfn⟩:=L.f6;refine .inl ⟨gP hfn mb rfl _ _,?_⟩
 rcases Nat.eq_zero_or_pos n with h0|ew
 ·subst h0
  obtain rfl:l=[]:=Sbd hn;have h:=AnyF.slices_SortFunc_none (P:=P) (ρ:=ρ) { L with } A c (.func (.func g) #[] #[]) w;rw[b5];refine h.mono ?_
  rintro e w' ⟨rfl,rfl⟩
  exact Xaf bp rfl (hv▸kA)
 ·obtain rfl:A=some a:=by
   rcases hA with h|⟨-,h⟩
   ·exact h
   ·omega
  obtain⟨cC,jf,bk⟩:=ab rfl
  let α:={ x:Value×(Int×Int) // Ta2 G.own w x.1 x.2 }
  have hex:∀ i,i<n->∃ x:α,l[i]?=some x.1.2/\cv i 0=x.1.1:=by
   intro i hi;have cu:l[i]?=some (l[i]'(by omega)):=Qb3 (by omega);have hr:=bd i [Gan (l[i]'(by omega))] (by rw[Rbr,cu];rfl) 0 _ rfl;exact⟨⟨(cv i 0,l[i]'(by omega)),Xa1 hr⟩,cu,rfl⟩
  obtain⟨xs,lE,jm⟩:=Lam n hex
  haveI:Inhabited α:=⟨(hex 0 ew).choose⟩
  have rm:xs.map (fun x:α=>x.1.2)=l:=by
   apply Tbu;intro i;rw[Rbr]
   rcases Rbo i n with hi|hi
   ·have hx:xs[i]?=some (xs[i]'(by omega)):=Qb3 (by omega)
    rw[hx];exact (jm i _ hx).1.symm
   ·rw[Sbj (by omega),Sbj (by omega)]
    rfl
  have gn:=Nay (w:=w) (G:=G) L (α:=α) (fun x=>x.1.1) (fun x=>x.1.2) Gan id (fun x y=>Ra0 x.1.2 y.1.2) (fun x y=>Fbq) (g:=g) bp rfl (fun args w=>gP hg hname hb args w) hv [] rfl
   (fun dq off size w9 m os dk hs x y=>?_) (fun x=>x.2.rd) b5 cC jf (fun k hk=>bk k (by omega)) nw (by omega) ew xs lE (fun i x hx=>?_) (fun x _ y _ h=>h)
  ·rw[rm]at gn
   refine gn.mono ?_
   rintro e w' ⟨u,rfl,h⟩
   exact h
  ·obtain⟨ax,cx,x4,hcx,rz,kb,gg⟩:=x.2
   obtain⟨ay,cy,u9,hcy,rv,th,tj⟩:=y.2
   have cH:∀ (b:Addr) (u:Value),G.own b.block=.frz->w.cell? b=some u->(sortWorld (fun x:α=>x.1.1) w dq off m dk os).cell? b=some u:=by
    intro b u ho hc;refine (eF (Faz _ _ _ _ _ _ (Ha0 hc) ?_)).trans hc;intro e;rw[e,w9]at ho;cases ho
   show Calls P g #[x.1.1,y.1.1] _ _
   rw[x4,u9];exact (W ax ay cx cy x.1.2 y.1.2 _ (cH _ _ rz kb) (cH _ _ (by rw[add_block];exact rz) gg) (cH _ _ rv th) (cH _ _ (by rw[add_block];exact rv) tj))
  ·obtain⟨h1,h2⟩:=jm i x hx
   have:=aq i [Gan x.1.2] (by rw[Rbr,h1];rfl) 0 _ rfl;rw[Nat.mul_one,Rbx,h2]at this;exact this
theorem Wan (L : SlLaysF.n6 P ρ) {f g key : Nat} {fn : Func} {c : Code} {T : Nat -> Ent} {ti : Nat -> Option TI} {sigs : List (Nat × Sig)} (hf : ρ.f 6 = f) (hg : P.funcs[g]? = some fn) (hname : (fn.name == "runtime.NumGoroutine") = false) (hb : fn.body = some c) (W : Mar P g)
  (hT:T key=.ext Gac):Ta3 P T ti sigs key ⟨f,[(false,[.mu 1]),(false,[.clo g []])],[],[]⟩:=by
 subst hf;exact .inr ⟨_,hT,Bba L hg hname hb W⟩
end
section
open Go.Proofs Go.Shelf Go.Sort
variable {P:Program} {ρ:Ren} {own:Nat->Ow} {w:World}
def Sac (P:Program)(g:Nat):Prop :=
 ∀ (p ad:Addr) (n c:Nat) (x y kx ky:Int) (w:World),w.cell? p=some (.slice (some ad) n c)->0<=x->x.toNat<n->0<=y->y.toNat<n->w.cell? (ad.add x.toNat)=some (.int .i64 kx)->w.cell? (ad.add y.toNat)=some (.int .i64 ky) ->
  Calls P g #[.int .i64 x,.int .i64 y,.pointer (some p)] w fun e w'=>e=.returned (.int .i64 (IntKind.i64.wrap (kx-ky)))/\∃ q os,w'=grow (w.drewN q) os
theorem Ua4 {l kl:List Int}(h:Da6 l kl=true):(∀ n∈l,0<=n/\n.toNat<kl.length)/\(∀ k∈kl,0<=k/\k<=1000000000)/\∀ n∈l,∀ m∈l,fZ kl n=fZ kl m->n=m:=by
 unfold Da6 at h;simp only[Qb1,Rbu,decide_eq_true_eq,Sbe,Rbp,beq_iff_eq,beq_eq_false_iff_ne]at h;obtain⟨⟨h1,h2⟩,h3⟩:=h;exact⟨h1,h2,fun n hn m hm e=>(h3 n hn m hm).resolve_left fun h=>h e⟩
theorem wrap_small {k:Int}(h:-4000000000<=k)(h':k<=4000000000):IntKind.i64.wrap k=k:=by
 simp only[IntKind.wrap,IntKind.bits,IntKind.signed];simp;omega
theorem Bbb (L : SlLaysF.n6 P ρ) {g : Nat} {fn : Func} {c : Code} (hg : P.funcs[g]? = some fn) (hname : (fn.name == "runtime.NumGoroutine") = false) (hb : fn.body = some c) (W : Sac P g) :
  Zaz P ⟨ρ.f 6,[(false,[.mu 1]),(false,[.clo g [.px 0]])],[(true,[(.fz false,.fz)])],[]⟩ Jah:=by
 intro vals w G ds di bp hr;unfold Jah at hr;split at hr
 case h_2=>cases hr
 rename_i rs ks;rw[Qb0]at hr;obtain⟨l,hl,hr⟩:=hr;rw[Qb0]at hr;obtain⟨kl,mC,hr⟩:=hr;split at hr
 case isFalse=>cases hr
 rename_i hc;obtain⟨hlen,hko⟩:=hc;obtain rfl:=Option.some.inj hr;obtain⟨u6,ox,hk3⟩:=Ua4 hko;obtain⟨u,us,vs,rfl,⟨v,pN,rfl,⟨hv,cA⟩,rfl⟩,mA,u2,zl,vs2,rfl,⟨v2,vs3,rfl,⟨cb,rfl,nB⟩,rfl⟩,hsh2,c7⟩:=bp.params;simp only[Qb4,if_false]at mA hsh2;obtain rfl:v=u:=by simpa using mA
 obtain rfl:Value.func (.func g) #[] cb.toArray=u2:=by simpa using hsh2
 simp only[jO]at c7;subst c7;obtain⟨pv,cbs,rfl,⟨wh,-⟩,nB⟩:=nB;simp only[wS]at nB;subst nB;subst wh;obtain⟨vm,hbo,⟨⟨kv,kg,-,kc,-⟩,-⟩,-⟩:=bp.boxes;rw[if_pos rfl]at hbo;have a4d:Rd (fun b=>G.own b=.frz) w kv (.rows 1 ks):=kc;obtain⟨Ak,ak,nk,ck,kvs,rfl,hnk,hck,hAk,-,tP,zz⟩:=a4d.inv;have eb:(G.bx 0).add 0=G.bx 0:=if_pos rfl;rw[eb]at kg;have kA:Rp G.own w 0 [] 1 v (.rows 1 rs):=cA;obtain⟨A,a,n,c,cv,b5,hn,nw,hA,b7,ab,aq,bd⟩:=kA.sl1;obtain rfl:=Ga1 hl;obtain rfl:=Ga1 mC;rw[Rbh]at hn hnk;obtain⟨nm,mb,hfn⟩:=L.f6;refine .inl ⟨gP hfn mb rfl _ _,?_⟩
 rcases Nat.eq_zero_or_pos n with h0|ew
 ·subst h0
  obtain rfl:l=[]:=Sbd hn;have h:=AnyF.slices_SortFunc_none (P:=P) (ρ:=ρ) { L with } A c (.func (.func g) #[] #[.pointer (some (G.bx 0))]) w;rw[b5];refine h.mono ?_
  rintro e w' ⟨rfl,rfl⟩
  exact Xaf bp rfl (hv▸kA)
 ·obtain rfl:A=some a:=by
   rcases hA with h|⟨-,h⟩
   ·exact h
   ·omega
  obtain⟨cC,jf,bk⟩:=ab rfl
  let α:={ x:Int // 0<=x/\x.toNat<kl.length }
  have hex:∀ i,i<n->∃ x:α,l[i]?=some x.1/\cv i 0=.int .i64 x.1:=by
   intro i hi;have cu:l[i]?=some (l[i]'(by omega)):=Qb3 (by omega);have hr:=bd i [.int .i64 (l[i]'(by omega))] (by rw[Rbr,cu];rfl) 0 _ rfl;refine⟨⟨l[i]'(by omega),u6 _ (Sbx _)⟩,cu,?_⟩;generalize cv i 0=u at hr
   cases hr with
   |sc h=>cases h;rfl
  obtain⟨xs,lE,jm⟩:=Lam n hex
  haveI:Inhabited α:=⟨(hex 0 ew).choose⟩
  have rm:xs.map (fun x:α=>x.1)=l:=by
   apply Tbu;intro i;rw[Rbr]
   rcases Rbo i n with hi|hi
   ·have hx:xs[i]?=some (xs[i]'(by omega)):=Qb3 (by omega)
    rw[hx];exact (jm i _ hx).1.symm
   ·rw[Sbj (by omega),Sbj (by omega)]
    rfl
  have gl:∀ x:α,∃ k,fZ kl x.1=(k,0)/\0<=k/\k<=1000000000/\Ak=some ak/\G.own ak.block=.frz/\w.cell? (ak.add x.1.toNat)=some (.int .i64 k):=by
   intro x;have hlt:=x.2.2;have hg:kl[x.1.toNat]?=some (kl[x.1.toNat]'hlt):=Qb3 hlt;have h1:=tP x.1.toNat [.int .i64 (kl[x.1.toNat]'hlt)] (by rw[Rbr,hg];rfl) 0 _ rfl;have h2:=zz x.1.toNat [.int .i64 (kl[x.1.toNat]'hlt)] (by rw[Rbr,hg];rfl) 0 _ rfl;have h3:=ox _ (Sbx hlt);refine⟨kl[x.1.toNat]'hlt,by unfold fZ;rw[Qb8,hg];rfl,h3.1,h3.2,hAk.resolve_left (by omega),h1.1,?_⟩;have h4:=h1.2;rw[Nat.mul_one,Rbx]at h4;rw[h4];generalize kvs x.1.toNat 0=u at h2
   cases h2 with
   |sc h=>cases h;rfl
  have gn:=Nay (w:=w) (G:=G) L (α:=α) (fun x=>.int .i64 x.1) (fun x=>x.1) (fun n=>.int .i64 n) (fZ kl) (fun x y=>IntKind.i64.wrap ((fZ kl x.1).1-(fZ kl y.1).1)) (fun x y=>?_) (g:=g) bp rfl (fun args w=>gP hg hname hb args w) hv [.pointer (some (G.bx 0))] rfl
   (fun dq off size w9 m os dk hs x y=>?_) (fun x=>.sc (.int _ _)) b5 cC jf (fun k hk=>bk k (by omega)) nw (by omega) ew xs lE (fun i x hx=>?_) ?_
  ·rw[rm]at gn
   refine gn.mono ?_
   rintro e w' ⟨u,rfl,h⟩
   exact h
  ·obtain⟨kx,ex,kb,gg,-⟩:=gl x
   obtain⟨ky,ey,th,tj,-⟩:=gl y;have e1:IntKind.i64.wrap ((fZ kl x.1).1-(fZ kl y.1).1)=kx-ky:=by rw[ex,ey];exact wrap_small (by dsimp only;omega) (by dsimp only;omega)
   have e2:ltOf (fun x y:α=>IntKind.i64.wrap ((fZ kl x.1).1-(fZ kl y.1).1)) x y=decide (kx-ky<0):=by
    unfold ltOf;simp only[e1]
   rw[e2,ex,ey];unfold ltQ;simp;omega
  ·obtain⟨kx,ex,kb,gg,hA,cm,hxc⟩:=gl x
   obtain⟨ky,ey,th,tj,-,-,hyc⟩:=gl y
   have cH:∀ (b:Addr) (u:Value),G.own b.block≠.slc 0 []->w.cell? b=some u->(sortWorld (fun x:α=>Value.int .i64 x.1) w dq off m dk os).cell? b=some u:=by
    intro b u ho hc;refine (eF (Faz _ _ _ _ _ _ (Ha0 hc) ?_)).trans hc;intro e;rw[e]at ho;exact ho w9
   show Calls P g #[.int .i64 x.1,.int .i64 y.1,.pointer (some (G.bx 0))] (sortWorld (fun x:α=>Value.int .i64 x.1) w dq off m dk os) fun e w'=>e=.returned (.int .i64 (IntKind.i64.wrap ((fZ kl x.1).1-(fZ kl y.1).1)))/\∃ q os',w'=grow ((sortWorld (fun x:α=>Value.int .i64 x.1) w dq off m dk os).drewN q) os'
   rw[ex,ey];refine W (G.bx 0) ak nk ck x.1 y.1 kx ky _ ?_ x.2.1 (by have:=x.2.2;omega) y.2.1 (by have:=y.2.2;omega) (cH _ _ (by rw[add_block,cm];simp) hxc) (cH _ _ (by rw[add_block,cm];simp) hyc);rw[<- hA];exact cH _ _ (by rw[hbo];simp) kg
  ·obtain⟨h1,h2⟩:=jm i x hx
   have:=aq i [.int .i64 x.1] (by rw[Rbr,h1];rfl) 0 _ rfl;rw[Nat.mul_one,Rbx,h2]at this;exact this
  ·rw[rm]
   exact hk3
theorem Wao (L : SlLaysF.n6 P ρ) {f g key : Nat} {fn : Func} {c : Code} {T : Nat -> Ent} {ti : Nat -> Option TI} {sigs : List (Nat × Sig)} (hf : ρ.f 6 = f) (hg : P.funcs[g]? = some fn) (hname : (fn.name == "runtime.NumGoroutine") = false) (hb : fn.body = some c) (W : Sac P g)
  (hT:T key=.ext Jah):Ta3 P T ti sigs key ⟨f,[(false,[.mu 1]),(false,[.clo g [.px 0]])],[(true,[(.fz false,.fz)])],[]⟩:=by
 subst hf;exact .inr ⟨_,hT,Bbb L hg hname hb W⟩
end
section
open Go.Proofs Go.Shelf Go.RowKit Go.Lib Go.Sort
variable {P:Program} {ρ:Ren}
set_option maxHeartbeats 4000000 in
set_option maxRecDepth 1000000 in
theorem Rar (L:SlLaysE0.n45 P ρ){K:Nat}{i0:TypeInfo}{z:Value}(jq:P.info? (ρ.t 23)=some i0)(qT:i0.zero=some z)(ji:i0.size=K)(qg:z.cells.size=K)(hK:0<K)(hzo:∀ u∈z.cells.toList,u.oneCell'=true)
  (z23:∀ w,(Go.sizeOf (ρ.t 23)).run P w=.ok K w) (dq off n cap i j:Nat) (w:World) (olds:List Value) (pj:olds.length=n*K) (qy:∀ k u,olds[k]?=some u->w.cell? ⟨dq,off+k,none⟩=some u) (ho1:∀ u∈olds,u.oneCell'=true)
  (br:∀ k,k<cap*K->∃ u,w.cell? ⟨dq,off+k,none⟩=some u/\w.frozen? ⟨dq,off+k,none⟩=false) (nw:n<=cap) (hn:n<=4611686018427387904) (nh:i<=j) (hj:j<=n) :
  Calls P (ρ.f 45) #[.slice (some ⟨dq,off,none⟩) n cap,.int .i64 i,.int .i64 j] w fun e w'=>e=.returned (.slice (some ⟨dq,off,none⟩) (n-(j-i)) cap) /\
   ((i=j/\w'=w)\/(i<j/\w'=(w.drew.setCells dq (off+i*K) (olds.drop (j*K))).setCells dq (off+(i+(n-j))*K) (Builtin.zeroCells z.cells (n-(i+(n-j)))).toList)):=by
 have mixed:=L.mixed;have t0:=L.t0;have a0:=L.a0;have z0:=L.z0;have v0:=L.v0;have t3:=L.t3;have a3:=L.a3;have z3:=L.z3;have v3:=L.v3;have t4:=L.t4;have a4:=L.a4;have z4:=L.z4;have v4:=L.v4;have t22:=L.t22;have a22:=L.a22;have z22:=L.z22;have v22:=L.v22
 by_cases heq:i=j
 ·subst heq
  have h0:Calls P (ρ.f 45) #[.slice (some ⟨dq,off,none⟩) n cap,.int .i64 i,.int .i64 i] w fun e w'=>e=.returned (.slice (some ⟨dq,off,none⟩) n cap)/\w'=w:=by
   clear qy ho1 br pj;obtain⟨_,_,FG⟩:=L.f45
   go_enter FG,SlBodyN.n45_ntmps ρ
   go_wp2
   all_goals (go_ret;exact⟨rfl,rfl⟩)
  refine h0.mono ?_
  rintro e w' ⟨rfl,rfl⟩
  exact⟨by rw[Nat.sub_self,Nat.sub_zero],.inl ⟨rfl,rfl⟩⟩
 ·have hlt:i<j:=by omega
  obtain⟨news,ir⟩:∃ news,news=olds.drop (j*K):=⟨_,rfl⟩;have hlen:news.length=(n-j)*K:=by rw[ir,Sbf,pj,Nat.sub_mul]
  have hjc:cap≠j->j<cap:=by omega
  have hmul:∀ a b:Nat,a<=b->a*K<=b*K:=fun a b h=>Sbl K h
  obtain⟨A,hA,mf⟩:∃ A:Addr,(if cap=j then (some (⟨dq,off,none⟩:Addr)) else some ⟨dq,off+j*K,none⟩)=some A/\Hid (∀ t u,news[t]?=some u->w.drew.cell? (A.add t)=some u):=by
   by_cases h:cap=j
   ·refine⟨⟨dq,off,none⟩,by simp[h],fun t u hu=>?_⟩
    have h0:news.length=0:=by rw[hlen,show n-j=0 by omega,Nat.zero_mul]
    rw[List.length_eq_zero_iff.1 h0]at hu;simp at hu
   ·refine⟨⟨dq,off+j*K,none⟩,by simp[h],fun t u hu=>?_⟩
    rw[ir,Rb3]at hu;have:=qy _ u hu;rw[Addr.add_lit,show off+j*K+t=off+(j*K+t) by omega];exact this
  have s1:Hid (news.length=(n-j)*K):=hlen;have s2:Hid (∀ u∈news,u.oneCell'=true):=fun u hu=>ho1 u (Tbd (ir▸hu))
  have jo:i*K+(n-j)*K<=cap*K:=by rw[<- Sbm];exact hmul _ _ (by omega)
  have s3:Hid (∀ t,t<news.length->(w.drew.cell? ⟨dq,off+i*K+t,none⟩).isSome=true/\w.drew.frozen? ⟨dq,off+i*K+t,none⟩=false):=by
   intro t ht;rw[hlen]at ht;obtain⟨u,h1,h2⟩:=br (i*K+t) (by omega);rw[Rbn];exact⟨by show (w.cell? _).isSome=true;rw[h1];rfl,h2⟩
  obtain⟨W1,hW1⟩:∃ W1,W1=w.drew.setCells dq (off+i*K) news:=⟨_,rfl⟩
  have sC:∀ k,k<cap*K->∃ u,W1.cell? ⟨dq,off+k,none⟩=some u/\W1.frozen? ⟨dq,off+k,none⟩=false:=by
   intro k hk;obtain⟨u,h1,h2⟩:=br k hk;rw[hW1];obtain⟨u',h3⟩:=jB (w:=w.drew) (B:=dq) (o:=off+i*K) (vs:=news) (b:=⟨dq,off+k,none⟩) (fun _=>rfl) (fun t ht=>(s3.out t ht).1) h1;exact⟨u',h3,by rw[World.frozen?_setCells];exact h2⟩
  generalize hZ:(Builtin.zeroCells z.cells (n-(i+(n-j)))).toList=Z;have hZl:Z.length=(n-(i+(n-j)))*K:=by rw[<- hZ];simp[Builtin.zeroCells,qg]
  have yf:∀ u∈Z,u.oneCell'=true:=by
   intro u hu;rw[<- hZ,Builtin.zeroCells,Array.mem_toList_iff,Array.mem_map]at hu;obtain⟨q,hq,rfl⟩:=hu;have hlt:q % z.cells.size<z.cells.size:=Nat.mod_lt _ (by omega);rw[getElem!_pos z.cells _ hlt];exact hzo _ (Array.getElem_mem_toList hlt)
  have eV:∀ ty,(Builtin.clear_ #[ρ.t 22] ty #[.slice (some ⟨dq,off+(i+(n-j))*K,none⟩) (n-(i+(n-j))) (cap-(i+(n-j)))]).run P W1=.ok (.tuple #[]) (W1.setCells dq (off+(i+(n-j))*K) Z):=by
   intro ty
   have bk:∀ t,t<Z.length->∃ u,W1.cell? ⟨dq,off+(i+(n-j))*K+t,none⟩=some u/\W1.frozen? ⟨dq,off+(i+(n-j))*K+t,none⟩=false:=fun t ht=>by
    have h1:(i+(n-j))*K+(n-(i+(n-j)))*K<=cap*K:=by rw[<- Sbm];exact hmul _ _ (by omega)
    have:=sC ((i+(n-j))*K+t) (by omega);rwa[<- Rbn]at this
   have aj:=run_storeCells_cells (P:=P) dq (off+(i+(n-j))*K) Z 0 W1 (fun t ht=>by obtain⟨u,h1,-⟩:=bk t ht;rw[Rbx,h1];rfl) (fun t ht=>by rw[Rbx];exact (bk t ht).choose_spec.2) yf;obtain⟨q,hq⟩:∃ q,n-(i+(n-j))=q+1:=⟨n-(i+(n-j))-1,by omega⟩;rw[hq]at hZ ⊢;simp only[Rbx]at aj;simp[Builtin.clear_,run_underlying t22,kK jq qT,hZ,aj]
  have hW:Hid (W1=w.drew.setCells dq (off+i*K) news):=hW1;have hn':Hid (news=olds.drop (j*K)):=ir;have yz:i<=cap:=by omega
  have hjc:j<=cap:=by omega
  have hK0:Hid (0<K):=hK;clear hW1 ir hlen sC br qy ho1 pj hmul jo hZ hZl yf hK;obtain⟨_,_,FG⟩:=L.f45
  go_enter FG,SlBodyN.n45_ntmps ρ
  go_wp2_with fail
  go_region_law_o (refine step_append_room rfl (.tmp 22) (.tmp 25) (ρ.t 22) rfl (ρ.t 23) i0 K t22 jq ji dq off i cap (by simp[Act.eval,Act.put]) A (n-j) (cap-j) news (by simp[Act.eval,Act.put]) s1.out mf.out s2.out (by omega) s3.out ?_;rw[<- hW.out])
  go_wp2
  go_ret
  refine⟨by rw[show n-(j-i)=i+(n-j) by omega];rfl,.inr ⟨hlt,?_⟩⟩;rw[hW.out,hn'.out]
end
section
open Go.Proofs Go.Shelf
variable {P:Program} {ρ:Ren}
def Fbl (K:Nat):List D->Option (List D)
 |[.rows sz rs,.int .i64 i,.int .i64 j]=>if sz=K/\0<=i/\i<=j/\j<=rs.length/\rs.length<=4611686018427387904/\0<rs.length then some [.rows K (rs.take i.toNat++rs.drop j.toNat)] else none
 |_=>none
def Ya5 (K i j:Nat):Ow->Ow
 |.slc 0 (k::p)=>if k / K<i then .slc 0 (k::p) else if k / K<j then .frz else .slc 0 ((k-(j-i)*K)::p)
 |o=>o
theorem Cbo {K i j r c:Nat}{p:List Nat}(hK:0<K)(hc:c<K)(h:r<i):Ya5 K i j (.slc 0 ((r*K+c)::p))=.slc 0 ((r*K+c)::p):=by
 have e:(r*K+c) / K=r:=by rw[Uba,Nat.mul_add_div hK,Ubb hc,Rbx]
 simp only[Ya5];rw[e,if_pos h]
theorem Ya4 {K i j r c:Nat}{p:List Nat}(hK:0<K)(hc:c<K)(nh:i<=j)(h:i<=r):Ya5 K i j (.slc 0 (((r+(j-i))*K+c)::p))=.slc 0 ((r*K+c)::p):=by
 have e:((r+(j-i))*K+c) / K=r+(j-i):=by rw[Uba,Nat.mul_add_div hK,Ubb hc,Rbx]
 simp only[Ya5];rw[e,if_neg (by omega),if_neg (by omega),Sbm];congr 2;omega
theorem Ya3 (L:SlLaysE0.n45 P ρ){K m:Nat}{i0:TypeInfo}{z:Value}(jq:P.info? (ρ.t 23)=some i0)(qT:i0.zero=some z)(ji:i0.size=K)(qg:z.cells.size=K)(hK:0<K)(hzo:∀ u∈z.cells.toList,u.oneCell'=true)
  (z23:∀ w,(Go.sizeOf (ρ.t 23)).run P w=.ok K w):Zaz P ⟨ρ.f 45,[(false,[.ow (m+1)]),(false,[.sc]),(false,[.sc])],[],[(false,[.ow (m+1)])]⟩ (Fbl K):=by
 intro vals w G ds di bp hr;unfold Fbl at hr;split at hr
 case h_2=>cases hr
 rename_i sz rs i j;split at hr
 case isFalse=>cases hr
 rename_i hc;obtain⟨rfl,h0,nh,hj,hbig,ew⟩:=hc;obtain rfl:=Option.some.inj hr;obtain⟨u,us,vs,rfl,⟨v,pN,rfl,⟨hv,cA⟩,rfl⟩,mA,u2,zl,vs2,rfl,⟨v2,vs3,rfl,gz,rfl⟩,hsh2,u3,us3,vs4,rfl,⟨v3,vs5,rfl,hs3,rfl⟩,hsh3,c7⟩:=bp.params;simp only[Qb4,if_false]at mA hsh2 hsh3;obtain rfl:v=u:=by simpa using mA
 obtain rfl:v2=u2:=by simpa using hsh2
 obtain rfl:v3=u3:=by simpa using hsh3
 simp only[jO]at c7;subst c7;have a30:Sc v2 (.int .i64 i):=gz;have a4p:Sc v3 (.int .i64 j):=hs3;obtain rfl:=a30.int_inv;obtain rfl:=a4p.int_inv;have kA:Rp G.own w 0 [] (m+1) v (.rows sz rs):=cA;obtain⟨A,a,n,c,cv,b5,hn,nw,hA,b7,ab,aq,bd⟩:=kA.sl_inv
 obtain rfl:A=some a:=by
  rcases hA with h|⟨-,h⟩
  ·exact h
  ·omega
 obtain⟨cC,jf,bk⟩:=ab rfl;have ig:=Taz cC;obtain⟨nm,mb,hfn⟩:=L.f45;refine .inl ⟨gP hfn mb rfl _ _,?_⟩
 have ea:(⟨a.block,a.off,none⟩:Addr)=a:=by
  cases a with
  | mk b o s =>
   obtain rfl:s=none:=cC;rfl
 have ph:=Cas b7 aq;have eV:(kU cv n sz).length=n*sz:=mX _ _ _
 have rh:∀ r,r<n->∃ row,rs[r]?=some row/\row.length=sz:=fun r hr=>by
  have h1:rs[r]?=some (rs[r]'(by omega)):=Qb3 (by omega);exact⟨_,h1,b7 _ (Rbi h1)⟩
 have gA:∀ u∈kU cv n sz,u.oneCell'=true:=by
  intro u hu;obtain⟨k,hk⟩:=List.mem_iff_getElem?.1 hu;obtain⟨k1,k2,k3,rfl⟩:=Dak hk;obtain⟨row,h1,h2⟩:=rh _ k1;have h3:row[k % sz]?=some (row[k % sz]'(by omega)):=Qb3 (by omega);exact (bd _ _ h1 _ _ h3).one
 have qw:((i.toNat:Nat):Int)=i:=by omega
 have hej:((j.toNat:Nat):Int)=j:=by omega
 have hW:=Rar L jq qT ji qg hK hzo z23 a.block a.off n c i.toNat j.toNat w (kU cv n sz) eV (fun k u hk=>by rw[<- ig];exact ph k u (hn.symm▸hk)) gA (fun k hk=>by rw[<- ig];exact bk k hk) nw (by omega) (by omega) (by omega);rw[ea,<- b5,qw,hej]at hW;refine hW.mono ?_
 rintro e w' ⟨rfl,hw⟩
 rcases hw with ⟨a2c,rfl⟩|⟨hlt,hw⟩
 ·
  refine⟨G,[_],rfl,Eac bp rfl,⟨_,_,_,rfl,⟨_,_,rfl,?_,rfl⟩,rfl,rfl⟩,trivial,trivial⟩;have e1:rs.take i.toNat++rs.drop j.toNat=rs:=by rw[<- a2c];exact List.take_append_drop _ _
  show Rp G.own w' 0 [] (m+1) (.slice (some a) (n-(j.toNat-i.toNat)) c) (.rows sz (rs.take i.toNat++rs.drop j.toNat))
  rw[e1,show n-(j.toNat-i.toNat)=n by omega,<- b5];exact kA
 ·generalize hI:i.toNat=I at *
  generalize hJ:j.toNat=J at *;have hJn:J<=n:=by omega
  generalize hZ:(Builtin.zeroCells z.cells (n-(I+(n-J)))).toList=Z at hw;have hZl:Z.length=(n-(I+(n-J)))*sz:=by rw[<- hZ];simp[Builtin.zeroCells,qg]
  have hmul:∀ a b:Nat,a<=b->a*sz<=b*sz:=fun a b h=>Sbl sz h
  have ri:((kU cv n sz).drop (J*sz)).length=(n-J)*sz:=by rw[Sbf,eV,Nat.sub_mul]
  generalize ir:(kU cv n sz).drop (J*sz)=news at hw ri;have jo:I*sz+(n-J)*sz<=c*sz:=by rw[<- Sbm];exact hmul _ _ (by omega)
  have hroom2:(I+(n-J))*sz+(n-(I+(n-J)))*sz<=c*sz:=by rw[<- Sbm];exact hmul _ _ (by omega)
  have my:∀ k,k<c*sz->∃ u,w.cell? ⟨a.block,a.off+k,none⟩=some u/\w.frozen? ⟨a.block,a.off+k,none⟩=false:=fun k hk=>by rw[<- ig];exact bk k hk
  have yy:∀ t,t<news.length->(w.drew.cell? ⟨a.block,a.off+I*sz+t,none⟩).isSome=true:=fun t ht=>by
   obtain⟨u,h1,-⟩:=my (I*sz+t) (by omega);rw[<- Rbn]at h1;show (w.cell? _).isSome=true
   rw[h1];rfl
  have sT:∀ k,k<c*sz->∃ u,(w.drew.setCells a.block (a.off+I*sz) news).cell? ⟨a.block,a.off+k,none⟩=some u/\(w.drew.setCells a.block (a.off+I*sz) news).frozen? ⟨a.block,a.off+k,none⟩=false:=by
   intro k hk;obtain⟨u,h1,h2⟩:=my k hk;obtain⟨u',h3⟩:=jB (w:=w.drew) (B:=a.block) (o:=a.off+I*sz) (vs:=news) (b:=⟨a.block,a.off+k,none⟩) (fun _=>rfl) yy h1;exact⟨u',h3,by rw[World.frozen?_setCells];exact h2⟩
  have a3s:∀ t,t<Z.length->((w.drew.setCells a.block (a.off+I*sz) news).cell? ⟨a.block,a.off+(I+(n-J))*sz+t,none⟩).isSome=true:=fun t ht=>by
   obtain⟨u,h1,-⟩:=sT ((I+(n-J))*sz+t) (by omega);rw[<- Rbn]at h1;rw[h1];rfl
  have ny:∀ k,k<c*sz->∃ u,w'.cell? ⟨a.block,a.off+k,none⟩=some u/\w'.frozen? ⟨a.block,a.off+k,none⟩=false:=by
   intro k hk;obtain⟨u,h1,h2⟩:=sT k hk;rw[hw];obtain⟨u',h3⟩:=jB (B:=a.block) (o:=a.off+(I+(n-J))*sz) (vs:=Z) (b:=⟨a.block,a.off+k,none⟩) (fun _=>rfl) a3s h1;exact⟨u',h3,by rw[World.frozen?_setCells];exact h2⟩
  have vp:∀ k u,k<I*sz->w.cell? ⟨a.block,a.off+k,none⟩=some u->w'.cell? ⟨a.block,a.off+k,none⟩=some u:=by
   intro k u hk h1;have:I*sz<=(I+(n-J))*sz:=hmul _ _ (by omega);rw[hw,World.cell?_setCells_out _ _ _ _ _ (fun _ _=>.inl (by dsimp only;omega)),World.cell?_setCells_out _ _ _ _ _ (fun _ _=>.inl (by dsimp only;omega))];exact h1
  have y9:∀ t u,news[t]?=some u->w'.cell? ⟨a.block,a.off+I*sz+t,none⟩=some u:=by
   intro t u ht;have htl:=(List.getElem?_eq_some_iff.1 ht).1;have e1:(I+(n-J))*sz=I*sz+(n-J)*sz:=Sbm _ _ _;rw[hw,World.cell?_setCells_out _ _ _ _ _ (fun _ _=>.inl (by dsimp only;omega)),World.cell?_setCells_in a.block news (a.off+I*sz) w.drew yy t htl,<- ht,Qb3]
  have bg:∀ b,b≠a.block->w'.heap[b]?=w.heap[b]?:=fun b hb=>by
   rw[hw,bY _ _ _ _ _ hb,bY _ _ _ _ _ hb];rfl
  have lp:w'.heap.size=w.heap.size:=by rw[hw,setCells_size,setCells_size];rfl
  have iw:w'.os=w.os/\w'.tape=w.tape/\w'.output=w.output:=by
   obtain⟨q1,q2,q3⟩:=gV a.block Z (a.off+(I+(n-J))*sz) (w.drew.setCells a.block (a.off+I*sz) news);obtain⟨p1,p2,p3⟩:=gV a.block news (a.off+I*sz) w.drew;rw[hw];exact⟨q1.trans p1,q2.trans p2,q3.trans p3⟩
  have wc:∀ b,(∀ p,G.own b≠.slc 0 p)->Ya5 sz I J (G.own b)=G.own b:=by
   intro b hb
   cases e:G.own b with
   | slc s p =>
    cases s with
    |zero=>exact absurd e (hb p)
    |succ s=>rfl
   |_=>rfl
  have tu:∀ b,G.own b=.frz->b<w.heap.size->Ya5 sz I J (G.own b)=.frz/\w'.heap[b]?=w.heap[b]?:=fun b hb _=>⟨by rw[hb];rfl,bg b fun e=>by rw[e,jf]at hb;cases hb⟩
  have ku:∀ {b k:Nat} {p:List Nat},G.own b=.slc 0 (k::p)->w'.heap[b]?=w.heap[b]?:=fun {b k p} hb=>bg b fun e=>by rw[e,jf]at hb;injection hb with _ hb;cases hb
  refine⟨{ G with own:=fun b=>Ya5 sz I J (G.own b) },[_],rfl,⟨iw.1,iw.2.1,iw.2.2,by rw[lp];exact Rbg _,fun b hb ho=>?_,fun b q hb ho=>?_,fun b hb=>?_⟩,⟨_,_,_,rfl,⟨_,_,rfl,?_,rfl⟩,rfl,rfl⟩,trivial,trivial⟩
  ·change G.own b=_\/G.own b=_ at ho
   refine⟨bg b fun e=>?_,wc b fun p e=>?_⟩
   ·rw[e,jf]at ho;rcases ho with h|h<;>cases h
   ·rw[e]at ho;rcases ho with h|h<;>cases h
  ·exact absurd (bp.cells b q hb ho).1 (Nat.not_lt_zero _)
  ·show Ya5 sz I J (G.own b)=.frz
   rw[bp.fresh b (by omega)];rfl
  ·show Rp (fun b=>Ya5 sz I J (G.own b)) w' 0 [] (m+1) (.slice (some a) (n-(J-I)) c) (.rows sz (rs.take I++rs.drop J))
   have dt:∀ r row,(rs.take I++rs.drop J)[r]?=some row->(r<I/\rs[r]?=some row)\/(I<=r/\rs[r+(J-I)]?=some row):=by
    intro r row hr;have jx:(rs.take I).length=I:=by rw[Rbq];omega
    rcases Rbo r I with h|h
    ·rw[List.getElem?_append_left (by omega),List.getElem?_take,if_pos h]at hr
     exact .inl ⟨h,hr⟩
    ·rw[List.getElem?_append_right (by omega),jx,Rb3,show J+(r-I)=r+(J-I) by omega]at hr
     exact .inr ⟨h,hr⟩
   refine .sl (some a) a _ c sz _ (fun r q=>if r<I then cv r q else cv (r+(J-I)) q) ?_ (by omega) (.inl rfl) (fun row hr=>?_) (fun _=>⟨cC,?_,fun k hk=>?_⟩) (fun r row hr q d hq=>?_) (fun r row hr q d hq=>?_)
   ·rw[Qb6,Rbq,Sbf];omega
   ·rcases List.mem_append.1 hr with h|h
    ·exact b7 row (List.mem_of_mem_take h)
    ·exact b7 row (Tbd h)
   ·rw[jf];rfl
   ·rw[ig];exact ny k hk
   ·rcases dt r row hr with ⟨h,h1⟩|⟨h,h1⟩
    ·rw[if_pos h]
     have xe:q<sz:=by rw[<- b7 row (Rbi h1)];exact (List.getElem?_eq_some_iff.1 hq).1
     have h2:=aq r row h1 q d hq;rw[ig]at h2 ⊢;refine vp _ _ ?_ h2;have:=hmul (r+1) I (by omega);rw[Sbm]at this;omega
    ·rw[if_neg (by omega)]
     have xe:q<sz:=by rw[<- b7 row (Rbi h1)];exact (List.getElem?_eq_some_iff.1 hq).1
     have lg:r+(J-I)<n:=by rw[<- hn];exact (List.getElem?_eq_some_iff.1 h1).1
     have h3:news[(r-I)*sz+q]?=some (cv (r+(J-I)) q):=by
      rw[<- ir,Rb3,show J*sz+((r-I)*sz+q)=(r+(J-I))*sz+q by rw[<- Rbn,<- Sbm];congr 2;omega];exact xY cv lg xe
     have:=y9 _ _ h3;rw[show a.off+I*sz+((r-I)*sz+q)=a.off+(r*sz+q) by rw[Rbn,<- Rbn (I*sz),<- Sbm];congr 3;omega,<- ig]at this;exact this
   ·rcases dt r row hr with ⟨h,h1⟩|⟨h,h1⟩
    ·rw[if_pos h]
     have xe:q<sz:=by rw[<- b7 row (Rbi h1)];exact (List.getElem?_eq_some_iff.1 hq).1
     have:=(bd r row h1 q d hq).mono' (own':=fun b=>Ya5 sz I J (G.own b)) (w':=w') (r':=0) (q:=[r*sz+q]) (q':=[r*sz+q]) tu [] (by simp) (fun b t hb=>⟨by rw[hb];exact Cbo hK xe h,ku hb⟩);simpa using this
    ·rw[if_neg (by omega)]
     have xe:q<sz:=by rw[<- b7 row (Rbi h1)];exact (List.getElem?_eq_some_iff.1 hq).1
     have:=(bd _ row h1 q d hq).mono' (own':=fun b=>Ya5 sz I J (G.own b)) (w':=w') (r':=0) (q:=[(r+(J-I))*sz+q]) (q':=[r*sz+q]) tu [] (by simp) (fun b t hb=>⟨by rw[hb];exact Ya4 hK xe (by omega) h,ku hb⟩);simpa using this
def Sad (P:Program)(t:TypeId):Bool:=match P.info? t with
 | some i => match i.zero with
  |some z=>z.cells.toList.all fun u=>u.oneCell'
  |none=>true
 |none=>true
theorem Vaw (L:SlLaysE0.n45 P ρ){K m f key:Nat}{T:Nat->Ent}{ti:Nat->Option TI}{sigs:List (Nat×Sig)}(hf:ρ.f 45=f)(h:Ba4 P (ρ.t 23)=some K)(z23:∀ w,(Go.sizeOf (ρ.t 23)).run P w=.ok K w)
  (ji:Sad P (ρ.t 23)=true) (hT:T key=.ext (Fbl K)) :
  Ta3 P T ti sigs key ⟨f,[(false,[.ow (m+1)]),(false,[.sc]),(false,[.sc])],[],[(false,[.ow (m+1)])]⟩:=by
 subst hf;unfold Ba4 at h;split at h
 ·rename_i i hi
  split at h
  ·rename_i z hz
   split at h
   ·rename_i h1
    cases h
    have h2:(z.cells.toList.all fun u=>u.oneCell')=true:=by
     unfold Sad at ji;rw[hi]at ji;dsimp only at ji;rw[hz]at ji;exact ji
    rw[Rbu]at h2;exact .inr ⟨_,hT,Ya3 L hi hz rfl h1.1 h1.2 h2 z23⟩
   ·cases h
  ·cases h
 ·cases h
end
class Enc (α:Type) where
 sz:Nat
 enc:α->List D
 len:∀ a,(enc a).length=sz
instance:Enc Int:=⟨1,fun n=>[i64 n],fun _=>rfl⟩
instance:Enc Bool:=⟨1,fun b=>[.bool b],fun _=>rfl⟩
instance:Enc (List UInt8):=⟨1,fun s=>[.str s],fun _=>rfl⟩
def rL {α:Type}[Enc α](xs:List α):D:=.rows (Enc.sz α) (xs.map Enc.enc)
instance {α:Type} [Enc α]:Enc (List α):=⟨1,fun xs=>[rL xs],fun _=>rfl⟩
def InB {α:Type}(xs:List α)(k:Int):Prop:=0<=k/\k<xs.length
def atI {α:Type}[Inhabited α](xs:List α)(k:Int):α:=xs.getD k.toNat default
def fQ {α:Type}(xs:List α)(k:Int)(a:α):List α:=xs.set k.toNat a
theorem aM {α:Type}{xs:List α}{i:Nat}:InB xs (i:Int)↔i<xs.length:=by unfold InB;omega
theorem Man {α:Type}[Inhabited α]{xs:List α}{i:Nat}:atI xs (i:Int)=xs.getD i default:=rfl
theorem aV {α:Type}[Inhabited α]{xs:List α}{i:Nat}(h:i<xs.length):atI xs (i:Int)=xs[i]:=by
 rw[Man,Qb8,Qb3 h];rfl
theorem InB.lt {α:Type}{xs:List α}{k:Int}(h:InB xs k):k.toNat<xs.length:=by unfold InB at h;omega
def tick:Nat:=0
def Pbh:Nat:=0
def jH {γ:Type}(c:Bool)(a b:γ):γ:=match c with
 |true=>a
 |false=>b
theorem Vak {γ:Type}{a b:γ}:jH true a b=a:=rfl
theorem Raj {γ:Type}{a b:γ}:jH false a b=b:=rfl
@[congr] theorem Fbi {γ:Type} {c c':Bool} {a b:γ} (h:c=c') {dd:Nat} (hd:tick=dd):jH c a b=jH c' a b:=by rw[h]
theorem aJ {γ:Type}{c:Bool}{a b r:γ}(h1:c=true->a=r)(h2:c=false->b=r):jH c a b=r:=by
 cases c with
 |true=>exact h1 rfl
 |false=>exact h2 rfl
section
variable {T:Nat->Ent} {β:Type}
@[congr] theorem Lbq {t:Tm β} {ρ cS:List D} (h:ρ=cS) {dd:Nat} (hd:tick=dd):Er T t ρ=Er T t cS:=by rw[h]
@[congr] theorem Ebg {k:Tm β} {ρ cS:List D} {n:Nat} {a a':Option (List D)} (h:ρ=cS) (h2:a=a') {dd:Nat} (hd:tick=dd):stepT T k ρ n a=stepT T k cS n a':=by rw[h,h2]
@[congr] theorem Db9 {i:Nat} {k:Tm β} {ρ cS:List D} {r r':Option (Kind×List D)} (h:ρ=cS) (h2:r=r') {dd:Nat} (hd:tick=dd):mI T i k ρ r=mI T i k cS r':=by rw[h,h2]
@[congr] theorem Hbt {p:aR} {xs xs':List D} (h:xs=xs') {dd:Nat} (hd:tick=dd):p.run xs=p.run xs':=by rw[h]
def nth:List D->Nat->D
 |[],_=>.undef
 |a::_,0=>a
 |_::r,n+1=>nth r n
theorem Lb5 {a:D}{r:List D}:nth (a::r) 0=a:=rfl
theorem Lb4 {a:D}{r:List D}{n:Nat}:nth (a::r) (n+1)=nth r n:=rfl
theorem Sa7 (r:List D)(n:Nat):r.getD n .undef=nth r n:=by
 induction r generalizing n with
 |nil=>rfl
 | cons a r ih => cases n with
  |zero=>rfl
  |succ n=>exact ih n
def vals (ρ:List D):List aI->List D
 |[]=>[]
 |.v i::r=>nth ρ i::vals ρ r
 |.c d::r=>d::vals ρ r
@[congr] theorem Gbb {ρ cS:List D} {xs:List aI} (h:ρ=cS) {dd:Nat} (hd:tick=dd):vals ρ xs=vals cS xs:=by rw[h]
theorem wT (ρ:List D)(xs:List aI):xs.map (·.val ρ)=vals ρ xs:=by
 induction xs with
 |nil=>rfl
 | cons x xs ih =>
  rw[Rbt,ih]
  cases x with
  |v i=>show ρ.getD i .undef::_=_;rw[Sa7];rfl
  |c d=>rfl
theorem Gbo {ρ:List D}:vals ρ []=[]:=rfl
theorem Gbn {ρ:List D}{i:Nat}{r:List aI}:vals ρ (.v i::r)=nth ρ i::vals ρ r:=rfl
theorem Gbp {ρ:List D}{d:D}{r:List aI}:vals ρ (.c d::r)=d::vals ρ r:=rfl
def Ta7 (ρ:List D):aI->D
 |.v i=>nth ρ i
 |.c d=>d
theorem Gbq {ρ:List D}{i:Nat}:Ta7 ρ (.v i)=nth ρ i:=rfl
theorem Gbr {ρ:List D}{d:D}:Ta7 ρ (.c d)=d:=rfl
theorem Kao (ρ:List D)(a:aI):a.val ρ=Ta7 ρ a:=by
 cases a with
 |v i=>exact Sa7 ρ i
 |c d=>rfl
@[congr] theorem Gbc {ρ cS:List D} {a:aI} (h:ρ=cS) {dd:Nat} (hd:tick=dd):Ta7 ρ a=Ta7 cS a:=by rw[h]
theorem Fb7 (k:Kind)(xs:List aI)(e:β)(ρ:List D):Er T (.leaf k xs e) ρ=some (k,vals ρ xs):=by rw[Fb5,wT]
theorem Mbk (p:aR)(xs:List aI)(n:Nat)(k:Tm β)(ρ:List D):Er T (.lt none p xs n k) ρ=stepT T k ρ n (p.run (vals ρ xs)):=by rw[Ib0,wT]
theorem Fb8 (f:Nat)(xs:List aI)(n:Nat)(os:List aI)(k:Tm β)(ρ:List D):Er T (.call none f xs n os k) ρ=stepT T k ρ n (Fun T f (vals ρ xs)):=by rw[Dbe,wT]
def zS (w:Bool)(a b:Option (Kind×List D))(c:D):Option (Kind×List D):=if gdR c w=true then a else b
@[congr] theorem Fbg {w:Bool} {a b:Option (Kind×List D)} {c c':D} (h:c=c') {dd:Nat} (hd:tick=dd):zS w a b c=zS w a b c':=by rw[h]
theorem Fbe {a b:Option (Kind×List D)}{c:Bool}:zS true a b (.bool c)=jH c a b:=by cases c<;>rfl
theorem Fbf {a b:Option (Kind×List D)}{c:Bool}:zS false a b (.bool c)=jH c b a:=by cases c<;>rfl
theorem Fbd {w:Bool}{a b:Option (Kind×List D)}:zS w a b .undef=b:=by simp[zS,gdR]
theorem Ib2 (a:aI)(w:Bool)(p:aR)(xs:List aI)(n:Nat)(k:Tm β)(ρ:List D) :
  Er T (.lt (some (a,w)) p xs n k) ρ=zS w (stepT T k ρ n (p.run (vals ρ xs))) (Er T k (ρ++Rbf n .undef)) (Ta7 ρ a):=by
 rw[Ibz,ltT,zS,wT,Kao]
theorem Dbf (a:aI)(w:Bool)(f:Nat)(xs:List aI)(n:Nat)(os:List aI)(k:Tm β)(ρ:List D) :
  Er T (.call (some (a,w)) f xs n os k) ρ=zS w (stepT T k ρ n (Fun T f (vals ρ xs))) (Er T k (ρ++(Rbf (n-os.length) .undef++vals ρ os))) (Ta7 ρ a):=by
 rw[Dbd,Fbr,zS,wT,wT,Kao]
def Qac {γ:Type}(a b:Option γ)(c:D):Option γ:=Pbd c a b
@[congr] theorem Eba {γ:Type} {a b:Option γ} {c c':D} (h:c=c') {dd:Nat} (hd:tick=dd):Qac a b c=Qac a b c':=by rw[h]
theorem Ebb {γ:Type}{a b:Option γ}{c:Bool}:Qac a b (.bool c)=jH c a b:=by cases c<;>rfl
theorem Ib3 (c:aI)(t e:Tm β)(ρ:List D):Er T (.ite c t e) ρ=Qac (Er T t ρ) (Er T e ρ) (Ta7 ρ c):=by rw[Ib1,Lb9,Qac,Kao]
theorem Fb9 (i:Nat)(t k:Tm β)(ρ:List D):Er T (.bind i t k) ρ=mI T i k ρ (Er T t ρ):=Fb6 i t k ρ
theorem Uaa {i:Nat}{k:Tm β}{ρ:List D}{c:Bool}{a b:Option (Kind×List D)}:mI T i k ρ (jH c a b)=jH c (mI T i k ρ a) (mI T i k ρ b):=by cases c<;>rfl
theorem Qab {i j:Nat}{k:Tm β}{ρ ds:List D}:mI T i k ρ (some (.yield j,ds))=if j=i then Er T k (ρ++ds) else some (.yield j,ds):=by
 by_cases h:j=i
 ·subst h;rw[Ta9,if_pos rfl]
 ·rw[Ab7 h,if_neg h]
noncomputable def fin (o:Option (Kind×List D)):Option (List D):=o.bind Ob8
theorem Cbb {c:Bool}{a b:Option (Kind×List D)}:fin (jH c a b)=jH c (fin a) (fin b):=by cases c<;>rfl
theorem Fbj {ds:List D}:fin (some (.ret,ds))=some ds:=rfl
theorem aS {f:Nat}{t:Tm Unit}(h:T f=.tm t)(args:List D):Fun T f args=fin (Er T t args):=Mbj h args
theorem Mbf {ρ:List D}:ρ++[]=ρ:=List.append_nil ρ
theorem Mbg {a:D}{r s:List D}:(a::r)++s=a::(r++s):=rfl
theorem Mbh {s:List D}:[]++s=s:=rfl
theorem Ebf {k:Tm β}{ρ ds:List D}{n:Nat}:stepT T k ρ n (some ds)=if ds.length=n then Er T k (ρ++ds) else none:=rfl
end
section
variable {α:Type} [Enc α]
theorem Hbw {xs:List α}:aR.len.run [rL xs]=some [i64 xs.length]:=by simp[rL,aR.run]
theorem Dbm {xs:List α}{k:Int}(h:InB xs k):aR.inb.run [rL xs,i64 k]=some []:=by
 unfold InB at h;simp only[rL,aR.run,Rbh];rw[if_pos ⟨h.1,h.2⟩]
def rowOf (off:Nat)(ks:List Bool)(r:List D):Option (List D):=if off+ks.length<=r.length/\Ca1 ks (r.drop off)=true then some ((r.drop off).take ks.length) else none
theorem Gaj [Inhabited α]{xs:List α}{k:Int}{sz off:Nat}{ks:List Bool}(hs:Enc.sz α=sz)(h:InB xs k):(aR.row sz off ks).run [rL xs,i64 k]=rowOf off ks (Enc.enc (atI xs k)):=by
 have h2:=h.lt;unfold InB at h;subst hs
 have e:xs[k.toNat]?=some (atI xs k):=by
  rw[Qb3 h2,atI,Qb8,Qb3 h2];rfl
 simp only[rL,aR.run,Rbr,e,Rb9];simp only[true_and];rw[if_pos h.1];rfl
theorem Gai [Inhabited α]{xs:List α}{k:Int}{sz off n:Nat}{vs:List D}{a:α}(hs:Enc.sz α=sz)(hl:vs.length=n)(ho:off+n<=sz)(ha:Enc.enc a=(Enc.enc (atI xs k)).take off++vs++(Enc.enc (atI xs k)).drop (off+n))(h:InB xs k) :
  (aR.set sz off n).run (rL xs::i64 k::vs)=some [rL (fQ xs k a)]:=by
 have h2:=h.lt;unfold InB at h;subst hs
 have e:xs[k.toNat]?=some (atI xs k):=by
  rw[Qb3 h2,atI,Qb8,Qb3 h2];rfl
 simp only[rL,aR.run,Rbr,e,Rb9];simp only[true_and];rw[if_pos h.1,if_pos ⟨by rw[Enc.len];exact ho,hl⟩,<- ha,fQ,List.map_set]
theorem Qa0 {b:Nat}{n:Int}{zero:List D}{a:α}(ha:Enc.enc a=zero)(h:0<=n)(h2:n.toNat*b<=iW):(aR.make b zero).run [i64 n]=some [rL (Rbf n.toNat a)]:=by
 simp only[aR.run];rw[if_pos ⟨h,h2⟩,rL,List.map_replicate,ha,<- Enc.len a,ha]
theorem Hbv {sz:Nat}{vs:List D}{a:α}(hs:Enc.sz α=sz)(ha:Enc.enc a=vs):(aR.mk sz 1).run vs=some [rL [a]]:=by
 subst hs;subst ha
 have:=Enc.len a;simp[rL,aR.run,chunk,this,List.take_of_length_le (Nat.le_of_eq this)]
theorem Jar {sz b:Nat}{fl:Bool}{xs ys:List α}(hs:Enc.sz α=sz)(hf:fl=true->∀ a:α,(Enc.enc a).all D.isSc=true)(h:(xs.length+ys.length)*b<=iW):(aR.app sz b fl).run [rL xs,rL ys]=some [rL (xs++ys)]:=by
 subst hs
 have br:(!fl||(xs.map Enc.enc++ys.map Enc.enc).all fun r=>r.all D.isSc)=true:=by
  cases fl with
  |false=>rfl
  | true =>
   rw[Sb2,Tbr,<- Sbr,List.all_map,Rbu];exact fun a _=>hf rfl a
 simp only[rL,aR.run,Rbh];rw[if_pos ⟨trivial,trivial,br,h⟩,<- Sbr]
theorem Gak {sz b:Nat}{fl:Bool}{ys:List α}(hs:Enc.sz α=sz)(hf:fl=true->∀ a:α,(Enc.enc a).all D.isSc=true)(h:ys.length*b<=iW):(aR.app sz b fl).run [.rows sz [],rL ys]=some [rL ys]:=by
 have:=Jar (xs:=[]) (ys:=ys) (b:=b) hs hf (by simpa using h);subst hs;exact this
theorem Gah {sz:Nat}{fl:Bool}{xs:List α}{lo hi:Int}(hs:Enc.sz α=sz)(hf:fl=true->∀ a:α,(Enc.enc a).all D.isSc=true)(h0:0<=lo)(h1:lo<=hi)(h2:hi<=xs.length):(aR.sub sz fl).run [rL xs,i64 lo,i64 hi]=some [rL ((xs.take hi.toNat).drop lo.toNat)]:=by
 subst hs
 have br:(!fl||(xs.map Enc.enc).all fun r=>r.all D.isSc)=true:=by
  cases fl with
  |false=>rfl
  | true =>
   rw[Sb2,Tbr,List.all_map,Rbu];exact fun a _=>hf rfl a
 simp only[rL,aR.run,Rbh];rw[if_pos ⟨trivial,br,h0,h1,h2⟩,<- List.map_take,<- List.map_drop]
theorem Hbx {xs:List α}:aR.emp.run [rL xs]=some [.bool xs.isEmpty]:=by simp[rL,aR.run]
theorem Lb2 {x:α}{xs:List α}:aR.ne.run [rL (x::xs)]=some []:=by simp[rL,aR.run]
class Fits (α:Type) [Enc α] (m:Nat):Prop where
 fits:∀ a:α,(Enc.enc a).all (nT m)=true
theorem Hby {m:Nat}[Fits α m]{xs:List α}:(aR.dep (m+1)).run [rL xs]=some []:=by
 have:nT (m+1) (rL xs)=true:=by
  unfold rL;simp only[nT,List.all_map,Rbu];intro a _;exact Fits.fits a
 simp only[aR.run,this,if_true]
end
instance {m:Nat}:Fits Int m:=⟨fun a=>by cases m<;>rfl⟩
instance {m:Nat}:Fits Bool m:=⟨fun a=>by cases m<;>rfl⟩
instance {m:Nat}:Fits (List UInt8) m:=⟨fun a=>by cases m<;>rfl⟩
theorem wD {α:Type}[Enc α]{m:Nat}[Fits α m](xs:List α):nT (m+1) (rL xs)=true:=by
 unfold rL;simp only[nT,List.all_map,Rbu];intro a _;exact Fits.fits a
instance {α:Type} [Enc α] {m:Nat} [Fits α m]:Fits (List α) (m+1):=⟨fun xs=>by
 show [rL xs].all (nT (m+1))=true
 simp[wD]⟩
theorem Bbf {a b:Int}:aR.min.run [i64 a,i64 b]=some [i64 (min a b)]:=by
 simp only[aR.run,La8,Hb7,if_true,Qb7,Rb9];congr 3;by_cases h:b<a
 ·rw[if_pos (by simpa using h)];omega
 ·rw[if_neg (by simpa using h)];omega
theorem Bbh {a b:Int}:aR.max.run [i64 a,i64 b]=some [i64 (max a b)]:=by
 simp only[aR.run,La8,Hb7,if_true,Qb7,Rb9];congr 3;by_cases h:b>a
 ·rw[if_pos (by simpa using h)];omega
 ·rw[if_neg (by simpa using h)];omega
theorem Ea9 {a b:Int}(h1:-9223372036854775808<=a*b)(h2:a*b<=9223372036854775807):(aR.bin .mul).run [i64 a,i64 b]=some [i64 (a*b)]:=by simp[aR.run,Mam,yD,wrap_i64 h1 h2]
theorem Uac {a b:Int}(ha:-9223372036854775808<=a)(y8:a<=9223372036854775807)(hb:0<b):-9223372036854775808<=a.tdiv b/\a.tdiv b<=9223372036854775807:=by
 rcases Int.le_total 0 a with h|h
 ·have h1:=Int.tdiv_nonneg h (Int.le_of_lt hb)
  have h2:=Int.tdiv_le_self b h;omega
 ·have h1:(-a).tdiv b=-(a.tdiv b):=Int.neg_tdiv ..
  have h2:=Int.tdiv_nonneg (show 0<=-a by omega) (Int.le_of_lt hb);have h3:=Int.tdiv_le_self b (show 0<=-a by omega);omega
theorem Bbe {a b:Int}(ha:0<=a)(y8:a<=9223372036854775807)(hb:0<b):(aR.bin .quo).run [i64 a,i64 b]=some [i64 (a / b)]:=by
 have h:=Uac (by omega) y8 hb;have cr:¬ b=0:=by omega
 rw[<- Int.tdiv_eq_ediv_of_nonneg ha];simp only[aR.run,Mam,yD,if_true,if_neg cr,Rb9,wrap_i64 h.1 h.2]
theorem Bbd {a b:Int}(ha:0<=a)(hb:0<b):(aR.bin .rem).run [i64 a,i64 b]=some [i64 (a % b)]:=by
 have cr:¬ b=0:=by omega
 simp only[aR.run,Mam,yD,if_true,if_neg cr,Rb9,Int.tmod_eq_emod_of_nonneg ha]
theorem Paa:∀ xs ys:List Int,xs.length=ys.length->Pa3 (Rbf xs.length 0) (xs.map i64) (ys.map i64)=some (decide (xs=ys))
 |[],[],_=>rfl
 | x :: xs, y :: ys, h => by
  have ih:=Paa xs ys (by simpa using h);simp only[Rbe,List.replicate_succ,Rbt,Pa3,eqD,if_true,Qb7,ih,List.cons.injEq,Bool.decide_and];by_cases e:x=y
  ·simp[e]
  ·simp[e]
theorem Cbe {p:Prop}[Decidable p](xs ys:List Int)(h:xs.length=ys.length)(hp:p↔xs=ys):(Pa3 (Rbf xs.length 0) (xs.map i64) (ys.map i64)).map (fun b=>[D.bool b])=some [.bool (decide p)]:=by
 rw[Paa xs ys h,Rb9,decide_eq_decide.2 hp]
theorem Ibm (i:Nat):((i+1:Nat):Int)=(i:Int)+1:=rfl
theorem SA:(∀ {T β} (k:Kind) (xs:List aI) (e:β) (ρ:List D),Er T (.leaf k xs e) ρ=some (k,vals ρ xs)) /\
  (∀ {T} {β:Type} (p:aR) (xs:List aI) (n:Nat) (k:Tm β) (ρ:List D),Er T (.lt none p xs n k) ρ=stepT T k ρ n (p.run (vals ρ xs))) /\
  (∀ {T} {β:Type} (f:Nat) (xs:List aI) (n:Nat) (os:List aI) (k:Tm β) (ρ:List D),Er T (.call none f xs n os k) ρ=stepT T k ρ n (Fun T f (vals ρ xs))) /\
  (∀ {T} {β:Type} (c:aI) (t e:Tm β) (ρ:List D),Er T (.ite c t e) ρ=Qac (Er T t ρ) (Er T e ρ) (Ta7 ρ c)) /\
  (∀ {T} {β:Type} (i:Nat) (t k:Tm β) (ρ:List D),Er T (.bind i t k) ρ=mI T i k ρ (Er T t ρ)) /\
  (∀ {T} {β:Type} (a:aI) (w:Bool) (p:aR) (xs:List aI) (n:Nat) (k:Tm β) (ρ:List D),
   Er T (.lt (some (a,w)) p xs n k) ρ=zS w (stepT T k ρ n (p.run (vals ρ xs))) (Er T k (ρ++Rbf n .undef)) (Ta7 ρ a)) /\
  (∀ {T} {β:Type} (a:aI) (w:Bool) (f:Nat) (xs:List aI) (n:Nat) (os:List aI) (k:Tm β) (ρ:List D),
   Er T (.call (some (a,w)) f xs n os k) ρ=zS w (stepT T k ρ n (Fun T f (vals ρ xs))) (Er T k (ρ++(Rbf (n-os.length) .undef++vals ρ os))) (Ta7 ρ a)) :=
 ⟨Fb7,Mbk,Fb8,Ib3,Fb9,Ib2,Dbf⟩
theorem SB:(tick=Pbh)/\(∀ {γ:Type} {c:Bool} {a b:γ},jH (!c) a b=jH c b a)/\(∀ {a b:Option (Kind×List D)} {c:Bool},zS true a b (.bool c)=jH c a b)/\(∀ {a b:Option (Kind×List D)} {c:Bool},zS false a b (.bool c)=jH c b a) /\
  (∀ {w:Bool} {a b:Option (Kind×List D)},zS w a b .undef=b)/\(∀ {γ:Type} {a b:Option γ} {c:Bool},Qac a b (.bool c)=jH c a b) /\
  (∀ {T} {β:Type} {i:Nat} {k:Tm β} {ρ:List D} {c:Bool} {a b:Option (Kind×List D)},mI T i k ρ (jH c a b)=jH c (mI T i k ρ a) (mI T i k ρ b)) /\
  (∀ {T} {β:Type} {i j:Nat} {k:Tm β} {ρ ds:List D},mI T i k ρ (some (.yield j,ds))=if j=i then Er T k (ρ++ds) else some (.yield j,ds)) /\
  (∀ {T} {β:Type} {i:Nat} {k:Tm β} {ρ ds:List D},mI T i k ρ (some (.ret,ds))=some (.ret,ds))/\(∀ {T} {β:Type} {i:Nat} {k:Tm β} {ρ ds:List D},mI T i k ρ (some (.cont,ds))=some (.cont,ds)) /\
  (∀ {c:Bool} {a b:Option (Kind×List D)},fin (jH c a b)=jH c (fin a) (fin b))/\(∀ {ds:List D},fin (some (.ret,ds))=some ds) /\
  (∀ {γ:Type} {a b:γ},jH true a b=a)/\(∀ {γ:Type} {a b:γ},jH false a b=b) :=
 ⟨rfl,by intro γ c a b;cases c<;>rfl,Fbe,Fbf,Fbd,Ebb,Uaa,Qab,Wad,Uab,Cbb,Fbj,Vak,Raj⟩
theorem SC:(∀ {a:D} {r:List D},nth (a::r) 0=a)/\(∀ {a:D} {r:List D} {n:Nat},nth (a::r) (n+1)=nth r n) /\
  (∀ {ρ:List D},vals ρ []=[])/\(∀ {ρ:List D} {i:Nat} {r:List aI},vals ρ (.v i::r)=nth ρ i::vals ρ r)/\(∀ {ρ:List D} {d:D} {r:List aI},vals ρ (.c d::r)=d::vals ρ r) /\
  (∀ {ρ:List D} {i:Nat},Ta7 ρ (.v i)=nth ρ i)/\(∀ {ρ:List D} {d:D},Ta7 ρ (.c d)=d) /\
  (∀ {ρ:List D},ρ++[]=ρ)/\(∀ {a:D} {r s:List D},(a::r)++s=a::(r++s))/\(∀ {s:List D},[]++s=s) /\
  (∀ {T} {β:Type} {k:Tm β} {ρ ds:List D} {n:Nat},stepT T k ρ n (some ds)=if ds.length=n then Er T k (ρ++ds) else none) /\
  (∀ {α:Type} {a:α} {l:List α},(a::l).length=l.length+1)/\(∀ {α:Type},([]:List α).length=0)/\(∀ {α:Type} {x:α} {n:Nat},Rbf (n+1) x=x::Rbf n x)/\(∀ {α:Type} {x:α},Rbf 0 x=[]) :=
 ⟨Lb5,Lb4,Gbo,Gbn,Gbp,Gbq,Gbr,Mbf,Mbg,Mbh,Ebf,Rbe,Rbk,List.replicate_succ,List.replicate_zero⟩
theorem SP:(∀ {a b:Int},(aR.bin .lss).run [i64 a,i64 b]=some [.bool (decide (a<b))])/\(∀ {a b:Int},(aR.bin .gtr).run [i64 a,i64 b]=some [.bool (decide (b<a))]) /\
  (∀ {a b:Int},(aR.bin .leq).run [i64 a,i64 b]=some [.bool (decide (a<=b))])/\(∀ {a b:Int},(aR.bin .geq).run [i64 a,i64 b]=some [.bool (decide (b<=a))]) /\
  (∀ {a b:Int},(aR.bin .neq).run [i64 a,i64 b]=some [.bool (!(a==b))])/\(∀ {a b:Int},(aR.bin .eql).run [i64 a,i64 b]=some [.bool (a==b)]) /\
  (∀ {b:Bool},aR.not.run [.bool b]=some [.bool (!b)])/\(∀ {c:Bool} {a b:D},aR.pick.run [.bool c,a,b]=some [jH c a b])/\(∀ {a b:Bool},(aR.eqb true).run [.bool a,.bool b]=some [.bool (!(a==b))])/\(∀ {a b:Bool},(aR.eqb false).run [.bool a,.bool b]=some [.bool (a==b)]) /\
  (∀ {d:D},aR.id.run [d]=some [d])/\(∀ {α:Type} [Enc α] {xs:List α},aR.len.run [rL xs]=some [i64 xs.length]) /\
  (∀ {α:Type} [Enc α] {xs:List α} {k:Int},InB xs k->aR.inb.run [rL xs,i64 k]=some []) /\
  (∀ {a b:Int},aR.min.run [i64 a,i64 b]=some [i64 (min a b)])/\(∀ {a b:Int},aR.max.run [i64 a,i64 b]=some [i64 (max a b)]) /\
  (∀ {α:Type} [Enc α] {m:Nat} [Fits α m] {xs:List α},(aR.dep (m+1)).run [rL xs]=some []) :=
 ⟨Ebl,Ebn,Ebm,Ebo,Ebk,Ebp,Ebj,by intro c a b;cases c<;>rfl,Ebq,rfl,Hbs,Hbw,Dbm,Bbf,Bbh,Hby⟩
set_option maxRecDepth 4000
structure yY where
 kind:Int
 id:Int
 src:Int
 dst:Int
 amt:Int
 deriving DecidableEq
instance:Inhabited yY:=⟨⟨0,0,0,0,0⟩⟩
instance:Enc yY:=⟨5,fun x=>[i64 x.kind,i64 x.id,i64 x.src,i64 x.dst,i64 x.amt],fun _=>rfl⟩
instance {m:Nat}:Fits yY m:=⟨fun x=>by cases m<;>rfl⟩
structure mU where
 seq:Int
 deps:(List Int)
 deriving DecidableEq
instance:Inhabited mU:=⟨⟨0,[]⟩⟩
instance:Enc mU:=⟨2,fun x=>[i64 x.seq,rL x.deps],fun _=>rfl⟩
theorem Yax (x:mU):Enc.enc x=[i64 x.seq,rL x.deps]:=rfl
instance {m:Nat}:Fits mU (m+1):=⟨fun x=>by
 rw[Yax];simp only[Tbe,Tb5,Sb4,Qb1];refine⟨?_,?_⟩
 all_goals first|rfl|exact wD _⟩
structure bT where
 ballot:Int
 vote:Int
 state:Int
 cmd:yY
 attr:mU
 deriving DecidableEq
instance:Inhabited bT:=⟨⟨0,0,0,default,default⟩⟩
instance:Enc bT:=⟨10,fun x=>[i64 x.ballot,i64 x.vote,i64 x.state,i64 x.cmd.kind,i64 x.cmd.id,i64 x.cmd.src,i64 x.cmd.dst,i64 x.cmd.amt,i64 x.attr.seq,rL x.attr.deps],fun _=>rfl⟩
theorem Cbi (x:bT):Enc.enc x=[i64 x.ballot,i64 x.vote,i64 x.state,i64 x.cmd.kind,i64 x.cmd.id,i64 x.cmd.src,i64 x.cmd.dst,i64 x.cmd.amt,i64 x.attr.seq,rL x.attr.deps]:=rfl
instance {m:Nat}:Fits bT (m+1):=⟨fun x=>by
 rw[Cbi];simp only[Tbe,Tb5,Sb4,Qb1];refine⟨?_,?_,?_,?_,?_,?_,?_,?_,?_,?_⟩
 all_goals first|rfl|exact wD _⟩
structure aG where
 n:Int
 rows:(List (List bT))
 deriving DecidableEq
instance:Inhabited aG:=⟨⟨0,[]⟩⟩
instance:Enc aG:=⟨2,fun x=>[i64 x.n,rL x.rows],fun _=>rfl⟩
theorem Vau (x:aG):Enc.enc x=[i64 x.n,rL x.rows]:=rfl
instance {m:Nat}:Fits aG (m+3):=⟨fun x=>by
 rw[Vau];simp only[Tbe,Tb5,Sb4,Qb1];refine⟨?_,?_⟩
 all_goals first|rfl|exact wD _⟩
structure Paz where
 rep:Int
 no:Int
 ballot:Int
 phase:Int
 cmd:yY
 first:mU
 attr:mU
 same:Bool
 who:(List Int)
 seen:(List bT)
 deriving DecidableEq
instance:Inhabited Paz:=⟨⟨0,0,0,0,default,default,default,false,[],[]⟩⟩
instance:Enc Paz:=⟨16,fun x=>[i64 x.rep,i64 x.no,i64 x.ballot,i64 x.phase,i64 x.cmd.kind,i64 x.cmd.id,i64 x.cmd.src,i64 x.cmd.dst,i64 x.cmd.amt,i64 x.first.seq,rL x.first.deps,i64 x.attr.seq,rL x.attr.deps,.bool x.same,rL x.who,rL x.seen],fun _=>rfl⟩
theorem Yaw (x:Paz):Enc.enc x=[i64 x.rep,i64 x.no,i64 x.ballot,i64 x.phase,i64 x.cmd.kind,i64 x.cmd.id,i64 x.cmd.src,i64 x.cmd.dst,i64 x.cmd.amt,i64 x.first.seq,rL x.first.deps,i64 x.attr.seq,rL x.attr.deps,.bool x.same,rL x.who,rL x.seen]:=rfl
instance {m:Nat}:Fits Paz (m+2):=⟨fun x=>by
 rw[Yaw];simp only[Tbe,Tb5,Sb4,Qb1];refine⟨?_,?_,?_,?_,?_,?_,?_,?_,?_,?_,?_,?_,?_,?_,?_,?_⟩
 all_goals first|rfl|exact wD _⟩
structure Fby where
 me:Int
 table:aG
 leads:(List Paz)
 deriving DecidableEq
instance:Inhabited Fby:=⟨⟨0,default,[]⟩⟩
instance:Enc Fby:=⟨4,fun x=>[i64 x.me,i64 x.table.n,rL x.table.rows,rL x.leads],fun _=>rfl⟩
theorem Cbj (x:Fby):Enc.enc x=[i64 x.me,i64 x.table.n,rL x.table.rows,rL x.leads]:=rfl
instance {m:Nat}:Fits Fby (m+3):=⟨fun x=>by
 rw[Cbj];simp only[Tbe,Tb5,Sb4,Qb1];refine⟨?_,?_,?_,?_⟩
 all_goals first|rfl|exact wD _⟩
structure Db4 where
 kind:Int
 src:Int
 dst:Int
 rep:Int
 no:Int
 ballot:Int
 vote:Int
 state:Int
 cmd:yY
 attr:mU
 deriving DecidableEq
instance:Inhabited Db4:=⟨⟨0,0,0,0,0,0,0,0,default,default⟩⟩
instance:Enc Db4:=⟨15,fun x=>[i64 x.kind,i64 x.src,i64 x.dst,i64 x.rep,i64 x.no,i64 x.ballot,i64 x.vote,i64 x.state,i64 x.cmd.kind,i64 x.cmd.id,i64 x.cmd.src,i64 x.cmd.dst,i64 x.cmd.amt,i64 x.attr.seq,rL x.attr.deps],fun _=>rfl⟩
theorem Cbl (x:Db4):Enc.enc x=[i64 x.kind,i64 x.src,i64 x.dst,i64 x.rep,i64 x.no,i64 x.ballot,i64 x.vote,i64 x.state,i64 x.cmd.kind,i64 x.cmd.id,i64 x.cmd.src,i64 x.cmd.dst,i64 x.cmd.amt,i64 x.attr.seq,rL x.attr.deps]:=rfl
instance {m:Nat}:Fits Db4 (m+1):=⟨fun x=>by
 rw[Cbl];simp only[Tbe,Tb5,Sb4,Qb1];refine⟨?_,?_,?_,?_,?_,?_,?_,?_,?_,?_,?_,?_,?_,?_,?_⟩
 all_goals first|rfl|exact wD _⟩
structure Kai where
 rep:Int
 no:Int
 cmd:yY
 deriving DecidableEq
instance:Inhabited Kai:=⟨⟨0,0,default⟩⟩
instance:Enc Kai:=⟨7,fun x=>[i64 x.rep,i64 x.no,i64 x.cmd.kind,i64 x.cmd.id,i64 x.cmd.src,i64 x.cmd.dst,i64 x.cmd.amt],fun _=>rfl⟩
instance {m:Nat}:Fits Kai m:=⟨fun x=>by cases m<;>rfl⟩
structure Saa where
 reps:(List Fby)
 bag:(List Db4)
 asked:(List Kai)
 deriving DecidableEq
instance:Inhabited Saa:=⟨⟨[],[],[]⟩⟩
instance:Enc Saa:=⟨3,fun x=>[rL x.reps,rL x.bag,rL x.asked],fun _=>rfl⟩
theorem Cbk (x:Saa):Enc.enc x=[rL x.reps,rL x.bag,rL x.asked]:=rfl
instance {m:Nat}:Fits Saa (m+4):=⟨fun x=>by
 rw[Cbk];simp only[Tbe,Tb5,Sb4,Qb1];refine⟨?_,?_,?_⟩
 all_goals first|rfl|exact wD _⟩
theorem Ibq:(∀ x:yY,yY.mk x.kind x.id x.src x.dst x.amt=x) /\
  (∀ x:mU,mU.mk x.seq x.deps=x) /\
  (∀ x:bT,bT.mk x.ballot x.vote x.state x.cmd x.attr=x) /\
  (∀ x:aG,aG.mk x.n x.rows=x) /\
  (∀ x:Paz,Paz.mk x.rep x.no x.ballot x.phase x.cmd x.first x.attr x.same x.who x.seen=x) /\
  (∀ x:Fby,Fby.mk x.me x.table x.leads=x) /\
  (∀ x:Db4,Db4.mk x.kind x.src x.dst x.rep x.no x.ballot x.vote x.state x.cmd x.attr=x) /\
  (∀ x:Kai,Kai.mk x.rep x.no x.cmd=x) /\
  (∀ x:Saa,Saa.mk x.reps x.bag x.asked=x) :=
 ⟨fun _=>rfl,
  fun _=>rfl,
  fun _=>rfl,
  fun _=>rfl,
  fun _=>rfl,
  fun _=>rfl,
  fun _=>rfl,
  fun _=>rfl,
  fun _=>rfl⟩
theorem aN:(∀ {xs:List Int} {k:Int},InB xs k->(aR.row 1 0 [true]).run [rL xs,i64 k]=some [i64 (atI xs k)]) /\
  (∀ {xs:List (List UInt8)} {k:Int},InB xs k->(aR.row 1 0 [true]).run [rL xs,i64 k]=some [.str (atI xs k)]) /\
  (∀ {xs:List (List Int)} {k:Int},InB xs k->(aR.row 1 0 [false]).run [rL xs,i64 k]=some [rL (atI xs k)]) /\
  (∀ {xs:List (List bT)} {k:Int},InB xs k->(aR.row 1 0 [false]).run [rL xs,i64 k]=some [rL (atI xs k)]) /\
  (∀ {xs:List (List (List Int))} {k:Int},InB xs k->(aR.row 1 0 [false]).run [rL xs,i64 k]=some [rL (atI xs k)]) /\
  (∀ {xs:List bT} {k:Int},InB xs k->(aR.row 10 0 [true,true,true,true,true,true,true,true,true,false]).run [rL xs,i64 k]=some [i64 (atI xs k).ballot,i64 (atI xs k).vote,i64 (atI xs k).state,i64 (atI xs k).cmd.kind,i64 (atI xs k).cmd.id,i64 (atI xs k).cmd.src,i64 (atI xs k).cmd.dst,i64 (atI xs k).cmd.amt,i64 (atI xs k).attr.seq,rL (atI xs k).attr.deps]) :=
 ⟨fun h=>(Gaj rfl h),
  fun h=>(Gaj rfl h),
  fun h=>(Gaj rfl h),
  fun h=>(Gaj rfl h),
  fun h=>(Gaj rfl h),
  fun h=>(Gaj rfl h)⟩
theorem Dan:(∀ {xs:List Int} {k:Int} {v:Int},InB xs k->(aR.set 1 0 1).run [rL xs,i64 k,i64 v]=some [rL (fQ xs k v)]) /\
  (∀ {xs:List (List UInt8)} {k:Int} {v:(List UInt8)},InB xs k->(aR.set 1 0 1).run [rL xs,i64 k,.str v]=some [rL (fQ xs k v)]) /\
  (∀ {xs:List (List Int)} {k:Int} {v:(List Int)},InB xs k->(aR.set 1 0 1).run [rL xs,i64 k,rL v]=some [rL (fQ xs k v)]) /\
  (∀ {xs:List (List bT)} {k:Int} {v:(List bT)},InB xs k->(aR.set 1 0 1).run [rL xs,i64 k,rL v]=some [rL (fQ xs k v)]) /\
  (∀ {xs:List (List (List Int))} {k:Int} {v:(List (List Int))},InB xs k->(aR.set 1 0 1).run [rL xs,i64 k,rL v]=some [rL (fQ xs k v)]) /\
  (∀ {xs:List bT} {k:Int} {eK im fW cW fa dw dz dT cV:Int} {cG:(List Int)},InB xs k->(aR.set 10 0 10).run [rL xs,i64 k,i64 eK,i64 im,i64 fW,i64 cW,i64 fa,i64 dw,i64 dz,i64 dT,i64 cV,rL cG]=some [rL (fQ xs k ⟨eK,im,fW,⟨cW,fa,dw,dz,dT⟩,⟨cV,cG⟩⟩)]) :=
 ⟨fun h=>(Gai rfl rfl (by decide) rfl h),
  fun h=>(Gai rfl rfl (by decide) rfl h),
  fun h=>(Gai rfl rfl (by decide) rfl h),
  fun h=>(Gai rfl rfl (by decide) rfl h),
  fun h=>(Gai rfl rfl (by decide) rfl h),
  fun h=>(Gai rfl rfl (by decide) rfl h)⟩
theorem lQ:(∀ {v0:Int},(aR.mk 1 1).run [i64 v0]=some [rL [v0]]) /\
  (∀ {v0 v1:Int},(aR.mk 1 2).run [i64 v0,i64 v1]=some [rL [v0,v1]]) /\
  aR.ne.run []=none /\
  (∀ {v0 v1 v2 v3:Int},(aR.mk 1 4).run [i64 v0,i64 v1,i64 v2,i64 v3]=some [rL [v0,v1,v2,v3]]) /\
  (∀ {v0 v1 v2 v3 v4:Int},(aR.mk 1 5).run [i64 v0,i64 v1,i64 v2,i64 v3,i64 v4]=some [rL [v0,v1,v2,v3,v4]]) /\
  aR.ne.run []=none /\
  aR.ne.run []=none /\
  aR.ne.run []=none /\
  (∀ {v0:(List UInt8)},(aR.mk 1 1).run [.str v0]=some [rL [v0]]) /\
  (∀ {v0 v1:(List UInt8)},(aR.mk 1 2).run [.str v0,.str v1]=some [rL [v0,v1]]) /\
  aR.ne.run []=none /\
  (∀ {v0 v1 v2 v3:(List UInt8)},(aR.mk 1 4).run [.str v0,.str v1,.str v2,.str v3]=some [rL [v0,v1,v2,v3]]) /\
  (∀ {v0 v1 v2 v3 v4:(List UInt8)},(aR.mk 1 5).run [.str v0,.str v1,.str v2,.str v3,.str v4]=some [rL [v0,v1,v2,v3,v4]]) /\
  aR.ne.run []=none /\
  aR.ne.run []=none /\
  aR.ne.run []=none /\
  (∀ {v0:(List Int)},(aR.mk 1 1).run [rL v0]=some [rL [v0]]) /\
  (∀ {v0:(List bT)},(aR.mk 1 1).run [rL v0]=some [rL [v0]]) /\
  (∀ {v0:(List (List Int))},(aR.mk 1 1).run [rL v0]=some [rL [v0]]) /\
  aR.ne.run []=none /\
  (∀ {eK im fW cW fa dw dz dT cV:Int} {cG:(List Int)},(aR.mk 10 1).run [i64 eK,i64 im,i64 fW,i64 cW,i64 fa,i64 dw,i64 dz,i64 dT,i64 cV,rL cG]=some [rL [(⟨eK,im,fW,⟨cW,fa,dw,dz,dT⟩,⟨cV,cG⟩⟩:bT)]]) /\
  aR.ne.run []=none :=
 ⟨rfl,
  rfl,
  rfl,
  rfl,
  rfl,
  rfl,
  rfl,
  rfl,
  rfl,
  rfl,
  rfl,
  rfl,
  rfl,
  rfl,
  rfl,
  rfl,
  rfl,
  rfl,
  rfl,
  rfl,
  (Hbv rfl rfl),
  rfl⟩
theorem Kaj:(∀ {n:Int},0<=n->n<=100000000000->(aR.make 8 [(.int .i64 0)]).run [i64 n]=some [rL (Rbf n.toNat (0:Int))]) /\
  aR.ne.run []=none /\
  aR.ne.run []=none /\
  (∀ {n:Int},0<=n->n<=100000000000->(aR.make 24 [(.rows 10 [])]).run [i64 n]=some [rL (Rbf n.toNat ([]:(List bT)))]) /\
  aR.ne.run []=none :=
 ⟨fun h h2=>(Qa0 rfl h (by unfold iW;omega)),
  rfl,
  rfl,
  fun h h2=>(Qa0 rfl h (by unfold iW;omega)),
  rfl⟩
theorem dY:(∀ {xs ys:List Int},xs.length+ys.length<=100000000000->(aR.app 1 8 true).run [rL xs,rL ys]=some [rL (xs++ys)]) /\
  (∀ {ys:List Int},ys.length<=100000000000->(aR.app 1 8 true).run [.rows 1 [],rL ys]=some [rL ys]) /\
  (∀ {xs ys:List (List Int)},xs.length+ys.length<=100000000000->(aR.app 1 24 false).run [rL xs,rL ys]=some [rL (xs++ys)]) /\
  (∀ {ys:List (List Int)},ys.length<=100000000000->(aR.app 1 24 false).run [.rows 1 [],rL ys]=some [rL ys]) /\
  (∀ {xs ys:List (List bT)},xs.length+ys.length<=100000000000->(aR.app 1 24 false).run [rL xs,rL ys]=some [rL (xs++ys)]) /\
  (∀ {ys:List (List bT)},ys.length<=100000000000->(aR.app 1 24 false).run [.rows 1 [],rL ys]=some [rL ys]) /\
  (∀ {xs ys:List (List (List Int))},xs.length+ys.length<=100000000000->(aR.app 1 24 false).run [rL xs,rL ys]=some [rL (xs++ys)]) /\
  (∀ {ys:List (List (List Int))},ys.length<=100000000000->(aR.app 1 24 false).run [.rows 1 [],rL ys]=some [rL ys]) /\
  (∀ {xs ys:List bT},xs.length+ys.length<=100000000000->(aR.app 10 96 false).run [rL xs,rL ys]=some [rL (xs++ys)]) /\
  (∀ {ys:List bT},ys.length<=100000000000->(aR.app 10 96 false).run [.rows 10 [],rL ys]=some [rL ys]) :=
 ⟨fun h=>(Jar rfl (fun _ _=>rfl) (by unfold iW;omega)),
  fun h=>(Gak rfl (fun _ _=>rfl) (by unfold iW;omega)),
  fun h=>(Jar rfl (fun h=>by cases h) (by unfold iW;omega)),
  fun h=>(Gak rfl (fun h=>by cases h) (by unfold iW;omega)),
  fun h=>(Jar rfl (fun h=>by cases h) (by unfold iW;omega)),
  fun h=>(Gak rfl (fun h=>by cases h) (by unfold iW;omega)),
  fun h=>(Jar rfl (fun h=>by cases h) (by unfold iW;omega)),
  fun h=>(Gak rfl (fun h=>by cases h) (by unfold iW;omega)),
  fun h=>(Jar rfl (fun h=>by cases h) (by unfold iW;omega)),
  fun h=>(Gak rfl (fun h=>by cases h) (by unfold iW;omega))⟩
theorem Aab:(∀ {xs:List Int} {lo hi:Int},0<=lo->lo<=hi->hi<=xs.length->(aR.sub 1 true).run [rL xs,i64 lo,i64 hi]=some [rL ((xs.take hi.toNat).drop lo.toNat)]) /\
  (∀ {xs:List Int} {lo hi:Int},0<=lo->lo<=hi->hi<=xs.length->(aR.sub 1 false).run [rL xs,i64 lo,i64 hi]=some [rL ((xs.take hi.toNat).drop lo.toNat)]) /\
  (∀ {xs:List (List UInt8)} {lo hi:Int},0<=lo->lo<=hi->hi<=xs.length->(aR.sub 1 true).run [rL xs,i64 lo,i64 hi]=some [rL ((xs.take hi.toNat).drop lo.toNat)]) /\
  (∀ {xs:List (List UInt8)} {lo hi:Int},0<=lo->lo<=hi->hi<=xs.length->(aR.sub 1 false).run [rL xs,i64 lo,i64 hi]=some [rL ((xs.take hi.toNat).drop lo.toNat)]) /\
  (∀ {xs:List (List Int)} {lo hi:Int},0<=lo->lo<=hi->hi<=xs.length->(aR.sub 1 false).run [rL xs,i64 lo,i64 hi]=some [rL ((xs.take hi.toNat).drop lo.toNat)]) /\
  (∀ {xs:List (List bT)} {lo hi:Int},0<=lo->lo<=hi->hi<=xs.length->(aR.sub 1 false).run [rL xs,i64 lo,i64 hi]=some [rL ((xs.take hi.toNat).drop lo.toNat)]) /\
  (∀ {xs:List (List (List Int))} {lo hi:Int},0<=lo->lo<=hi->hi<=xs.length->(aR.sub 1 false).run [rL xs,i64 lo,i64 hi]=some [rL ((xs.take hi.toNat).drop lo.toNat)]) /\
  aR.ne.run []=none :=
 ⟨fun h0 h1 h2=>(Gah rfl (fun _ _=>rfl) h0 h1 h2),
  fun h0 h1 h2=>(Gah rfl (fun h=>by cases h) h0 h1 h2),
  fun h0 h1 h2=>(Gah rfl (fun _ _=>rfl) h0 h1 h2),
  fun h0 h1 h2=>(Gah rfl (fun h=>by cases h) h0 h1 h2),
  fun h0 h1 h2=>(Gah rfl (fun h=>by cases h) h0 h1 h2),
  fun h0 h1 h2=>(Gah rfl (fun h=>by cases h) h0 h1 h2),
  fun h0 h1 h2=>(Gah rfl (fun h=>by cases h) h0 h1 h2),
  rfl⟩
theorem Dba:(∀ {ct fw db dc cY bf c6 bw bz bt:Int},(aR.eqs [0,0,0,0,0]).run [i64 ct,i64 fw,i64 db,i64 dc,i64 cY,i64 bf,i64 c6,i64 bw,i64 bz,i64 bt]=some [.bool (decide ((⟨ct,fw,db,dc,cY⟩:yY)=⟨bf,c6,bw,bz,bt⟩))]) /\
  aR.ne.run []=none :=
 ⟨(fun {ct fw db dc cY bf c6 bw bz bt}=>Cbe [ct,fw,db,dc,cY] [bf,c6,bw,bz,bt] rfl (by simp[yY.mk.injEq])),
  rfl⟩
section
variable {T:Nat->Ent} {β:Type} {α:Type} [Inhabited α]
inductive Rd1 (σ:Type) where
 |go (s:σ)
 |out (r:Kind×List D)
def Eay {σ:Type}(f:Nat->α->σ->Rd1 σ):Nat->List α->σ->Rd1 σ
 |_,[],s=>.go s
 | i, x :: xs, s => match f i x s with
  |.go s'=>Eay f (i+1) xs s'
  |.out r=>.out r
def Pbt {σ:Type}(vs:Int->σ->List D)(i:Int):Rd1 σ->Kind×List D
 |.go s=>(.cont,vs (i+1) s)
 |.out r=>r
theorem Iba {σ:Type}{body:Tm β}{ρ:List D}{init:List aI}(xs:List α)(vs:Int->σ->List D)(s0:σ)(f:Nat->α->σ->Rd1 σ)(inv:Nat->σ->Prop)(fin:σ->Kind×List D)
  (h0:init.map (·.val ρ)=vs 0 s0) (hi:inv 0 s0)
  (h1:∀ (i:Nat) s,i<xs.length->inv i s->Er T body (ρ++vs i s)=some (Pbt vs i (f i (atI xs i) s))/\(∀ s',f i (atI xs i) s=.go s'->inv (i+1) s')/\∀ r,f i (atI xs i) s=.out r->r.1≠.cont)
  (h2:∀ s,inv xs.length s->Er T body (ρ++vs xs.length s)=some (fin s)/\(fin s).1≠.cont) :
  ∃ r,Er T (.loop init body) ρ=some r/\((∃ s,Eay f 0 xs s0=.go s/\inv xs.length s/\r=fin s)\/Eay f 0 xs s0=.out r):=by
 have key:=Xai (T:=T) (body:=body) (ρ:=ρ) (γ:=Nat×σ) (fun c=>xs.length-c.1) (fun c=>c.1<=xs.length/\inv c.1 c.2/\Eay f c.1 (xs.drop c.1) c.2=Eay f 0 xs s0) (fun c=>vs (c.1:Int) c.2)
  (fun r=>(∃ s,Eay f 0 xs s0=.go s/\inv xs.length s/\r=fin s)\/Eay f 0 xs s0=.out r)
  (fun ⟨i,s⟩ ⟨hle,hv,hf⟩=>by
   simp only at hle hv hf ⊢
   rcases Rbo i xs.length with hlt|kn
   ·obtain⟨h3,h4,h5⟩:=h1 i s hlt hv
    have hd:xs.drop i=atI xs i::xs.drop (i+1):=by
     rw[List.drop_eq_getElem_cons hlt,aV hlt]
    rw[hd,Eay]at hf;refine⟨_,h3,?_⟩
    cases e:f i (atI xs i) s with
    | go s' =>
     rw[e]at hf;exact .inl ⟨rfl,(i+1,s'),⟨by simp only;omega,h4 s' e,hf⟩,by simp only;omega,rfl⟩
    | out r =>
     rw[e]at hf;exact .inr ⟨h5 r e,.inr hf.symm⟩
   ·obtain rfl:i=xs.length:=by omega
    obtain⟨h3,h4⟩:=h2 s hv;rw[List.drop_length,Eay]at hf;exact⟨_,h3,.inr ⟨h4,.inl ⟨s,hf.symm,hv,rfl⟩⟩⟩)
  xs.length (0,s0) (by simp) ⟨by simp,hi,by simp⟩ init h0
 exact key
theorem Bbc {body:Tm β}{ρ:List D}(j:Nat)(n:Nat)(p:Nat->Bool)(r:List D)
  (h1:∀ i:Nat,i<n->p i=true->Er T body (ρ++[i64 i])=some (.cont,[i64 ((i:Int)+1)]))
  (h2:∀ i:Nat,i<n->p i=false->Er T body (ρ++[i64 i])=some (.ret,r))
  (h3:Er T body (ρ++[i64 n])=some (.yield j,[])) :
  Er T (.loop [.c (i64 0)] body) ρ=jH (Ra8 p n) (some (.yield j,[])) (some (.ret,r)):=by
 have key:=Xai (T:=T) (body:=body) (ρ:=ρ) (fun i=>n-i) (fun i=>i<=n/\∀ j,j<i->p j=true) (fun i=>[i64 (i:Nat)])
  (fun q=>(∀ j,j<n->p j=true)/\q=(.yield j,[])\/(∃ j,j<n/\p j=false)/\q=(.ret,r))
  (fun i ⟨hi,br⟩=>by
   rcases Rbo i n with hlt|kn
   ·cases e:p i with
    | true => exact ⟨_, h1 i hlt e, .inl ⟨rfl, i + 1, ⟨by omega, fun j hj => by
      rcases Rbo j i with h|h
      ·exact br j h
      ·obtain rfl:j=i:=by omega
       exact e⟩,by omega,rfl⟩⟩
    |false=>exact⟨_,h2 i hlt e,.inr ⟨by simp,.inr ⟨⟨i,hlt,e⟩,rfl⟩⟩⟩
   ·obtain rfl:i=n:=by omega
    exact⟨_,h3,.inr ⟨by simp,.inl ⟨br,rfl⟩⟩⟩)
  n 0 (by omega) ⟨by omega,fun j hj=>by omega⟩ [.c (i64 0)] (by simp[aI.val])
 obtain⟨q,h4,h5⟩:=key;rw[h4]
 rcases h5 with ⟨h6,rfl⟩|⟨h6,rfl⟩
 ·rw[iY.2 h6];rfl
 ·rw[Kag.2 h6];rfl
theorem Cb8 (xs:List α)(p:α->Bool):Ra8 (fun i=>p (atI xs i)) xs.length=xs.all p:=by
 cases e:xs.all p with
 | true =>
  rw[Rbu]at e;rw[iY];intro i hi;rw[aV hi];exact e _ (Sbx hi)
 | false =>
  rw[List.all_eq_false]at e;obtain⟨x,hx,hp⟩:=e;obtain⟨i,hi,rfl⟩:=List.getElem_of_mem hx;exact Kag.2 ⟨i,hi,by rw[aV hi];simpa using hp⟩
theorem Ra7 [DecidableEq α]{xs ys:List α}(hl:xs.length=ys.length):Ra8 (fun i=>decide (atI xs i=atI ys i)) xs.length=decide (xs=ys):=by
 by_cases e:xs=ys
 ·subst e
  rw[decide_eq_true rfl,iY];exact fun i _=>decide_eq_true rfl
 ·rw[decide_eq_false e]
  cases h:Ra8 (fun i=>decide (atI xs i=atI ys i)) xs.length with
  |false=>rfl
  | true =>
   rw[iY]at h;refine absurd (List.ext_getElem hl fun i h1 h2=>?_) e;have:=of_decide_eq_true (h i h1);rwa[aV h1,aV h2]at this
theorem Yaq {xs ys:List α}[DecidableEq α](h:¬ xs.length=ys.length):decide (xs=ys)=false:=decide_eq_false fun e=>h (by rw[e])
theorem Pbf {body:Tm β}{ρ:List D}(j:Nat)(xs:List α)(p:α->Bool)(r:List D)
  (h1:∀ i:Nat,i<xs.length->InB xs (i:Int)->decide ((i:Int)<xs.length)=true->p (atI xs i)=true->Er T body (ρ++[i64 i])=some (.cont,[i64 ((i:Int)+1)]))
  (h2:∀ i:Nat,i<xs.length->InB xs (i:Int)->decide ((i:Int)<xs.length)=true->p (atI xs i)=false->Er T body (ρ++[i64 i])=some (.ret,r))
  (h3:decide ((xs.length:Int)<xs.length)=false->Er T body (ρ++[i64 xs.length])=some (.yield j,[])) :
  Er T (.loop [.c (i64 0)] body) ρ=jH (xs.all p) (some (.yield j,[])) (some (.ret,r)):=by
 rw[Bbc j xs.length (fun i=>p (atI xs i)) r (fun i hi hp=>h1 i hi (aM.2 hi) (by simp;omega) hp) (fun i hi hp=>h2 i hi (aM.2 hi) (by simp;omega) hp) (h3 (by simp)),Cb8]
omit [Inhabited α] in
theorem Uau {body:Tm β}{ρ:List D}(j:Nat)(n:Nat)(p:Nat->Bool)(r:List D)
  (h1:∀ i:Nat,i<n->decide ((i:Int)<n)=true->Er T body (ρ++[i64 i])=jH (p i) (some (.cont,[i64 ((i:Int)+1)])) (some (.ret,r)))
  (h3:decide ((n:Int)<n)=false->Er T body (ρ++[i64 n])=some (.yield j,[])) :
  Er T (.loop [.c (i64 0)] body) ρ=jH (Ra8 p n) (some (.yield j,[])) (some (.ret,r)) :=
 Bbc j n p r (fun i hi hp=>by rw[h1 i hi (by simp;omega),hp];rfl) (fun i hi hp=>by rw[h1 i hi (by simp;omega),hp];rfl) (h3 (by simp))
theorem Ibo {body:Tm β}{ρ:List D}(j:Nat)(xs:List α)(p:α->Bool)(r:List D)
  (h1:∀ i:Nat,i<xs.length->InB xs (i:Int)->decide ((i:Int)<xs.length)=true->atI xs (i:Int)∈xs->Er T body (ρ++[i64 i])=jH (p (atI xs i)) (some (.cont,[i64 ((i:Int)+1)])) (some (.ret,r)))
  (h3:decide ((xs.length:Int)<xs.length)=false->Er T body (ρ++[i64 xs.length])=some (.yield j,[])) :
  Er T (.loop [.c (i64 0)] body) ρ=jH (xs.all p) (some (.yield j,[])) (some (.ret,r)) :=
 Pbf j xs p r (fun i hi hb hl hp=>by rw[h1 i hi hb hl (by rw[aV hi];exact Sbx hi),hp];rfl) (fun i hi hb hl hp=>by rw[h1 i hi hb hl (by rw[aV hi];exact Sbx hi),hp];rfl) h3
def ixF (p:α->Bool)(xs:List α):Int:=match xs.findIdx? p with
 |some i=>i
 |none=>-1
omit [Inhabited α] in
theorem eP (p:α->Bool)(xs:List α):decide (0<=ixF p xs)=xs.any p:=by
 unfold ixF
 cases h:xs.findIdx? p with
 | none =>
  rw[List.findIdx?_eq_none_iff]at h
  have:xs.any p=false:=by
   rw[List.any_eq_false];exact fun x hx=>by simp[h x hx]
  rw[this];rfl
 | some i =>
  have:xs.any p=true:=by
   rw[List.findIdx?_eq_some_iff_getElem]at h;obtain⟨hi,hp,-⟩:=h;rw[Tbs];exact⟨_,Sbx hi,hp⟩
  rw[this];simp
theorem Bas {body:Tm β}{ρ:List D}(j:Nat)(xs:List α)(p:α->Bool)(rf:Int->List D)
  (h1:∀ i:Nat,i<xs.length->InB xs (i:Int)->decide ((i:Int)<xs.length)=true->p (atI xs i)=true->Er T body (ρ++[i64 i])=some (.ret,rf i))
  (h2:∀ i:Nat,i<xs.length->InB xs (i:Int)->decide ((i:Int)<xs.length)=true->p (atI xs i)=false->Er T body (ρ++[i64 i])=some (.cont,[i64 ((i:Int)+1)]))
  (h3:decide ((xs.length:Int)<xs.length)=false->Er T body (ρ++[i64 xs.length])=some (.yield j,[])) :
  Er T (.loop [.c (i64 0)] body) ρ=jH (xs.any p) (some (.ret,rf (ixF p xs))) (some (.yield j,[])):=by
 have br:∀ (i:Nat) (ys:List α),Eay (fun (i:Nat) x (_:Unit)=>if p x then Rd1.out (.ret,rf i) else .go ()) i ys ()=match ys.findIdx? p with|some k=>.out (.ret,rf ((i+k:Nat):Int))|none=>.go ():=by
  intro i ys
  induction ys generalizing i with
  |nil=>rfl
  | cons y ys ih =>
   rw[Eay,List.findIdx?_cons]
   cases p y with
   |true=>simp
   | false =>
    simp only[Qb4,if_false];rw[ih (i+1)]
    cases ys.findIdx? p with
    |none=>rfl
    |some k=>simp only[Rb9];congr 4;omega
 obtain⟨q,h4,h5⟩:=Iba (T:=T) (body:=body) (ρ:=ρ) (init:=[.c (i64 0)]) xs (fun i (_:Unit)=>[i64 i]) () (fun i x _=>if p x then .out (.ret,rf i) else .go ()) (fun _ _=>True) (fun _=>(.yield j,[])) rfl trivial
  (fun i _ hi _=>by
   cases e:p (atI xs i) with
   |true=>exact⟨by rw[h1 i hi (aM.2 hi) (by simp;omega) e];rfl,fun _ _=>trivial,fun r h=>by simp at h;rw[<- h];simp⟩
   |false=>exact⟨by rw[h2 i hi (aM.2 hi) (by simp;omega) e];rfl,fun _ _=>trivial,fun r h=>by simp at h⟩)
  (fun _ _=>⟨h3 (by simp),by simp⟩)
 rw[h4,<- eP];rw[br]at h5;unfold ixF
 cases e:xs.findIdx? p with
 | none =>
  rw[e]at h5
  rcases h5 with ⟨s,-,-,rfl⟩|h5
  ·rfl
  ·simp at h5
 | some k =>
  rw[e]at h5
  rcases h5 with ⟨s,h5,-⟩|h5
  ·simp at h5
  ·simp only[Nat.zero_add,Rd1.out.injEq]at h5
   rw[<- h5];simp[jH]
theorem at_mem {xs:List α}{i:Nat}(h:i<xs.length):atI xs (i:Int)∈xs:=by rw[aV h];exact Sbx h
omit [Inhabited α] in
theorem gW {body:Tm β}{ρ:List D}{init:List aI}(n:Nat)(vs:Nat->List D)(r:Kind×List D)(h0:init.map (·.val ρ)=vs 0)(hr:r.1≠.cont)
  (h1:∀ i:Nat,i<n->decide ((i:Int)<n)=true->Er T body (ρ++vs i)=some (.cont,vs (i+1)))
  (h2:decide ((n:Int)<n)=false->Er T body (ρ++vs n)=some r):Er T (.loop init body) ρ=some r:=by
 obtain⟨q,h3,rfl⟩:=Xai (T:=T) (body:=body) (ρ:=ρ) (fun i=>n-i) (fun i=>i<=n) vs (fun q=>q=r)
  (fun i hi=>by
   rcases Rbo i n with hlt|kn
   ·exact⟨_,h1 i hlt (by simp;omega),.inl ⟨rfl,i+1,by omega,by omega,rfl⟩⟩
   ·obtain rfl:i=n:=by omega
    exact⟨_,h2 (by simp),.inr ⟨hr,rfl⟩⟩) n 0 (by omega) (by omega) init h0
 exact h3
omit [Inhabited α] in
theorem Ia2 {γ:Type}{body:Tm β}{ρ:List D}{init:List aI}(r:Kind×List D)(m:γ->Nat)(inv:γ->Prop)(vs:γ->List D)(c0:γ)(h0:init.map (·.val ρ)=vs c0)(hi:inv c0)(hr:r.1≠.cont)
  (h:∀ c,inv c->(∃ c',Er T body (ρ++vs c)=some (.cont,vs c')/\inv c'/\m c'<m c)\/Er T body (ρ++vs c)=some r):Er T (.loop init body) ρ=some r:=by
 obtain⟨q,h1,rfl⟩:=Xai (T:=T) (body:=body) (ρ:=ρ) m inv vs (fun q=>q=r)
  (fun c hc=>by
   rcases h c hc with ⟨c',h2,h3,h4⟩|h2
   ·exact⟨_,h2,.inl ⟨rfl,c',h3,h4,rfl⟩⟩
   ·exact⟨_,h2,.inr ⟨hr,rfl⟩⟩) (m c0) c0 (Rbg _) hi init h0
 exact h1
theorem Yak {σ:Type}{body:Tm β}{ρ:List D}{init:List aI}(j:Nat)(xs:List α)(vs:Int->σ->List D)(s0:σ)(f:σ->α->σ)(inv:Nat->σ->Prop)(out:σ->List D)
  (h0:init.map (·.val ρ)=vs 0 s0) (hi:inv 0 s0)
  (h1:∀ (i:Nat) s,i<xs.length->InB xs (i:Int)->decide ((i:Int)<xs.length)=true->inv i s->Er T body (ρ++vs i s)=some (.cont,vs ((i:Int)+1) (f s (atI xs i)))/\inv (i+1) (f s (atI xs i)))
  (h2:∀ s,decide ((xs.length:Int)<xs.length)=false->inv xs.length s->Er T body (ρ++vs xs.length s)=some (.yield j,out s)) :
  Er T (.loop init body) ρ=some (.yield j,out (xs.foldl f s0))/\inv xs.length (xs.foldl f s0):=by
 have br:∀ i xs s,Eay (fun (_:Nat) (x:α) s=>Rd1.go (f s x)) i xs s=.go (xs.foldl f s):=by
  intro i xs
  induction xs generalizing i with
  |nil=>exact fun _=>rfl
  |cons x xs ih=>exact fun s=>ih (i+1) _
 obtain⟨q,h4,h5⟩:=Iba (T:=T) (body:=body) (ρ:=ρ) (init:=init) xs vs s0 (fun _ x s=>.go (f s x)) inv (fun s=>(.yield j,out s)) h0 hi
  (fun i s hl hv=>by
   obtain⟨h5,h6⟩:=h1 i s hl (aM.2 hl) (by simp;omega) hv;exact⟨h5,fun s' h=>by simp only[Rd1.go.injEq]at h;rw[<- h];exact h6,fun r h=>by cases h⟩)
  (fun s hv=>⟨h2 s (by simp) hv,by simp⟩)
 rw[br]at h5
 rcases h5 with ⟨s,h5,h6,rfl⟩|h5
 ·simp only[Rd1.go.injEq]at h5
  subst h5;exact⟨h4,h6⟩
 ·cases h5
end
theorem take_at {α:Type}[Inhabited α]{xs:List α}{i:Nat}(h:i<xs.length):xs.take i++[atI xs (i:Int)]=xs.take (i+1):=by rw[List.take_succ_eq_append_getElem h,aV h]
theorem Ka3 {α:Type}[Inhabited α]{xs:List α}{k:Int}(h:InB xs k):fQ xs k (atI xs k)=xs:=by
 have h2:=h.lt;unfold fQ atI;rw[Qb8,Qb3 h2];exact List.set_getElem_self h2
def Vab {α:Type}[Enc α](xs:List (List α))(k:Int):D:=.rows 1 ((xs.map Enc.enc).set k.toNat [.hole])
theorem Eao:(∀ {α:Type} [Enc α] {xs:List (List α)} {k:Int},InB xs k->(aR.set 1 0 1).run [rL xs,i64 k,.hole]=some [Vab xs k])/\(∀ {α:Type} [Enc α] {xs:List (List α)} {k j:Int},InB xs j->aR.inb.run [Vab xs k,i64 j]=some []) /\
  (∀ {α:Type} [Enc α] {xs:List (List α)} {k:Int} {l:List α},InB xs k->(aR.set 1 0 1).run [Vab xs k,i64 k,rL l]=some [rL (fQ xs k l)]):=by
 refine⟨?_,?_,?_⟩
 ·intro α _ xs k h
  have h2:=h.lt;unfold InB at h;have e:(xs.map Enc.enc)[k.toNat]?=some [rL xs[k.toNat]]:=by rw[Rbr,Qb3 h2];rfl
  show (if _ then _ else _)=_
  rw[if_pos ⟨rfl,h.1⟩,e];rfl
 ·intro α _ xs k j h
  unfold InB at h;show (if _ then _ else _)=_
  rw[if_pos ⟨h.1,by simpa using h.2⟩]
 ·intro α _ xs k l h
  have h2:=h.lt;unfold InB at h;have e:((xs.map Enc.enc).set k.toNat [.hole])[k.toNat]?=some [.hole]:=by rw[List.getElem?_set_self (by simpa using h2)]
  show (if _ then _ else _)=_
  rw[if_pos ⟨rfl,h.1⟩,e];show some _=_
  simp only[rL,fQ,List.map_set,List.set_set];rfl
theorem SQ:(∀ {a b:Int},-9223372036854775808<=a+b->a+b<=9223372036854775807->(aR.bin .add).run [i64 a,i64 b]=some [i64 (a+b)]) /\
  (∀ {a b:Int},-9223372036854775808<=a-b->a-b<=9223372036854775807->(aR.bin .sub).run [i64 a,i64 b]=some [i64 (a-b)]) /\
  (∀ {a b:Int},0<=a->a<=9223372036854775807->0<b->(aR.bin .quo).run [i64 a,i64 b]=some [i64 (a / b)])/\(∀ {a b:Int},0<=a->0<b->(aR.bin .rem).run [i64 a,i64 b]=some [i64 (a % b)]) :=
 ⟨Ebs,Qaw,Bbe,Bbd⟩
theorem wP:(∀ {α:Type} [Inhabited α] {xs:List α} {k:Int} {a:α},InB xs k->atI (fQ xs k a) k=a)/\(∀ {α:Type} {xs:List α} {k:Int} {a b:α},fQ (fQ xs k a) k b=fQ xs k b) /\
  (∀ {α:Type} {xs:List α} {j k:Int} {a:α},InB (fQ xs j a) k=InB xs k)/\(∀ {α:Type} {xs:List α} {j:Int} {a:α},(fQ xs j a).length=xs.length):=by
 refine⟨?_,?_,?_,?_⟩
 ·intro α _ xs k a h
  have:=h.lt;rw[fQ,atI,Qb8,List.getElem?_set_self this];rfl
 ·intro α xs k a b
  rw[fQ,fQ,fQ,List.set_set]
 ·intro α xs j k a
  unfold InB fQ;rw[Sb6]
 ·intro α xs j a
  exact Sb6 ..
section
variable {T:Nat->Ent} {β:Type} {α:Type} [Inhabited α]
end
theorem SZ:(∀ b:Bool,(b&&true)=b)/\(∀ b:Bool,(true&&b)=b)/\(∀ b:Bool,(b&&false)=false)/\(∀ b:Bool,(false&&b)=false) /\
  (∀ b:Bool,(b||true)=true)/\(∀ b:Bool,(true||b)=true)/\(∀ b:Bool,(b||false)=b)/\(∀ b:Bool,(false||b)=b)/\((!true)=false)/\((!false)=true) :=
 ⟨Sb4,Ubh,Bool.and_false,Bool.false_and,Bool.or_true,Bool.true_or,Bool.or_false,Tbr,rfl,rfl⟩
theorem aK {γ:Type}{a r:γ}(h:jH true a r=r):a=r:=h
theorem S0:type_of% (And.intro Qb4 (And.intro @ite_true.{1} (And.intro @ite_false.{1} (And.intro @SA (And.intro @SB (And.intro @SC (And.intro @SP (And.intro @SQ (And.intro @SZ (And.intro @beq_self_eq_true.{0} (And.intro @decide_true (And.intro @decide_false (And.intro @Ibm @Ibq))))))))))))):=And.intro Qb4 (And.intro @ite_true.{1} (And.intro @ite_false.{1} (And.intro @SA (And.intro @SB (And.intro @SC (And.intro @SP (And.intro @SQ (And.intro @SZ (And.intro @beq_self_eq_true.{0} (And.intro @decide_true (And.intro @decide_false (And.intro @Ibm @Ibq))))))))))))
theorem Tay {x y:Bool}(h:x=true↔y=true):some [D.bool x]=some [D.bool y]:=by rw[Bool.eq_iff_iff.2 h]
def dK (n:Int):Bool:=n==3||n==5
theorem bD {n:Int}(h:dK n=true):n=3\/n=5:=by simpa[dK] using h
def inst (n rep no:Int):Bool:=inR rep 0 (n-1)&&inR no 1 6
def pU (c:yY):Bool :=
 if c.kind==0 then decide (c=⟨0,0,0,0,0⟩) else if c.kind==1 then inR c.id 1 999&&inR c.src 0 3&&inR c.dst 0 3&&!(c.src==c.dst)&&inR c.amt 1 1000
 else c.kind==2&&inR c.id 1 999&&inR c.src 0 3&&c.dst==0&&c.amt==0
def Maj (c:yY):Int :=
 if !inR c.src 0 3||(c.kind==1&&!inR c.dst 0 3) then 4 else if c.kind==1&&c.src==c.dst then 5 else if !inR c.id 1 999||(c.kind==1&&!inR c.amt 1 1000) then 6 else 0
def uH (n:Int)(a:mU):Bool:=inR a.seq 0 999&&(a.deps.length:Int)==n&&a.deps.all fun x=>inR x 0 6
def none0 (n:Int):mU:=⟨0,Rbf n.toNat 0⟩
def rowOk (n:Int)(r:bT):Bool :=
 inR r.ballot 0 9999&&inR r.vote 0 r.ballot&&inR r.state 0 3&&(if r.state==0 then r.vote==0&&decide (r.cmd=⟨0,0,0,0,0⟩)&&decide (r.attr=none0 n) else pU r.cmd&&uH n r.attr)
theorem Lae {n:Int}(h:dK n=true):uH n (none0 n)=true:=by
 rcases bD h with rfl|rfl<;>rfl
theorem Zac {c:yY}(h:decide (c=⟨0,0,0,0,0⟩)=true):pU c=true:=by
 rw[of_decide_eq_true h];rfl
theorem Cbx {c:yY}:(Maj c==0)=(inR c.src 0 3&&inR c.id 1 999&&(!(c.kind==1)||(inR c.dst 0 3&&!(c.src==c.dst)&&inR c.amt 1 1000))):=by
 unfold Maj;cases inR c.src 0 3<;>cases inR c.id 1 999<;>cases c.kind==1<;>cases inR c.dst 0 3<;>cases c.src==c.dst<;>cases inR c.amt 1 1000<;>rfl
def Dbk (xs:List bT):Prop:=xs.length<=10000000000/\∀ r∈xs,r.attr.deps.length<=10000000000
def iM (rows:List (List bT)):Prop:=rows.length<=10000000000/\∀ l∈rows,Dbk l
def bA (t:aG):Bool:=dK t.n&&(t.rows.length:Int)==t.n&&t.rows.all fun l=>l.all (fun r=>rowOk t.n r)&&decide ((l.length:Int)<=6)
def row0 (n:Int):bT:=⟨0,0,0,⟨0,0,0,0,0⟩,none0 n⟩
def fB (t:aG)(rep no:Int):bT:=if no<=(atI t.rows rep).length then atI (atI t.rows rep) (no-1) else row0 t.n
def Ob7:bT:=⟨0,0,0,⟨0,0,0,0,0⟩,⟨0,[]⟩⟩
def qH (t:aG)(rep no:Int):bT×Bool:=if bA t&&inst t.n rep no then (fB t rep no,true) else (Ob7,false)
theorem Iab:(rL ([]:List Int)=.rows 1 [])/\(rL ([]:List (List Int))=.rows 1 [])/\(rL ([]:List bT)=.rows 10 [])/\(rL ([]:List (List bT))=.rows 1 [])/\(rL ([]:List Paz)=.rows 16 [])/\(rL ([]:List Db4)=.rows 15 []):=⟨rfl,rfl,rfl,rfl,rfl,rfl⟩
theorem bG {n rep no:Int}(h:inst n rep no=true):0<=rep/\rep<=n-1/\1<=no/\no<=6:=by
 simp only[inst,inR,Qb1,decide_eq_true_eq]at h;omega
theorem aW {t:aG}(h:bA t=true):dK t.n=true:=by
 simp only[bA,Qb1]at h;exact h.1.1
theorem dG {t:aG}(h:bA t=true):(t.rows.length:Int)=t.n:=by
 simp only[bA,Qb1,beq_iff_eq]at h;exact h.1.2
theorem dF {t:aG}{rep no:Int}(h:bA t=true)(hi:inst t.n rep no=true):InB t.rows rep:=by
 have:=dG h;have:=bG hi;unfold InB;omega
theorem eU {t:aG}(h:bA t=true){l:List bT}(hl:l∈t.rows):l.length<=6/\∀ r∈l,rowOk t.n r=true:=by
 simp only[bA,Qb1,Rbu,decide_eq_true_eq]at h;have:=h.2 l hl;exact⟨by omega,this.1⟩
theorem Cat {n:Int}{r:bT}(h:rowOk n r=true)(hg:dK n=true):(r.attr.deps.length:Int)=n:=by
 have h2:uH n r.attr=true:=by
  simp only[rowOk,Qb1]at h;have h3:=h.2;split at h3
  ·simp only[Qb1]at h3
   rw[of_decide_eq_true h3.2];exact Lae hg
  ·simp only[Qb1]at h3
   exact h3.2
 simp only[uH,Qb1,beq_iff_eq]at h2;exact h2.1.2
theorem Na5 {n:Int}{r:bT}(h:rowOk n r=true):pU r.cmd=true:=by
 simp only[rowOk,Qb1]at h;have h3:=h.2;split at h3
 ·simp only[Qb1]at h3
  exact Zac h3.1.2
 ·simp only[Qb1]at h3
  exact h3.1
theorem dE {α:Type}[Inhabited α]{xs:List α}{k:Int}(h:InB xs k):atI xs k∈xs:=by
 have h2:=h.lt;have e:((k.toNat:Nat):Int)=k:=by unfold InB at h;omega
 rw[<- e];exact at_mem h2
theorem mZ {t:aG}{rep no:Int}(h:bA t=true)(hi:inst t.n rep no=true):rowOk t.n (fB t rep no)=true:=by
 unfold fB;have hb:=dF h hi;have hr:=bG hi;split
 ·exact (eU h (dE hb)).2 _ (dE (by unfold InB;omega))
 ·rcases bD (aW h) with e|e<;>rw[e]<;>rfl
theorem iN {t:aG}{rep no:Int}(h:bA t=true)(hi:inst t.n rep no=true):((fB t rep no).attr.deps.length:Int)=t.n:=Cat (mZ h hi) (aW h)
def ext (n:Int)(l:List bT)(no:Int):List bT:=l++Rbf (no-l.length).toNat (row0 n)
def Ea4 (t:aG)(rep no:Int)(r:bT):aG:=⟨t.n,fQ t.rows rep (fQ (ext t.n (atI t.rows rep) no) (no-1) r)⟩
def Ta8 (t:aG)(rep no:Int)(r:bT):aG×Bool:=if bA t&&inst t.n rep no&&rowOk t.n r then (Ea4 t rep no r,true) else (⟨0,[]⟩,false)
theorem Mab {n:Int}{l:List bT}{no:Int}(h:0<=no):((ext n l no).length:Int)=max (l.length:Int) no:=by
 simp only[ext,Qb6,List.length_replicate];omega
def nb (b me:Int):Int:=if b<8+me then 8+me else b+1+(me-b-1) % 8
theorem Fba {x lo hi:Int}(h:inR x lo hi=true):lo<=x/\x<=hi:=by
 simpa[inR] using h
theorem gB {α:Type}{xs:List α}{k:Int}{a:α}:(fQ xs k a).length=xs.length:=Sb6 ..
theorem Zar {α:Type}[Inhabited α]{xs:List α}{j k:Int}{a:α}(hj:0<=j)(hk:0<=k)(h:j≠k):atI (fQ xs j a) k=atI xs k:=by
 unfold atI fQ;rw[Qb8,Qb8,List.getElem?_set_ne (by omega)]
theorem Zad {c:yY}(h:pU c=true):(c.kind=0\/c.kind=1\/c.kind=2)/\(c.kind=1->(0<=c.src/\c.src<=3)/\(0<=c.dst/\c.dst<=3)/\c.src≠c.dst/\1<=c.amt/\c.amt<=1000)/\(c.kind=2->0<=c.src/\c.src<=3):=by
 unfold pU at h;split at h
 ·rename_i h0
  have:c.kind=0:=by simpa using h0
  exact⟨.inl this,by omega,by omega⟩
 ·split at h
  ·rename_i h1
   have:c.kind=1:=by simpa using h1
   simp only[Qb1,inR,decide_eq_true_eq,Rbp,beq_eq_false_iff_ne]at h;exact⟨by omega,fun _=>⟨h.1.1.1.2,h.1.1.2,h.1.2,h.2⟩,by omega⟩
  ·simp only[Qb1,inR,decide_eq_true_eq,beq_iff_eq]at h
   exact⟨by omega,by omega,fun _=>h.1.1.2⟩
def kQ (xs:List Int)(n:Int):Bool:=xs.any fun x=>x==n
def nD (xs:List Int)(n:Int):Nat:=(xs.takeWhile fun x=>decide (x<n)).length
def Ma1 (xs:List Int)(n:Int):List Int:=if decide ((nD xs n:Int)<xs.length)&&(atI xs (nD xs n:Nat)==n) then xs else xs.take (nD xs n)++[n]++xs.drop (nD xs n)
theorem Ebv (xs:List Int)(n:Int):nD xs n<=xs.length:=(List.takeWhile_sublist _).length_le
theorem Wa1:∀ {xs:List Int} {n:Int} {k:Nat},k<nD xs n->atI xs (k:Int)<n
 |[],n,k,h=>by simp[nD]at h
 | x :: xs, n, k, h => by
  unfold nD at h;rw[List.takeWhile_cons]at h;by_cases hx:x<n
  ·rw[if_pos (by simpa using hx)]at h
   cases k with
   |zero=>exact hx
   |succ k=>exact Wa1 (xs:=xs) (k:=k) (by simpa[nD] using h)
  ·rw[if_neg (by simpa using hx)]at h
   simp at h
theorem Wa2:∀ {xs:List Int} {n:Int},nD xs n<xs.length->¬ atI xs (nD xs n:Nat)<n
 |[],n,h=>by simp at h
 | x :: xs, n, h => by
  unfold nD at h ⊢;rw[List.takeWhile_cons]at h ⊢;by_cases hx:x<n
  ·rw[if_pos (by simpa using hx)]at h ⊢
   exact Wa2 (xs:=xs) (n:=n) (by simpa[nD] using h)
  ·rw[if_neg (by simpa using hx)]
   exact hx
def jW (c:yY):List Int:=if c.kind==1 then [min c.src c.dst,max c.src c.dst] else if c.kind==2 then [c.src] else []
theorem wW (c:yY):(jW c).length<=2:=by
 unfold jW;split
 ·simp
 ·split<;>simp
def oP (a b:yY):Bool:=(jW a).any fun k=>kQ (jW b) k
theorem Ga2 (a b:yY):oP a b=oP b a:=by
 unfold oP kQ;rw[Bool.eq_iff_iff];simp only[Tbs,beq_iff_eq];constructor
 ·rintro⟨x,hx,y,hy,rfl⟩;exact⟨y,hy,y,hx,rfl⟩
 ·rintro⟨x,hx,y,hy,rfl⟩;exact⟨y,hy,y,hx,rfl⟩
theorem Pbv {a b:Int}(h:a≠b):Ma1 [a] b=[min a b,max a b]:=by
 by_cases hx:a<b
 ·have e:nD [a] b=1:=by simp[nD,hx]
  unfold Ma1;rw[e];simp[Int.min_eq_left (Int.le_of_lt hx),Int.max_eq_right (Int.le_of_lt hx)]
 ·have e:nD [a] b=0:=by simp[nD,hx]
  unfold Ma1;rw[e];simp[atI,h,Int.min_eq_right (by omega:b<=a),Int.max_eq_left (by omega:b<=a)]
def fU (l:List bT)(k:Int)(m:Nat):List (List Int):=(Tb1 m).flatMap fun i:Nat=>if (atI l (i:Int)).state==3 then [[k,(i:Int)+1]] else []
def Fak (rows:List (List bT))(m:Nat):List (List Int):=(Tb1 m).flatMap fun k:Nat=>fU (atI rows (k:Int)) k (atI rows (k:Int)).length
def bO (rows:List (List bT)):List (List Int):=Fak rows rows.length
theorem pI (l:List bT)(k:Int)(m:Nat):fU l k (m+1)=fU l k m++if (atI l (m:Int)).state==3 then [[k,(m:Int)+1]] else []:=by
 simp[fU,Tbg,Sbu]
theorem Ba3 (rows:List (List bT))(m:Nat):Fak rows (m+1)=Fak rows m++fU (atI rows (m:Int)) m (atI rows (m:Int)).length:=by
 simp[Fak,Tbg,Sbu]
theorem tC (l:List bT)(k:Int):∀ m,(fU l k m).length<=m
 |0=>by simp[fU]
 | m + 1 => by
  have:=tC l k m;rw[pI,Qb6];split<;>simp<;>omega
theorem xW {rows:List (List bT)}(h:∀ l∈rows,l.length<=6):∀ {m},m<=rows.length->(Fak rows m).length<=6*m
 |0,_=>by simp[Fak]
 | m + 1, hm => by
  have h1:=xW h (m:=m) (by omega);have h2:=tC (atI rows (m:Int)) m (atI rows (m:Int)).length;have h3:=h _ (at_mem (show m<rows.length by omega));rw[Ba3,Qb6];omega
theorem Tav {rows:List (List bT)}{x:List Int}(h:x∈bO rows):∃ k i:Nat,k<rows.length/\i<(atI rows (k:Int)).length/\x=[(k:Int),(i:Int)+1]/\(atI (atI rows (k:Int)) (i:Int)).state=3:=by
 unfold bO Fak fU at h;simp only[Tbi,Sb1]at h;obtain⟨k,hk,i,hi,hx⟩:=h;split at hx
 ·rename_i hs
  exact⟨k,i,hk,hi,by simpa using hx,by simpa using hs⟩
 ·cases hx
theorem kS {t:aG}(ht:bA t=true){x:List Int}(h:x∈bO t.rows):InB x 0/\InB x 1/\x.length=2/\inst t.n (atI x 0) (atI x 1)=true/\(fB t (atI x 0) (atI x 1)).state=3:=by
 obtain⟨k,i,hk,hi,rfl,hs⟩:=Tav h;have h1:=(eU ht (at_mem hk)).1;have h2:=dG ht;refine⟨by unfold InB;simp,by unfold InB;simp,rfl,?_,?_⟩
 ·simp only[atI,inst,inR,Qb1,decide_eq_true_eq]
  simp;omega
 ·show (fB t (k:Int) ((i:Int)+1)).state=3
  unfold fB;rw[if_pos (by omega),show (i:Int)+1-1=i by omega];exact hs
def Za6 (t:aG)(x y:List Int):Bool :=
 oP (fB t (atI x 0) (atI x 1)).cmd (fB t (atI y 0) (atI y 1)).cmd&&decide (atI (fB t (atI x 0) (atI x 1)).attr.deps (atI y 0)<atI y 1)&&decide (atI (fB t (atI y 0) (atI y 1)).attr.deps (atI x 0)<atI x 1)
def La4 (t:aG):Bool:=Ra8 (fun i=>((bO t.rows).take i).all fun y=>!Za6 t (atI (bO t.rows) (i:Int)) y) (bO t.rows).length
def Rae (t:aG):Bool×Bool:=if bA t then (La4 t,true) else (false,false)
theorem Pa9 {t:aG}(ht:bA t=true){x y:List Int}(hx:inst t.n (atI x 0) (atI x 1)=true)(hy:inst t.n (atI y 0) (atI y 1)=true):InB (fB t (atI x 0) (atI x 1)).attr.deps (atI y 0):=by
 have h1:=iN ht hx;have h2:=bG hy;unfold InB;omega
def fM (l:List (List Int))(x:List Int):Int:=ixF (fun y=>decide (x=y)) l
def wH (k:Int)(rep no:Int)(m:Nat):List (List Int):=(Tb1 m).flatMap fun i:Nat=>if !(k==rep)||!((i:Int)+1==no) then [[k,(i:Int)+1]] else []
def Tas (deps:List Int)(rep no:Int)(m:Nat):List (List Int):=(Tb1 m).flatMap fun k:Nat=>wH k rep no (atI deps (k:Int)).toNat
theorem Hau (k rep no:Int)(m:Nat):wH k rep no (m+1)=wH k rep no m++if !(k==rep)||!((m:Int)+1==no) then [[k,(m:Int)+1]] else []:=by
 simp[wH,Tbg,Sbu]
theorem Pai (deps:List Int)(rep no:Int)(m:Nat):Tas deps rep no (m+1)=Tas deps rep no m++wH m rep no (atI deps (m:Int)).toNat:=by
 simp[Tas,Tbg,Sbu]
def Iaw (t:aG)(rep no:Int):List (List Int):=Tas (fB t rep no).attr.deps rep no (fB t rep no).attr.deps.length
theorem Dae (k rep no:Int):∀ m,(wH k rep no m).length<=m
 |0=>by simp[wH]
 | m + 1 => by
  have:=Dae k rep no m;rw[Hau,Qb6];split<;>simp<;>omega
theorem Faj {deps:List Int}{rep no:Int}(h:∀ d∈deps,d<=6):∀ {m},m<=deps.length->(Tas deps rep no m).length<=6*m
 |0,_=>by simp[Tas]
 | m + 1, hm => by
  have h1:=Faj (rep:=rep) (no:=no) h (m:=m) (by omega);have h2:=Dae (m:Int) rep no (atI deps (m:Int)).toNat;have h3:=h _ (at_mem (show m<deps.length by omega));rw[Pai,Qb6];omega
theorem mV {n:Int}{r:bT}(h:rowOk n r=true)(hg:dK n=true):∀ d∈r.attr.deps,0<=d/\d<=6:=by
 have h2:uH n r.attr=true:=by
  simp only[rowOk,Qb1]at h;have h3:=h.2;split at h3
  ·simp only[Qb1]at h3
   rw[of_decide_eq_true h3.2];exact Lae hg
  ·simp only[Qb1]at h3
   exact h3.2
 simp only[uH,Qb1,Rbu]at h2;exact fun d hd=>Fba (h2.2 d hd)
theorem Fai {deps:List Int}{rep no:Int}{m:Nat}{y:List Int}:y∈Tas deps rep no m↔∃ k i:Nat,k<m/\(i:Int)<atI deps (k:Int)/\¬((k:Int)=rep/\(i:Int)+1=no)/\y=[(k:Int),(i:Int)+1]:=by
 unfold Tas wH;simp only[Tbi,Sb1];constructor
 ·rintro⟨k,hk,i,hi,hy⟩
  split at hy
  ·rename_i hc
   refine⟨k,i,hk,by omega,?_,by simpa using hy⟩;simp only[Sbe,Rbp,beq_eq_false_iff_ne,ne_eq]at hc;omega
  ·cases hy
 ·rintro⟨k,i,hk,hi,bh,rfl⟩
  refine⟨k,hk,i,by omega,?_⟩;rw[if_pos]
  ·simp
  ·simp only[Sbe,Rbp,beq_eq_false_iff_ne,ne_eq]
   omega
def jF (xs:List Int):Prop:=xs.Pairwise (· < ·)
theorem xB:∀ {xs ys:List Int},jF xs->jF ys->(∀ x,x∈xs↔x∈ys)->xs=ys
 |[],[],_,_,_=>rfl
 |[],y::ys,_,_,h=>by have:=(h y).2 Rbj;cases this
 |x::xs,[],_,_,h=>by have:=(h x).1 Rbj;cases this
 | x :: xs, y :: ys, hx, hy, h => by
  unfold jF at hx hy;rw[Tbn]at hx hy
  have e:x=y:=by
   rcases List.mem_cons.1 ((h x).1 Rbj) with h1|h1
   ·exact h1
   ·rcases List.mem_cons.1 ((h y).2 Rbj) with h2|h2
    ·exact h2.symm
    ·have:=hx.1 y h2
     have:=hy.1 x h1;omega
  subst e;congr 1;refine xB hx.2 hy.2 fun z=>?_
  constructor
  ·intro hz
   rcases List.mem_cons.1 ((h z).1 (Rbd _ hz)) with h1|h1
   ·subst h1
    exact absurd (hx.1 z hz) (by omega)
   ·exact h1
  ·intro hz
   rcases List.mem_cons.1 ((h z).2 (Rbd _ hz)) with h1|h1
   ·subst h1
    exact absurd (hy.1 z hz) (by omega)
   ·exact h1
theorem Oae {x n:Int}{xs:List Int}:Ma1 (x::xs) n=if x<n then x::Ma1 xs n else if x==n then x::xs else n::x::xs:=by
 by_cases h:x<n
 ·rw[if_pos h]
  have e:nD (x::xs) n=nD xs n+1:=by simp[nD,h]
  have ea:atI (x::xs) ((nD xs n+1:Nat):Int)=atI xs (nD xs n:Nat):=by
   rw[Man,Man,List.getD_cons_succ]
  have el:decide (((nD xs n+1:Nat):Int)<(x::xs).length)=decide (((nD xs n:Nat):Int)<xs.length):=by
   simp only[Rbe,decide_eq_decide];omega
  unfold Ma1;rw[e,ea,el];split
  ·rfl
  ·simp
 ·rw[if_neg h]
  have e:nD (x::xs) n=0:=by simp[nD,h]
  unfold Ma1;rw[e];have ea:atI (x::xs) ((0:Nat):Int)=x:=rfl;rw[ea];have el:decide (((0:Nat):Int)<(x::xs).length)=true:=by simp
  rw[el,Ubh];split
  ·rfl
  ·simp
theorem Fae:∀ {xs:List Int} {n x:Int},x∈Ma1 xs n↔x∈xs\/x=n
 |[],n,x=>by simp[Ma1,nD]
 | y :: ys, n, x => by
  rw[Oae];split
  ·rw[Rb2,Fae,Rb2,or_assoc]
  ·split
   ·rename_i h
    have:y=n:=by simpa using h
    subst this;simp[or_comm]
   ·simp only[Rb2]
    constructor
    ·rintro (h|h|h)
     ·exact .inr h
     ·exact .inl (.inl h)
     ·exact .inl (.inr h)
    ·rintro ((h|h)|h)
     ·exact .inr (.inl h)
     ·exact .inr (.inr h)
     ·exact .inl h
theorem zJ:∀ {xs:List Int} {n:Int},jF xs->jF (Ma1 xs n)
 |[],n,_=>by simp[Ma1,nD,jF]
 | y :: ys, n, h => by
  have h':=h;unfold jF at h;rw[Tbn]at h;rw[Oae];split
  ·unfold jF
   rw[Tbn];refine⟨fun z hz=>?_,zJ h.2⟩
   rcases Fae.1 hz with h1|h1
   ·exact h.1 z h1
   ·omega
  ·split
   ·exact h'
   ·rename_i h1 h2
    have:y≠n:=by simpa using h2
    unfold jF;rw[Tbn];refine⟨fun z hz=>?_,h'⟩
    rcases List.mem_cons.1 hz with h3|h3
    ·omega
    ·have:=h.1 z h3
     omega
theorem Bbn (xs:List Int)(n:Int):(Ma1 xs n).length<=xs.length+1:=by
 unfold Ma1;split
 ·omega
 ·simp only[Qb6,Rbe,Rbk,Rbq,Sbf];omega
def Pa2 (dh ys:List (List Int)):Nat->List Int
 |0=>[]
 |m+1=>if decide (0<=fM dh (atI ys (m:Int))) then Ma1 (Pa2 dh ys m) (fM dh (atI ys (m:Int))) else Pa2 dh ys m
theorem Aa3 (dh ys:List (List Int))(m:Nat):Pa2 dh ys (m+1)=if decide (0<=fM dh (atI ys (m:Int))) then Ma1 (Pa2 dh ys m) (fM dh (atI ys (m:Int))) else Pa2 dh ys m:=rfl
theorem zI (dh ys:List (List Int)):∀ m,jF (Pa2 dh ys m)
 |0=>List.Pairwise.nil
 | m + 1 => by
  rw[Aa3];split
  ·exact zJ (zI dh ys m)
  ·exact zI dh ys m
theorem Sa2 (dh ys:List (List Int)):∀ m,(Pa2 dh ys m).length<=m
 |0=>by simp[Pa2]
 | m + 1 => by
  have:=Sa2 dh ys m;rw[Aa3];split
  ·have:=Bbn (Pa2 dh ys m) (fM dh (atI ys (m:Int)))
   omega
  ·omega
theorem Laa {dh ys:List (List Int)}:∀ {m:Nat} {j:Int},j∈Pa2 dh ys m↔∃ i,i<m/\0<=fM dh (atI ys (i:Nat))/\fM dh (atI ys (i:Nat))=j
 |0,j=>by simp[Pa2]
 | m + 1, j => by
  rw[Aa3];split
  ·rename_i h
   have h':0<=fM dh (atI ys (m:Int)):=by simpa using h
   rw[Fae,Laa];constructor
   ·rintro (⟨i,h1,h2⟩|h1)
    ·exact⟨i,by omega,h2⟩
    ·exact⟨m,by omega,h',h1.symm⟩
   ·rintro⟨i,h1,h2,h3⟩
    rcases Rbo i m with h4|h4
    ·exact .inl ⟨i,h4,h2,h3⟩
    ·obtain rfl:i=m:=by omega
     exact .inr h3.symm
  ·rename_i h
   have h':¬ 0<=fM dh (atI ys (m:Int)):=by simpa using h
   rw[Laa];constructor
   ·rintro⟨i,h1,h2⟩;exact⟨i,by omega,h2⟩
   ·rintro⟨i,h1,h2,h3⟩
    rcases Rbo i m with h4|h4
    ·exact⟨i,h4,h2,h3⟩
    ·obtain rfl:i=m:=by omega
     exact absurd h2 h'
def Oay (dh:List (List Int))(deps:List Int)(x:List Int)(j:Nat):Bool:=!decide (x=atI dh (j:Int))&&decide (atI (atI dh (j:Int)) 1<=atI deps (atI (atI dh (j:Int)) 0))
def uM (dh:List (List Int))(deps:List Int)(x:List Int)(m:Nat):List Int:=(Tb1 m).flatMap fun j:Nat=>if Oay dh deps x j then [(j:Int)] else []
theorem Ca7 (dh:List (List Int))(deps:List Int)(x:List Int)(m:Nat):uM dh deps x (m+1)=uM dh deps x m++if Oay dh deps x m then [(m:Int)] else []:=by
 simp[uM,Tbg,Sbu]
theorem Hab (dh:List (List Int))(deps:List Int)(x:List Int):∀ m,(uM dh deps x m).length<=m
 |0=>by simp[uM]
 | m + 1 => by
  have:=Hab dh deps x m;rw[Ca7,Qb6];split<;>simp<;>omega
theorem vY {dh:List (List Int)}{deps:List Int}{x:List Int}{m:Nat}{j:Int}:j∈uM dh deps x m↔∃ k:Nat,k<m/\Oay dh deps x k=true/\(k:Int)=j:=by
 unfold uM;simp only[Tbi,Sb1];constructor
 ·rintro⟨k,hk,h⟩
  split at h
  ·rename_i hb
   have:j=(k:Int):=by simpa using h
   exact⟨k,hk,hb,this.symm⟩
  ·cases h
 ·rintro⟨k,hk,hb,rfl⟩
  exact⟨k,hk,by rw[if_pos hb];simp⟩
theorem Eaa (dh:List (List Int))(deps:List Int)(x:List Int):∀ m,jF (uM dh deps x m)
 |0=>by simp[uM,jF]
 | m + 1 => by
  rw[Ca7];unfold jF;rw[List.pairwise_append];refine⟨Eaa dh deps x m,by split<;>simp,fun a ha b hb=>?_⟩;obtain⟨k,hk,-,rfl⟩:=vY.1 ha;split at hb
  ·have:b=(m:Int):=by simpa using hb
   omega
  ·cases hb
theorem Las {α:Type}[Inhabited α]{p:α->Bool}{xs:List α}(h:0<=ixF p xs):InB xs (ixF p xs)/\p (atI xs (ixF p xs))=true/\∀ k:Nat,(k:Int)<ixF p xs->p (atI xs (k:Int))=false:=by
 unfold ixF at h ⊢
 cases e:xs.findIdx? p with
 |none=>rw[e]at h;simp at h
 | some i =>
  rw[List.findIdx?_eq_some_iff_getElem]at e;obtain⟨hi,hp,a07⟩:=e;refine⟨aM.2 hi,by simp only;rw[aV hi];exact hp,fun k hk=>?_⟩;have fy:k<i:=by simp only at hk;omega
  rw[aV (by omega)];have:=a07 k fy;simpa using this
theorem Xay {α:Type}[Inhabited α]{p:α->Bool}{xs:List α}{k:Nat}(hk:k<xs.length)(hp:p (atI xs (k:Int))=true):0<=ixF p xs:=by
 have h:xs.any p=true:=List.any_eq_true.2 ⟨_,at_mem hk,hp⟩;rw[<- eP]at h;exact of_decide_eq_true h
theorem Ca8 {l:List (List Int)}{x:List Int}(h:0<=fM l x):InB l (fM l x)/\x=atI l (fM l x)/\∀ k:Nat,(k:Int)<fM l x->¬ x=atI l (k:Int):=by
 obtain⟨h1,h2,h3⟩:=Las (p:=fun y=>decide (x=y)) h;exact⟨h1,of_decide_eq_true h2,fun k hk=>of_decide_eq_false (h3 k hk)⟩
theorem qY {l:List bT}{k:Int}{m:Nat}{y:List Int}(h:y∈fU l k m):∃ i:Nat,i<m/\y=[k,(i:Int)+1]:=by
 unfold fU at h;simp only[Tbi,Sb1]at h;obtain⟨i,hi,h⟩:=h;split at h
 ·exact⟨i,hi,by simpa using h⟩
 ·cases h
theorem Ba2 (l:List bT)(k:Int):∀ m,(fU l k m).Nodup
 |0=>by simp[fU]
 | m + 1 => by
  rw[pI,List.nodup_append];refine⟨Ba2 l k m,by split<;>simp,fun a ha b hb=>?_⟩;obtain⟨i,hi,rfl⟩:=qY ha;split at hb
  ·have:b=[k,(m:Int)+1]:=by simpa using hb
   rw[this];simp;omega
  ·cases hb
theorem Dai (rows:List (List bT)):∀ m,(Fak rows m).Nodup
 |0=>by simp[Fak]
 | m + 1 => by
  rw[Ba3,List.nodup_append];refine⟨Dai rows m,Ba2 ..,fun a ha b hb=>?_⟩;obtain⟨i,hi,rfl⟩:=qY hb;unfold Fak at ha;simp only[Tbi,Sb1]at ha;obtain⟨k,hk,ha⟩:=ha;obtain⟨i',cu,rfl⟩:=qY ha;simp;omega
theorem Yad {t:aG}(ht:bA t=true){x:List Int}(hx:x∈bO t.rows) :
  Pa2 (bO t.rows) (Iaw t (atI x 0) (atI x 1)) (Iaw t (atI x 0) (atI x 1)).length=uM (bO t.rows) (fB t (atI x 0) (atI x 1)).attr.deps x (bO t.rows).length:=by
 refine xB (zI ..) (Eaa ..) fun j=>?_
 rw[Laa,vY];obtain⟨-,-,hlen,zd,-⟩:=kS ht hx;have mi:=iN ht zd
 have hxe:x=[atI x 0,atI x 1]:=by
  match x,hlen with
  |[a,b],_=>rfl
 have mT:(bO t.rows).Nodup:=Dai ..;have htl:=dG ht;constructor
 ·rintro⟨i,hi,h0,rfl⟩
  have hy:atI (Iaw t (atI x 0) (atI x 1)) (i:Int)∈Iaw t (atI x 0) (atI x 1):=at_mem hi;generalize atI (Iaw t (atI x 0) (atI x 1)) (i:Int)=y at hy h0 ⊢;obtain⟨hb,hye,-⟩:=Ca8 h0;have hk:=hb.lt;refine⟨(fM (bO t.rows) y).toNat,hk,?_,by omega⟩;have e:(((fM (bO t.rows) y).toNat:Nat):Int)=fM (bO t.rows) y:=by omega
  unfold Oay;rw[e,<- hye];obtain⟨k,i',h1,h2,h3,rfl⟩:=Fai.1 hy;have a0:atI [(k:Int),(i':Int)+1] 0=k:=rfl;have a1:atI [(k:Int),(i':Int)+1] 1=(i':Int)+1:=rfl;rw[a0,a1];simp only[Qb1,Rbp,decide_eq_false_iff_not,decide_eq_true_eq];refine⟨fun h=>?_,by omega⟩;rw[hxe]at h;simp only[List.cons.injEq,and_true]at h;exact h3 ⟨h.1.symm,h.2.symm⟩
 ·rintro⟨k,hk,hb,rfl⟩
  obtain⟨k',i',h1,h2,h3,h4⟩:=Tav (at_mem hk);unfold Oay at hb;rw[h3]at hb;have a0:atI [(k':Int),(i':Int)+1] 0=k':=rfl;have a1:atI [(k':Int),(i':Int)+1] 1=(i':Int)+1:=rfl;rw[a0,a1]at hb;simp only[Qb1,Rbp,decide_eq_false_iff_not,decide_eq_true_eq]at hb
  have bq:[(k':Int),(i':Int)+1]∈Iaw t (atI x 0) (atI x 1):=by
   refine Fai.2 ⟨k',i',by omega,by omega,fun h=>hb.1 ?_,rfl⟩;rw[hxe,<- h.1,<- h.2]
  obtain⟨q,hq,he⟩:=List.getElem_of_mem bq;have kq:atI (Iaw t (atI x 0) (atI x 1)) (q:Int)=atI (bO t.rows) (k:Int):=by rw[aV hq,he,h3]
  have h0:0<=fM (bO t.rows) (atI (bO t.rows) (k:Int)):=Xay hk (by simp);refine⟨q,hq,by rw[kq];exact h0,?_⟩;rw[kq];obtain⟨dm,km,-⟩:=Ca8 h0;generalize fM (bO t.rows) (atI (bO t.rows) (k:Int))=f at *;have hf:=dm.lt;have e:((f.toNat:Nat):Int)=f:=by unfold InB at dm;omega
  rw[<- e,aV hk,aV hf]at km;have:=(List.getElem_inj mT).1 km;omega
def nR (t:aG)(m:Nat):List (List Int):=(Tb1 m).map fun i:Nat=>uM (bO t.rows) (fB t (atI (atI (bO t.rows) (i:Int)) 0) (atI (atI (bO t.rows) (i:Int)) 1)).attr.deps (atI (bO t.rows) (i:Int)) (bO t.rows).length
def Ja8 (t:aG):List (List Int):=nR t (bO t.rows).length
theorem Had (t:aG)(m:Nat):nR t (m+1)=nR t m++[uM (bO t.rows) (fB t (atI (atI (bO t.rows) (m:Int)) 0) (atI (atI (bO t.rows) (m:Int)) 1)).attr.deps (atI (bO t.rows) (m:Int)) (bO t.rows).length]:=by
 simp[nR,Tbg]
theorem Ja7 (t:aG)(m:Nat):(nR t m).length=m:=by simp[nR]
def Ga4 (n:Int)(l:List (List Int))(i:Nat):Bool:=((atI l (i:Int)).length:Int)==2&&inst n (atI (atI l (i:Int)) 0) (atI (atI l (i:Int)) 1)&&!(l.take i).any fun y=>decide (atI l (i:Int)=y)
def oQ (n:Int)(l:List (List Int)):Bool:=Ra8 (Ga4 n l) l.length
def Bbq (t:aG)(b:List (List Int))(x y:List Int):Bool:=oP (fB t (atI x 0) (atI x 1)).cmd (fB t (atI y 0) (atI y 1)).cmd&&decide (0<=fM b x)&&decide (0<=fM b y)&&decide (fM b x<fM b y)
def Gbg (t:aG)(a b:List (List Int)):Bool:=Ra8 (fun i=>(a.take i).all fun y=>!Bbq t b (atI a (i:Int)) y) a.length
def Bbp (a b:List (List Int))(t:aG):Bool×Bool:=if bA t&&oQ t.n a&&oQ t.n b then (Gbg t a b,true) else (false,false)
theorem sM {n:Int}{l:List (List Int)}(h:oQ n l=true){x:List Int}(hx:x∈l):x.length=2/\inst n (atI x 0) (atI x 1)=true:=by
 obtain⟨i,hi,rfl⟩:=List.getElem_of_mem hx;have:=iY.1 h i hi;unfold Ga4 at this;rw[aV hi]at this;simp only[Qb1,beq_iff_eq]at this;exact⟨by omega,this.1.2⟩
section
variable {T:Nat->Ent} {β:Type}
end
theorem oN {α:Type}{xs:List α}{k:Int}{a x:α}(h:x∈fQ xs k a):x∈xs\/x=a:=List.mem_or_eq_of_mem_set h
end Go.Proofs.YtpgnlmfmlffjcaaGreat.Rf
