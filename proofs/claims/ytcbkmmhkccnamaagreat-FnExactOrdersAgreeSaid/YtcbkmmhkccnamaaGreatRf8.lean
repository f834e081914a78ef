/- Terms for s6 program's functions, and nj they are right: part 8 of 10. -/
import Derived.Test.YtcbkmmhkccnamaaGreatRf7
import Derived.Shelf.SlicesE.Clone
import Derived.Laws.CopyOwn
import Derived.LoopN
import Derived.WalkKit
import Derived.RegionTactic
import Derived.ChangeAlike
import Derived.Lib.Bytealg
import Derived.Lib.SplitLaws
import Derived.LaidLaws
import Derived.Lay
import Derived.Shelf.Strings.OnBuilder
import Derived.Shelf.Strconv.Itoa3
import Derived.Lib.AppendIntMem
import Derived.Lib.LaidTab
import Derived.Shelf.Lay
import Derived.Shelf.SlSortCmp.NoneTotal
import Derived.Shelf.SlicesE.Delete
open Bool renaming and_eq_true → Zbd, false_eq_true → Zbg, or_eq_true → Acp, and_true → Bcu, not_true → Cca, false_or → Ccb
open List renaming getElem?_eq_getElem → Zbf, getD_eq_getElem?_getD → Zbk, replicate → Zbq, length_cons → Zbs, length_map → Zbt, mem_of_getElem? → Zbv, length_take → Zb1, getElem?_map → Zb2, map_cons → Zb5, all_eq_true → Zb6, getElem?_drop → Acg, eq_nil_of_length_eq_zero → Acu, length_drop → Acv, getElem?_eq_none → Ac0, map_append → Ac8, length_set → Bce, getElem_mem → Bco, mem_of_mem_drop → Bcs, all_cons → Bct, ext_getElem? → Cce, all_nil → Ccm
open Nat renaming le_refl → Zbr, lt_or_ge → Zbz, add_assoc → Zb0, add_zero → Zb9, le_trans → Aci, mul_le_mul_right → Ac2, add_mul → Ac4, zero_le → Bca, mul_comm → Ccr, div_eq_of_lt → Ccu
open Option renaming bind_eq_some_iff → Zbc, bind_some → Zbj, map_eq_some_iff → Zbo, map_some → Acm
set_option linter.unusedSimpArgs false
set_option linter.unusedVariables false
set_option linter.unnecessarySimpa false
set_option linter.unusedSectionVars false
namespace Go.Proofs.YtcbkmmhkccnamaaGreat.Rf
open Go.Proofs Go.Shelf Go.RowKit Go.Lib
section
variable {P:Program} {ρ:Ren}
set_option maxHeartbeats 2000000 in
set_option maxRecDepth 100000 in
theorem Ta1 (L:SlLaysE0.n41 P ρ)(i0:TypeInfo)(z:Value)(size bytes:Nat)(hi:P.info? (ρ.t 23)=some i0)(vm:i0.zero=some z)(nu:i0.size=size)(po:i0.bytes=bytes)(u7:z.cells.size=size)(dw:0<size)
  (z23:∀ w,(Go.sizeOf (ρ.t 23)).run P w=.ok size w) (a:Addr) (c:Nat) (w:World) :
  Calls P (ρ.f 41) #[.slice (some a) 0 c] w fun e w'=>∃ v',e=.returned v'/\w'.ownsRow w.heap.size (ρ.t 23) size v' 0 []/\Below w.heap.size w w':=by
 have mixed:=L.mixed;have t4:=L.t4;have a4:=L.a4;have z4:=L.z4;have v4:=L.v4;have t22:=L.t22;have a22:=L.a22;have z22:=L.z22;have v22:=L.v22
 have q22:∀ (w:World) (a:Option Addr) (n c n' c':Nat),(binOp .eql (ρ.t 22) (.slice a n c) (.slice none n' c')).run P w=.ok (.bool a.isNone) w:=fun w a n c n' c'=>Lib.run_eql_slice_nil w _ _ a n c n' c' L.t22
 have u22:∀ w,Sem.run P (underlying (ρ.t 22)) w=.ok (TypeDesc.slice (ρ.t 23)) w:=run_underlying t22;obtain⟨_,_,FG⟩:=L.f41
 go_enter FG,SlBodyN.n41_ntmps ρ
 go_wp2_with (at_builtin;refine wpList_append_own _ rfl _ _ (ρ.t 22) rfl w.heap.size (ρ.t 23) i0 z size bytes t22 hi vm nu po u7 dw _ _ _ rfl (World.ownsRow_made w #[] 0 (Zbr _) (Bca _) (by simp)) a 0 c [] rfl ?qc1 ?qc2 ?qc3 ?qc4 ?qc5 ?qc6 ?_)
 case qc1=>simp
 case qc2=>intro j u hj;simp at hj
 case qc3=>intro u hu;cases hu
 case qc4=>exact Bca _
 case qc5=>simp
 case qc6=>simp
 intro v' w1 a7 a13 fh
 go_wp2
 go_ret
 exact⟨v',rfl,by simpa using a7,((Below.refl _ w).alloc (Zbr _) _).grown a13 (by simp) (by intro k hk;simp[Value.ownBlock]at hk;omega)⟩
theorem Fao {s:Sig}{G:Gh}{w:World}{vals:List Value}{ds:List D}(h:Cb2 s vals w G ds)(hb:s.boxes=[]):mP (pK s G w) G w :=
 ⟨rfl,rfl,rfl,Zbr _,fun b _ _=>⟨rfl,rfl⟩,fun b j hj he=>by
  obtain⟨h1,-⟩:=h.cells b j hj he;rw[hb]at h1;exact absurd h1 (Nat.not_lt_zero _),h.fresh⟩
theorem Cay {s:Sig}{G:Gh}{w w':World}{vals:List Value}{ds:List D}{own':Nat->Ow}(h:Cb2 s vals w G ds)(hb:s.boxes=[])(tj:Below w.heap.size w w')(h1:∀ b,b<w.heap.size->own' b=G.own b)(h2:∀ b,w'.heap.size<=b->own' b=.frz) :
  mP (pK s G w) { G with own:=own' } w' :=
 ⟨tj.os,tj.tape,tj.output,tj.size,fun b hlt _=>⟨tj.block b hlt,h1 b hlt⟩,fun b j hj he=>by
  obtain⟨h1,-⟩:=h.cells b j hj he;rw[hb]at h1;exact absurd h1 (Nat.not_lt_zero _),h2⟩
theorem Hbg (L:SlLaysE0.n41 P ρ){i0:TypeInfo}{z:Value}{size bytes m key:Nat}{T1:Nat->Ent}(hi:P.info? (ρ.t 23)=some i0)(vm:i0.zero=some z)(nu:i0.size=size)(po:i0.bytes=bytes)(u7:z.cells.size=size)(dw:0<size)
  (z23:∀ w,(Go.sizeOf (ρ.t 23)).run P w=.ok size w) (hK:∀ n,uS P T1 n key ⟨ρ.f 41,[(false,[.fz false])],[],[(false,[.ow (m+1)])]⟩) :
  Cbz P ⟨ρ.f 41,[(false,[.fz false])],[],[(false,[.ow (m+1)])]⟩ (fun ds=>match ds with
   |[.rows _ []]=>some [.rows size []]
   |ds=>Fun T1 key ds):=by
 intro vals w G ds gy da he;by_cases oX:∃ sz,ds=[.rows sz []]
 ·obtain⟨sz,rfl⟩:=oX
  simp only[Option.some.injEq]at he;subst he;obtain⟨u,us,vs,rfl,⟨v,tP,rfl,⟨im,-⟩,rfl⟩,qu,fh⟩:=da.params;simp only[Zbg,if_false]at qu;obtain rfl:v=u:=by simpa using qu
  simp only[kL]at fh;subst fh;have a6o:Rd (fun b=>G.own b=.frz) w v (.rows sz []):=im;obtain⟨A,a,n,c,vs,rfl,hn,hc,-,-⟩:=a6o.inv;obtain rfl:n=0:=hn.symm;obtain⟨nm,pN,hfn⟩:=L.f41;refine .inl ⟨iM hfn pN rfl _ _,?_⟩
  cases A with
  | none =>
   refine Calls.mono (AnyE.slices_Clone_nil L 0 c w) fun e w' ⟨h1,h2⟩=>?_
   subst h1;subst h2
   refine⟨G,[.slice none 0 0],rfl,Fao da rfl,⟨_,_,_,rfl,⟨_,_,rfl,?_,rfl⟩,rfl,rfl⟩,trivial,trivial⟩;exact .sl none ⟨0,0,none⟩ 0 0 _ [] (fun _ _=>undef) rfl (Zbr _) (.inr ⟨rfl,rfl⟩) (by simp) (fun e=>by cases e) (by simp) (by simp)
  | some a' =>
   refine Calls.mono (Ta1 L i0 z size bytes hi vm nu po u7 dw z23 a' c w) fun e w' ⟨v',h1,h2,h3⟩=>?_
   subst h1
   rcases h2.2 with ⟨rfl,-⟩|⟨g,cap,cur,rfl,hg,bd,-,-,hcur,-⟩
   ·refine⟨{ G with own:=G.own },[.slice none 0 0],rfl,Cay da rfl h3 (fun _ _=>rfl) (fun b hb=>da.fresh b (Aci h3.size hb)),⟨_,_,_,rfl,⟨_,_,rfl,?_,rfl⟩,rfl,rfl⟩,trivial,trivial⟩
    exact .sl none ⟨0,0,none⟩ 0 0 _ [] (fun _ _=>undef) rfl (Zbr _) (.inr ⟨rfl,rfl⟩) (by simp) (fun e=>by cases e) (by simp) (by simp)
   ·have hlt:g<w'.heap.size:=(Array.getElem?_eq_some_iff.1 bd).1
    refine⟨{ G with own:=fun b=>if b=g then .slc 0 [] else G.own b },[.slice (some ⟨g,0,none⟩) 0 cap],rfl,Cay da rfl h3 (fun b hb=>if_neg (by omega)) (fun b hb=>?_),⟨_,_,_,rfl,⟨_,_,rfl,?_,rfl⟩,rfl,rfl⟩,trivial,trivial⟩
    ·show (if b=g then _ else _)=_
     rw[if_neg (by omega)];exact da.fresh b (Aci h3.size hb)
    ·refine .sl (some ⟨g,0,none⟩) ⟨g,0,none⟩ 0 cap _ [] (fun _ _=>undef) rfl (Bca _) (.inl rfl) (by simp) (fun _=>⟨rfl,if_pos rfl,fun k hk=>?_⟩) (by simp) (by simp)
     have kb:k<cur.size:=by omega
     refine⟨cur[k],?_,?_⟩
     ·have hb:((⟨g,0,none⟩:Addr).add k).block=g:=add_block _ _
      have ho:((⟨g,0,none⟩:Addr).add k)=⟨g,k,none⟩:=by unfold Addr.add;split<;>simp_all
      rw[ho];simp[World.cell?,bd,kb]
     ·have ho:((⟨g,0,none⟩:Addr).add k)=⟨g,k,none⟩:=by unfold Addr.add;split<;>simp_all
      rw[ho];simp[World.frozen?,bd]
 ·have he':Fun T1 key ds=some gy:=by
   dsimp only at he;split at he
   ·rename_i sz
    exact absurd ⟨sz,rfl⟩ oX
   ·exact he
  obtain⟨n,hn⟩:=Ga4.1 he';exact hK n vals w G ds gy da hn
def Daf (P:Program)(t:TypeId):Option Nat:=match P.info? t with
 | some i => match i.zero with
  |some z=>if z.cells.size=i.size/\0<i.size then some i.size else none
  |none=>none
 |none=>none
noncomputable def Ibn (size:Nat)(T1:Nat->Ent)(key:Nat):List D->Option (List D):=fun ds=>match ds with
 |[.rows _ []]=>some [.rows size []]
 |ds=>Fun T1 key ds
theorem Cbe (L:SlLaysE0.n41 P ρ){size m key f:Nat}{T T1:Nat->Ent}{ti:Nat->Option TI}{sigs:List (Nat×Sig)}(hf:ρ.f 41=f)(h:Daf P (ρ.t 23)=some size)(z23:∀ w,(Go.sizeOf (ρ.t 23)).run P w=.ok size w)
  (hK:∀ n,uS P T1 n key ⟨f,[(false,[.fz false])],[],[(false,[.ow (m+1)])]⟩) (hT:T key=.ext (Ibn size T1 key)) :
  Wah P T ti sigs key ⟨f,[(false,[.fz false])],[],[(false,[.ow (m+1)])]⟩:=by
 subst hf;unfold Daf at h;split at h
 ·rename_i i hi
  split at h
  ·rename_i z hz
   split at h
   ·rename_i h1
    cases h;exact .inr ⟨_,hT,Hbg L hi hz rfl rfl h1.1 h1.2 z23 hK⟩
   ·cases h
  ·cases h
 ·cases h
end
end Go.Proofs.YtcbkmmhkccnamaaGreat.Rf
namespace Go.Proofs.YtcbkmmhkccnamaaGreat.Rf
open Go.RowKit
section
variable {P:Program}
end
end Go.Proofs.YtcbkmmhkccnamaaGreat.Rf
namespace Go.Proofs.YtcbkmmhkccnamaaGreat.Rf
section
variable {P:Program}
end
open Go.Proofs Go.Shelf Go.RowKit Go.Lib
section
variable {P:Program} {ρ:Ren}
end
end Go.Proofs.YtcbkmmhkccnamaaGreat.Rf
namespace Go.Proofs.YtcbkmmhkccnamaaGreat.Rf
def ltQ (p q:Int×Int):Bool:=decide (p.1<q.1)||(p.1==q.1&&decide (p.2<q.2))
theorem Nai {p q:Int×Int}:ltQ p q=true↔p.1<q.1\/(p.1=q.1/\p.2<q.2):=by
 unfold ltQ;simp only[Acp,Zbd,decide_eq_true_eq,beq_iff_eq]
theorem rY {p q:Int×Int}:ltQ p q=false↔q.1<p.1\/(p.1=q.1/\q.2<=p.2):=by
 rw[<- Bool.not_eq_true,Nai];omega
theorem Vad {p q:Int×Int}(h:ltQ p q=false)(h':ltQ q p=false):p=q:=by
 rw[rY]at h h';apply Prod.ext<;>omega
def Jb1 {β:Type}(k:β->Int×Int)(x:β):List β->List β
 |[]=>[x]
 |y::r=>if ltQ (k x) (k y) then x::y::r else y::Jb1 k x r
def lL {β:Type}(k:β->Int×Int):List β->List β
 |[]=>[]
 |x::r=>Jb1 k x (lL k r)
theorem Iar {β:Type}(k:β->Int×Int)(x:β):∀ l:List β,(Jb1 k x l).Perm (x::l)
 |[]=>.refl _
 | y :: r => by
  unfold Jb1;split
  ·exact .refl _
  ·exact ((Iar k x r).cons y).trans (.swap x y r)
theorem iD {β:Type}(k:β->Int×Int):∀ l:List β,(lL k l).Perm l
 |[]=>.refl _
 |x::r=>(Iar k x _).trans ((iD k r).cons x)
def rC {β:Type}(k:β->Int×Int)(l:List β):Prop:=l.Pairwise fun x y=>ltQ (k y) (k x)=false
theorem Iaq {β:Type}(k:β->Int×Int)(x:β):∀ {l:List β},rC k l->rC k (Jb1 k x l)
 |[],_=>by unfold Jb1 rC;simp
 | y :: r, h => by
  obtain⟨h1,h2⟩:=List.pairwise_cons.1 h;unfold Jb1;split
  ·rename_i hx
   refine List.pairwise_cons.2 ⟨fun z hz=>?_,h⟩;rw[Nai]at hx
   rcases List.mem_cons.1 hz with rfl|hz
   ·rw[rY];omega
   ·have:=h1 z hz
    rw[rY]at this ⊢;omega
  ·rename_i hx
   refine List.pairwise_cons.2 ⟨fun z hz=>?_,Iaq k x h2⟩
   rcases List.mem_cons.1 ((Iar k x r).mem_iff.1 hz) with rfl|hz
   ·simpa using hx
   ·exact h1 z hz
theorem vU {β:Type}(k:β->Int×Int):∀ l:List β,rC k (lL k l)
 |[]=>List.Pairwise.nil
 |x::r=>Iaq k x (vU k r)
theorem Ea9 {β:Type}(k:β->Int×Int){l l':List β}(hp:l'.Perm l)(hs:rC k l')(hi:∀ x∈l,∀ y∈l,k x=k y->x=y):l'=lL k l :=
 List.Perm.eq_of_pairwise (le:=fun x y=>ltQ (k y) (k x)=false) (fun a b ha hb h1 h2=>hi a (hp.mem_iff.1 ha) b ((iD k l).mem_iff.1 hb) (Vad h2 h1)) hs (vU k l) (hp.trans (iD k l).symm)
def Ta0 (p q:Int×Int):Int:=if ltQ p q then -1 else if ltQ q p then 1 else 0
theorem Kbg {p q:Int×Int}:decide (Ta0 p q<0)=ltQ p q:=by
 unfold Ta0
 cases h:ltQ p q with
 |true=>rfl
 | false =>
  simp only[Zbg,if_false];split<;>rfl
def Ha6 (p:Int×Int):D:=.rows 1 [[.int .i64 p.1],[.int .i64 p.2]]
def Laq:List (List D)->Option (List (Int×Int))
 |[]=>some []
 |[.rows 1 [[.int .i64 a],[.int .i64 b]]]::r=>(Laq r).map ((a,b)::·)
 |_=>none
theorem Lap:∀ {rs:List (List D)} {l:List (Int×Int)},Laq rs=some l->rs=l.map fun p=>[Ha6 p]
 |[],l,h=>by obtain rfl:=Option.some.inj h;rfl
 | r :: rs, l, h => by
  unfold Laq at h;split at h
  ·rename_i he;cases he
  ·rename_i a b r' he
   obtain⟨rfl,rfl⟩:=List.cons.inj he;rw[Zbo]at h;obtain⟨l',h1,rfl⟩:=h;rw[Lap h1];rfl
  ·cases h
theorem Lao:∀ l:List (Int×Int),Laq (l.map fun p=>[Ha6 p])=some l
 |[]=>rfl
 | p :: r => by
  show (Laq (r.map fun p=>[Ha6 p])).map ((p.1,p.2)::·)=_
  rw[Lao r];rfl
def Kaj:List (List D)->Option (List Int)
 |[]=>some []
 |[.int .i64 a]::r=>(Kaj r).map (a::·)
 |_=>none
theorem Iap:∀ {rs:List (List D)} {l:List Int},Kaj rs=some l->rs=l.map fun p=>[D.int .i64 p]
 |[],l,h=>by obtain rfl:=Option.some.inj h;rfl
 | r :: rs, l, h => by
  unfold Kaj at h;split at h
  ·rename_i he;cases he
  ·rename_i a r' he
   obtain⟨rfl,rfl⟩:=List.cons.inj he;rw[Zbo]at h;obtain⟨l',h1,rfl⟩:=h;rw[Iap h1];rfl
  ·cases h
theorem Qap:∀ l:List Int,Kaj (l.map fun p=>[D.int .i64 p])=some l
 |[]=>rfl
 | p :: r => by
  show (Kaj (r.map fun p=>[D.int .i64 p])).map (p::·)=_
  rw[Qap r];rfl
def vW:Nat:=1000000
def Hay:List D->Option (List D)
 |[.rows 1 rs]=>(Laq rs).bind fun l=>if l.length<=vW then some [.rows 1 ((lL id l).map fun p=>[Ha6 p])] else none
 |_=>none
def jJ (kl:List Int)(n:Int):Int×Int:=(kl.getD n.toNat 0,0)
def Fah (l kl:List Int):Bool:=(l.all fun n=>decide (0<=n)&&decide (n.toNat<kl.length))&&(kl.all fun k=>decide (0<=k)&&decide (k<=1000000000))&&(l.all fun n=>l.all fun m=>!(jJ kl n==jJ kl m)||n==m)
def Laa:List D->Option (List D)
 |[.rows 1 rs,.rows 1 ks]=>(Kaj rs).bind fun l=>(Kaj ks).bind fun kl=>if l.length<=vW/\Fah l kl=true then some [.rows 1 ((lL (jJ kl) l).map fun p=>[D.int .i64 p])] else none
 |_=>none
section
open Go.Proofs Go.Shelf Go.Sort
variable {P:Program} {ρ:Ren} {own:Nat->Ow} {w:World}
theorem Rp.zero1 {r:Nat}{p:List Nat}{v:Value}{d:D}(h:Rp own w r p 0 v d):Rd (fun b=>own b=.frz) w v d:=by
 cases h with
 |sc h=>exact .sc h
 |hole v h1=>exact .hole v h1
 |fz h=>exact h
theorem Aa1 {ds:List D}{bx:Nat->Addr}:∀ {b i q:Nat} {bs:List (Bool×List (BS×BO))},(bs.all (·.1))=true->mD own w ds bx b i q bs
 |b,i,q,[],_=>trivial
 | b, i, q, (ro, cs) :: bs, h => by
  simp only[Bct,Zbd]at h;simp only[mD];rw[if_pos h.1];exact Aa1 h.2
theorem Hak {α:Type}[Inhabited α](enc:α->Value)(ic off m:Nat)(dk:Array α)(os:Array Obj){b:Nat}(hb:b<w.heap.size)(cJ:b≠ic):(sortWorld enc w ic off m dk os).heap[b]?=w.heap[b]?:=by
 unfold sortWorld;rw[heap_grow_old _ _ (by simpa using hb)];simp[putRow,mapBlock,Array.getElem?_modify,Ne.symm cJ]
theorem Ya5 {α:Type}[Inhabited α](enc:α->Value)(ic off m:Nat)(dk:Array α)(os:Array Obj):w.heap.size<=(sortWorld enc w ic off m dk os).heap.size:=by
 unfold sortWorld;rw[size_grow];simp
theorem Jbo {α:Type}{lt:α->α->Prop}:∀ {l:List α},(∀ i j (hi:i<l.length) (hj:j<l.length),i<j->lt l[i] l[j])->l.Pairwise lt:=fun h=>List.pairwise_iff_getElem.2 fun i j hi hj sh=>h i j hi hj sh
theorem Wac {a:Addr}(h:a.spot=none)(k:Nat):a.add k=⟨a.block,a.off+k,none⟩:=by
 cases a with
 | mk b o s =>
  obtain rfl:s=none:=h;unfold Addr.add;split
  ·rename_i h0;subst h0;rfl
  ·rfl
theorem Paq (L:SlLaysF.n6 P ρ){α β:Type}[Inhabited α](enc:α->Value)(b:α->β)(xj:β->D)(uy:β->Int×Int)(cf:α->α->Int)(uo:∀ x y,ltOf cf x y=ltQ (uy (b x)) (uy (b y)))
  {g:Nat} {cs:List LS} {bxs:List (Bool×List (BS×BO))} {vals:List Value} {G:Gh} {ds:List D} (da:Cb2 ⟨ρ.f 6,[(false,[.mu 1]),(false,[.clo g cs])],bxs,[]⟩ vals w G ds)
  (sk:(bxs.all (·.1))=true) (eg:∀ args w,(callFunc g args).run P w=.ok (.enter g args) w)
  {v:Value} (hv:v=G.hdr 0) (cb:List Value) (a2p:vals=[v,.func (.func g) #[] cb.toArray])
  (pD:∀ ic off size,G.own ic=.slc 0 []->CmpLays1 P g cb.toArray enc cf ic off size w) (a1k:∀ x,Rd (fun b=>G.own b=.frz) w (enc x) (xj (b x)))
  {a:Addr} {n c:Nat} (ev:v=.slice (some a) n c) (fp:a.spot=none) (a7:G.own a.block=.slc 0 []) (cC:∀ k,k<c->∃ u,w.cell? (a.add k)=some u/\w.frozen? (a.add k)=false)
  (hnc:n<=c) (hn:n<=vW) (jc:0<n) (xs:List α) (pS:xs.length=n) (ny:∀ i x,xs[i]?=some x->w.cell? (a.add i)=some (enc x)) (a68:∀ x∈xs.map b,∀ y∈xs.map b,uy x=uy y->x=y) :
  Calls P (ρ.f 6) vals.toArray w fun e w'=>∃ u,e=.returned u/\Oaq ⟨ρ.f 6,[(false,[.mu 1]),(false,[.clo g cs])],bxs,[]⟩ (pK ⟨ρ.f 6,[(false,[.mu 1]),(false,[.clo g cs])],bxs,[]⟩ G w) G.bx u w' [.rows 1 ((lL uy (xs.map b)).map fun p=>[xj p])]:=by
 have mn:=Wac fp;have h1:OneCell enc:=fun x=>(a1k x).one
 have hblk:a.block<w.heap.size:=by
  obtain⟨u,hu,-⟩:=cC 0 (by omega);have:=Jas hu;rwa[add_block]at this
 have dw:xs.toArray.size=n:=by simpa using pS
 have hH:Holds enc w a.block a.off xs.toArray:=by
  intro j hj;rw[dw]at hj;have hjx:j<xs.length:=by omega
  have hx:=ny j xs[j] (by rw[Zbf hjx]);obtain⟨u,hu,hf⟩:=cC j (by omega);rw[mn]at hx hf;refine⟨?_,hf⟩;rw[hx,getElem!_pos xs.toArray j (by simpa using hjx)];simp
 have hO:SWO (ltOf cf):=by
  refine⟨fun x=>?_,fun x y z h h'=>?_,fun x y z h h'=>?_⟩
  ·rw[uo,rY];omega
  ·rw[uo,Nai]at *;omega
  ·rw[uo,rY]at *;omega
 have hS:=Any.slices_SortFunc L enc h1 cf hO g cb.toArray a.block a.off c xs.toArray w eg (pD _ _ _ a7) hH hblk (by rw[dw];unfold vW at hn;omega)
 have ea:(⟨a.block,a.off,none⟩:Addr)=a:=by
  cases a with
  | mk b o s =>
   obtain rfl:s=none:=fp;rfl
 rw[dw,ea,<- ev]at hS;rw[a2p];refine hS.mono ?_
 rintro e w' ⟨rfl,d',m,os,hP,hSo,rfl⟩
 refine⟨_,rfl,?_⟩;obtain⟨oX,-,xt⟩:=hP;rw[dw]at oX;have e1:d'.extract 0 n=d':=by rw[<- oX];exact Array.extract_size
 have e2:xs.toArray.extract 0 n=xs.toArray:=by rw[<- dw];exact Array.extract_size
 rw[e1,e2]at xt
 have v7:d'.toList.map b=lL uy (xs.map b):=by
  refine Ea9 uy (by simpa using xt.map b) ?_ a68;refine Jbo fun i j hi hj sh=>?_
  have eS:i<d'.size:=by simpa using hi
  have il:j<d'.size:=by simpa using hj
  have:=hSo i j (Bca _) sh (by omega);rw[uo,getElem!_pos d' i eS,getElem!_pos d' j il]at this;simpa using this
 have hlen:(lL uy (xs.map b)).length=n:=by rw[(iD uy _).length_eq,Zbt,pS]
 have hH':Holds enc (sortWorld enc w a.block a.off m d' os) a.block a.off d':=by
  unfold sortWorld;refine holds_grow _ _ _ _ _ _ (by simpa using hblk) (holds_putRow enc _ _ _ xs.toArray d' hH (by rw[dw,oX]))
 refine⟨{ G with own:=fun b=>if b=a.block then .slc 1 [] else G.own b },[],rfl,?_,rfl,⟨?_,trivial⟩,Aa1 sk⟩
 ·refine⟨rfl,rfl,rfl,Ya5 enc _ _ _ _ _,fun b hb ho=>?_,fun b j hb ho=>?_,fun b hb=>?_⟩
  ·have cJ:b≠a.block:=by rintro rfl;change G.own a.block=_\/G.own a.block=_ at ho;rw[a7]at ho;rcases ho with h|h<;>cases h
   exact⟨Hak enc _ _ _ _ _ hb cJ,if_neg cJ⟩
  ·have cJ:b≠a.block:=by rintro rfl;change G.own a.block=_ at ho;rw[a7]at ho;cases ho
   obtain⟨-,c0,e0,fr,z6⟩:=da.cells b j hb ho;refine⟨(if_neg cJ).trans ho,c0,c0,e0,fr,z6,(Hak enc _ _ _ _ _ hb cJ).trans z6,rfl,fun _ _=>rfl⟩
  ·have h0:=Aci (Ya5 enc a.block a.off m d' os) hb
   show (if b=a.block then _ else _)=_
   rw[if_neg (by omega)];exact da.fresh b h0
 ·show Rp _ _ _ _ _ (G.hdr 0) _
  rw[<- hv,ev]
  have je:∀ i p,(lL uy (xs.map b))[i]?=some p->∃ x,d'[i]?=some x/\b x=p/\i<d'.size:=by
   intro i p hi;rw[<- v7,Zb2,Zbo]at hi;obtain⟨x,hx,rfl⟩:=hi;rw[Array.getElem?_toList]at hx;exact⟨x,hx,rfl,(Array.getElem?_eq_some_iff.1 hx).1⟩
  refine .sl (some a) a n c 1 _ (fun i _=>enc d'[i]!) (by rw[Zbt,hlen]) hnc (.inl rfl) (by simp) (fun _=>⟨fp,if_pos rfl,fun k hk=>?_⟩) (fun i row hi j d hj=>?_) (fun i row hi j d hj=>?_)
  ·rw[Nat.mul_one]at hk
   rcases Zbz k n with uu|uu
   ·obtain⟨h3,h4⟩:=hH' k (by omega)
    rw[mn];exact⟨_,h3,h4⟩
   ·obtain⟨u,hu,hf⟩:=cC k hk
    rw[mn]at hu hf ⊢;refine⟨u,?_,?_⟩
    ·unfold sortWorld
     rw[cell?_grow _ _ _ (by simpa using hblk),cell?_putRow_other _ _ _ _ _ _ (.inr (.inr (by simp only[oX];omega)))];exact hu
    ·unfold sortWorld
     rw[frozen?_grow _ _ _ (by simpa using hblk),frozen?_putRow];exact hf
  ·rw[Zb2,Zbo]at hi
   obtain⟨p,hp,rfl⟩:=hi;obtain⟨x,hx,-,hlt⟩:=je i p hp
   cases j with
   |succ j=>simp at hj
   | zero =>
    rw[Nat.mul_one,Zb9,mn];exact (hH' i hlt).1
  ·rw[Zb2,Zbo]at hi
   obtain⟨p,hp,rfl⟩:=hi;obtain⟨x,hx,hb,hlt⟩:=je i p hp
   cases j with
   |succ j=>simp at hj
   | zero =>
    simp only[List.getElem?_cons_zero,Option.some.injEq]at hj;subst hj
    have ex:d'[i]! = x:=by
     rw[getElem!_pos d' i hlt];exact (Array.getElem?_eq_some_iff.1 hx).2
    rw[ex,<- hb];refine .fz ((a1k x).mono' fun b hb hlt=>?_);have cJ:b≠a.block:=by rintro rfl;rw[a7]at hb;cases hb
    exact⟨(if_neg cJ).trans hb,Hak enc _ _ _ _ _ hlt cJ⟩
end
section
open Go.Proofs Go.Shelf Go.Sort
variable {P:Program} {ρ:Ren} {own:Nat->Ow} {w:World}
theorem Za9 {f g:Nat}{cs:List LS}{bxs:List (Bool×List (BS×BO))}{vals:List Value}{G:Gh}{ds:List D}(da:Cb2 ⟨f,[(false,[.mu 1]),(false,[.clo g cs])],bxs,[]⟩ vals w G ds)
  (sk:(bxs.all (·.1))=true) {d:D} (h:Rp G.own w 0 [] 1 (G.hdr 0) d) :
  Oaq ⟨f,[(false,[.mu 1]),(false,[.clo g cs])],bxs,[]⟩ (pK ⟨f,[(false,[.mu 1]),(false,[.clo g cs])],bxs,[]⟩ G w) G.bx (.tuple #[]) w [d]:=by
 let jr:Nat->Ow:=fun b=>match G.own b with
  |.slc s p=>if s=0 then (if p.length<1 then .slc 1 p else .frz) else .slc s p
  |o=>o
 refine⟨{ G with own:=jr },[],rfl,⟨rfl,rfl,rfl,Zbr _,fun b hb ho=>⟨rfl,?_⟩,fun b j hb ho=>?_,fun b hb=>?_⟩,rfl,⟨?_,trivial⟩,Aa1 sk⟩
 ·change G.own b=_\/G.own b=_ at ho
  show jr b=G.own b
  rcases ho with ho|ho<;>simp only[jr,ho]
 ·change G.own b=_ at ho
  obtain⟨-,c0,e0,fr,z6⟩:=da.cells b j hb ho;refine⟨?_,c0,c0,e0,fr,z6,z6,rfl,fun _ _=>rfl⟩;show jr b=_
  simp only[jr,ho]
 ·show jr b=_
  simp only[jr,da.fresh b hb]
 ·show Rp jr w 1 [] 1 (G.hdr 0) d
  refine h.move (fun b hb _=>⟨by simp only[jr,hb],rfl⟩) [] 1 (Zbr _) fun b t hb=>⟨?_,rfl⟩
  simp only[List.nil_append]at hb ⊢;simp only[jr,hb,if_true]
def Oaj (P:Program)(g:Nat):Prop :=
 ∀ (a b:Addr) (ca cb:Nat) (x y:Int×Int) (w:World),w.cell? a=some (.int .i64 x.1)->w.cell? (a.add 1)=some (.int .i64 x.2)->w.cell? b=some (.int .i64 y.1)->w.cell? (b.add 1)=some (.int .i64 y.2) ->
  Calls P g #[.slice (some a) 2 ca,.slice (some b) 2 cb] w fun e w'=>e=.returned (.int .i64 (Ta0 x y))/\∃ q os,w'=grow (w.drewN q) os
def Wag (own:Nat->Ow)(w:World)(v:Value)(p:Int×Int):Prop :=
 ∃ a c,v=.slice (some a) 2 c/\2<=c/\own a.block=.frz/\w.cell? a=some (.int .i64 p.1)/\w.cell? (a.add 1)=some (.int .i64 p.2)
theorem Abx {v:Value}{p:Int×Int}(h:Rd (fun b=>own b=.frz) w v (Ha6 p)):Wag own w v p:=by
 obtain⟨A,a,n,c,vs,rfl,hn,hc,hA,dw,bd,cq⟩:=h.inv;obtain rfl:n=2:=hn.symm;obtain rfl:A=some a:=hA.resolve_left (by omega);obtain⟨h1,h2⟩:=bd 0 _ rfl 0 _ rfl;obtain⟨-,h3⟩:=bd 1 _ rfl 0 _ rfl;have h4:=cq 0 _ rfl 0 _ rfl;have h5:=cq 1 _ rfl 0 _ rfl;have e0:a.add 0=a:=if_pos rfl;simp only[Nat.zero_mul,Zb9,Nat.one_mul,e0]at h2 h3;generalize vs 0 0=u0 at h2 h4;generalize vs 1 0=u1 at h3 h5;obtain rfl:u0=.int .i64 p.1:=by cases h4 with|sc h=>cases h;rfl
 obtain rfl:u1=.int .i64 p.2:=by cases h5 with|sc h=>cases h;rfl
 exact⟨a,c,rfl,hc,h1,h2,h3⟩
theorem Wag.rd {v:Value}{p:Int×Int}(h:Wag own w v p):Rd (fun b=>own b=.frz) w v (Ha6 p):=by
 obtain⟨a,c,rfl,hc,ho,h1,h2⟩:=h;have e0:a.add 0=a:=if_pos rfl;refine .rows (some a) a 2 c 1 _ (fun i _=>if i=0 then .int .i64 p.1 else .int .i64 p.2) rfl hc (.inr rfl) (by simp) (fun i r hi j d hj=>?_) (fun i r hi j d hj=>?_)
 ·match i,j with
  |0,0=>exact⟨ho,by simpa[e0] using h1⟩
  |1,0=>exact⟨ho,by simpa using h2⟩
  |0,j+1=>simp at hi;subst hi;simp at hj
  |1,j+1=>simp at hi;subst hi;simp at hj
  |i+2,_=>simp at hi
 ·match i,j with
  |0,0=>simp at hi;subst hi;simp at hj;subst hj;exact .sc (.int _ _)
  |1,0=>simp at hi;subst hi;simp at hj;subst hj;exact .sc (.int _ _)
  |0,j+1=>simp at hi;subst hi;simp at hj
  |1,j+1=>simp at hi;subst hi;simp at hj
  |i+2,_=>simp at hi
theorem Rp.sl1 {v:Value}{sz:Nat}{rs:List (List D)}(h:Rp own w 0 [] 1 v (.rows sz rs)):∃ (A:Option Addr) (a:Addr) (n c:Nat) (vs:Nat->Nat->Value),v=.slice A n c/\rs.length=n/\n<=c/\(A=some a\/(A=none/\c=0))/\(∀ r∈rs,r.length=sz) /\
  (A=some a->a.spot=none/\own a.block=.slc 0 []/\∀ k,k<c*sz->∃ u,w.cell? (a.add k)=some u/\w.frozen? (a.add k)=false) /\
  (∀ i row,rs[i]?=some row->∀ j d,row[j]?=some d->w.cell? (a.add (i*sz+j))=some (vs i j))/\∀ i row,rs[i]?=some row->∀ j d,row[j]?=some d->Rd (fun b=>own b=.frz) w (vs i j) d:=by
 obtain⟨A,a,n,c,vs,e1,e2,e3,e4,e5,e6,e7,e8⟩:=h.sl_inv;exact⟨A,a,n,c,vs,e1,e2,e3,e4,e5,e6,e7,fun i row hi j d hj=>(e8 i row hi j d hj).zero1⟩
theorem Fbk (L : SlLaysF.n6 P ρ) {g : Nat} {fn : Func} {c : Code} (hg : P.funcs[g]? = some fn) (hname : (fn.name == "runtime.NumGoroutine") = false) (hb : fn.body = some c) (W : Oaj P g) :
  Cbz P ⟨ρ.f 6,[(false,[.mu 1]),(false,[.clo g []])],[],[]⟩ Hay:=by
 intro vals w G ds gy da hr;unfold Hay at hr;split at hr
 case h_2=>cases hr
 rename_i rs;rw[Zbc]at hr;obtain⟨l,hl,hr⟩:=hr;split at hr
 case isFalse=>cases hr
 rename_i hlen;obtain rfl:=Option.some.inj hr;obtain⟨u,us,vs,rfl,⟨v,tP,rfl,⟨hv,fm⟩,rfl⟩,qu,u2,us2,vs2,rfl,⟨v2,vs3,rfl,⟨cb,rfl,sg⟩,rfl⟩,hsh2,fh⟩:=da.params;simp only[Zbg,if_false]at qu hsh2;obtain rfl:v=u:=by simpa using qu
 obtain rfl:Value.func (.func g) #[] cb.toArray=u2:=by simpa using hsh2
 simp only[kL]at fh;subst fh;simp only[xW]at sg;subst sg;have p4:Rp G.own w 0 [] 1 v (.rows 1 rs):=fm;obtain⟨A,a,n,c,cv,dv,hn,sf,hA,dw,a7,bd,cq⟩:=p4.sl1;obtain rfl:=Lap hl;rw[Zbt]at hn;obtain⟨nm,pN,hfn⟩:=L.f6;refine .inl ⟨iM hfn pN rfl _ _,?_⟩
 rcases Nat.eq_zero_or_pos n with h0|jc
 ·subst h0
  obtain rfl:l=[]:=Acu hn;have h:=AnyF.slices_SortFunc_none (P:=P) (ρ:=ρ) { L with } A c (.func (.func g) #[] #[]) w;rw[dv];refine h.mono ?_
  rintro e w' ⟨rfl,rfl⟩
  exact Za9 da rfl (hv▸p4)
 ·obtain rfl:A=some a:=by
   rcases hA with h|⟨-,h⟩
   ·exact h
   ·omega
  obtain⟨fp,nc,cC⟩:=a7 rfl
  let α:={ x:Value×(Int×Int) // Wag G.own w x.1 x.2 }
  have hex:∀ i,i<n->∃ x:α,l[i]?=some x.1.2/\cv i 0=x.1.1:=by
   intro i hi;have eS:l[i]?=some (l[i]'(by omega)):=Zbf (by omega);have hr:=cq i [Ha6 (l[i]'(by omega))] (by rw[Zb2,eS];rfl) 0 _ rfl;exact⟨⟨(cv i 0,l[i]'(by omega)),Abx hr⟩,eS,rfl⟩
  obtain⟨xs,pS,ny⟩:=Nan n hex
  haveI:Inhabited α:=⟨(hex 0 jc).choose⟩
  have v8:xs.map (fun x:α=>x.1.2)=l:=by
   apply Cce;intro i;rw[Zb2]
   rcases Zbz i n with hi|hi
   ·have hx:xs[i]?=some (xs[i]'(by omega)):=Zbf (by omega)
    rw[hx];exact (ny i _ hx).1.symm
   ·rw[Ac0 (by omega),Ac0 (by omega)]
    rfl
  have lq:=Paq (w:=w) (G:=G) L (α:=α) (fun x=>x.1.1) (fun x=>x.1.2) Ha6 id (fun x y=>Ta0 x.1.2 y.1.2) (fun x y=>Kbg) (g:=g) da rfl (fun args w=>iM hg hname hb args w) hv [] rfl
   (fun ic off size hbl m os dk hs x y=>?_) (fun x=>x.2.rd) dv fp nc (fun k hk=>cC k (by omega)) sf (by omega) jc xs pS (fun i x hx=>?_) (fun x _ y _ h=>h)
  ·rw[v8]at lq
   refine lq.mono ?_
   rintro e w' ⟨u,rfl,h⟩
   exact h
  ·obtain⟨ax,cx,hxv,hcx,wk,ov,l8⟩:=x.2
   obtain⟨ay,cy,zq,hcy,wq,yf,xe⟩:=y.2
   have fR:∀ (b:Addr) (u:Value),G.own b.block=.frz->w.cell? b=some u->(sortWorld (fun x:α=>x.1.1) w ic off m dk os).cell? b=some u:=by
    intro b u ho hc;refine (fA (Hak _ _ _ _ _ _ (Jas hc) ?_)).trans hc;intro e;rw[e,hbl]at ho;cases ho
   show Calls P g #[x.1.1,y.1.1] _ _
   rw[hxv,zq];exact (W ax ay cx cy x.1.2 y.1.2 _ (fR _ _ wk ov) (fR _ _ (by rw[add_block];exact wk) l8) (fR _ _ wq yf) (fR _ _ (by rw[add_block];exact wq) xe))
  ·obtain⟨h1,h2⟩:=ny i x hx
   have:=bd i [Ha6 x.1.2] (by rw[Zb2,h1];rfl) 0 _ rfl;rw[Nat.mul_one,Zb9,h2]at this;exact this
theorem Zaa (L : SlLaysF.n6 P ρ) {f g key : Nat} {fn : Func} {c : Code} {T : Nat -> Ent} {ti : Nat -> Option TI} {sigs : List (Nat × Sig)} (hf : ρ.f 6 = f) (hg : P.funcs[g]? = some fn) (hname : (fn.name == "runtime.NumGoroutine") = false) (hb : fn.body = some c) (W : Oaj P g)
  (hT:T key=.ext Hay):Wah P T ti sigs key ⟨f,[(false,[.mu 1]),(false,[.clo g []])],[],[]⟩:=by
 subst hf;exact .inr ⟨_,hT,Fbk L hg hname hb W⟩
end
section
open Go.Proofs Go.Shelf Go.Sort
variable {P:Program} {ρ:Ren} {own:Nat->Ow} {w:World}
def Ta8 (P:Program)(g:Nat):Prop :=
 ∀ (p ad:Addr) (n c:Nat) (x y kx ky:Int) (w:World),w.cell? p=some (.slice (some ad) n c)->0<=x->x.toNat<n->0<=y->y.toNat<n->w.cell? (ad.add x.toNat)=some (.int .i64 kx)->w.cell? (ad.add y.toNat)=some (.int .i64 ky) ->
  Calls P g #[.int .i64 x,.int .i64 y,.pointer (some p)] w fun e w'=>e=.returned (.int .i64 (IntKind.i64.wrap (kx-ky)))/\∃ q os,w'=grow (w.drewN q) os
theorem Xao {l kl:List Int}(h:Fah l kl=true):(∀ n∈l,0<=n/\n.toNat<kl.length)/\(∀ k∈kl,0<=k/\k<=1000000000)/\∀ n∈l,∀ m∈l,jJ kl n=jJ kl m->n=m:=by
 unfold Fah at h;simp only[Zbd,Zb6,decide_eq_true_eq,Acp,Bool.not_eq_true',beq_iff_eq,beq_eq_false_iff_ne]at h;obtain⟨⟨h1,h2⟩,h3⟩:=h;exact⟨h1,h2,fun n hn m hm e=>(h3 n hn m hm).resolve_left fun h=>h e⟩
theorem wrap_small {k:Int}(h:-4000000000<=k)(h':k<=4000000000):IntKind.i64.wrap k=k:=by
 simp only[IntKind.wrap,IntKind.bits,IntKind.signed];simp;omega
theorem Fbl (L : SlLaysF.n6 P ρ) {g : Nat} {fn : Func} {c : Code} (hg : P.funcs[g]? = some fn) (hname : (fn.name == "runtime.NumGoroutine") = false) (hb : fn.body = some c) (W : Ta8 P g) :
  Cbz P ⟨ρ.f 6,[(false,[.mu 1]),(false,[.clo g [.px 0]])],[(true,[(.fz false,.fz)])],[]⟩ Laa:=by
 intro vals w G ds gy da hr;unfold Laa at hr;split at hr
 case h_2=>cases hr
 rename_i rs ks;rw[Zbc]at hr;obtain⟨l,hl,hr⟩:=hr;rw[Zbc]at hr;obtain⟨kl,qz,hr⟩:=hr;split at hr
 case isFalse=>cases hr
 rename_i hc;obtain⟨hlen,hko⟩:=hc;obtain rfl:=Option.some.inj hr;obtain⟨hk1,ox,hk3⟩:=Xao hko;obtain⟨u,us,vs,rfl,⟨v,tP,rfl,⟨hv,fm⟩,rfl⟩,qu,u2,us2,vs2,rfl,⟨v2,vs3,rfl,⟨cb,rfl,sg⟩,rfl⟩,hsh2,fh⟩:=da.params;simp only[Zbg,if_false]at qu hsh2;obtain rfl:v=u:=by simpa using qu
 obtain rfl:Value.func (.func g) #[] cb.toArray=u2:=by simpa using hsh2
 simp only[kL]at fh;subst fh;obtain⟨pv,cbs,rfl,⟨hp1,-⟩,sg⟩:=sg;simp only[xW]at sg;subst sg;subst hp1;obtain⟨zo,hbo,⟨⟨kv,oy,-,oi,-⟩,-⟩,-⟩:=da.boxes;rw[if_pos rfl]at hbo;have a63:Rd (fun b=>G.own b=.frz) w kv (.rows 1 ks):=oi;obtain⟨Ak,ak,nk,ck,kvs,rfl,hnk,hck,hAk,-,zz,a2j⟩:=a63.inv;have eb:(G.bx 0).add 0=G.bx 0:=if_pos rfl;rw[eb]at oy;have p4:Rp G.own w 0 [] 1 v (.rows 1 rs):=fm;obtain⟨A,a,n,c,cv,dv,hn,sf,hA,dw,a7,bd,cq⟩:=p4.sl1;obtain rfl:=Iap hl;obtain rfl:=Iap qz;rw[Zbt]at hn hnk;obtain⟨nm,pN,hfn⟩:=L.f6;refine .inl ⟨iM hfn pN rfl _ _,?_⟩
 rcases Nat.eq_zero_or_pos n with h0|jc
 ·subst h0
  obtain rfl:l=[]:=Acu hn;have h:=AnyF.slices_SortFunc_none (P:=P) (ρ:=ρ) { L with } A c (.func (.func g) #[] #[.pointer (some (G.bx 0))]) w;rw[dv];refine h.mono ?_
  rintro e w' ⟨rfl,rfl⟩
  exact Za9 da rfl (hv▸p4)
 ·obtain rfl:A=some a:=by
   rcases hA with h|⟨-,h⟩
   ·exact h
   ·omega
  obtain⟨fp,nc,cC⟩:=a7 rfl
  let α:={ x:Int // 0<=x/\x.toNat<kl.length }
  have hex:∀ i,i<n->∃ x:α,l[i]?=some x.1/\cv i 0=.int .i64 x.1:=by
   intro i hi;have eS:l[i]?=some (l[i]'(by omega)):=Zbf (by omega);have hr:=cq i [.int .i64 (l[i]'(by omega))] (by rw[Zb2,eS];rfl) 0 _ rfl;refine⟨⟨l[i]'(by omega),hk1 _ (Bco _)⟩,eS,?_⟩;generalize cv i 0=u at hr
   cases hr with
   |sc h=>cases h;rfl
  obtain⟨xs,pS,ny⟩:=Nan n hex
  haveI:Inhabited α:=⟨(hex 0 jc).choose⟩
  have v8:xs.map (fun x:α=>x.1)=l:=by
   apply Cce;intro i;rw[Zb2]
   rcases Zbz i n with hi|hi
   ·have hx:xs[i]?=some (xs[i]'(by omega)):=Zbf (by omega)
    rw[hx];exact (ny i _ hx).1.symm
   ·rw[Ac0 (by omega),Ac0 (by omega)]
    rfl
  have lg:∀ x:α,∃ k,jJ kl x.1=(k,0)/\0<=k/\k<=1000000000/\Ak=some ak/\G.own ak.block=.frz/\w.cell? (ak.add x.1.toNat)=some (.int .i64 k):=by
   intro x;have hlt:=x.2.2;have hg:kl[x.1.toNat]?=some (kl[x.1.toNat]'hlt):=Zbf hlt;have h1:=zz x.1.toNat [.int .i64 (kl[x.1.toNat]'hlt)] (by rw[Zb2,hg];rfl) 0 _ rfl;have h2:=a2j x.1.toNat [.int .i64 (kl[x.1.toNat]'hlt)] (by rw[Zb2,hg];rfl) 0 _ rfl;have h3:=ox _ (Bco hlt);refine⟨kl[x.1.toNat]'hlt,by unfold jJ;rw[Zbk,hg];rfl,h3.1,h3.2,hAk.resolve_left (by omega),h1.1,?_⟩;have h4:=h1.2;rw[Nat.mul_one,Zb9]at h4;rw[h4];generalize kvs x.1.toNat 0=u at h2
   cases h2 with
   |sc h=>cases h;rfl
  have lq:=Paq (w:=w) (G:=G) L (α:=α) (fun x=>.int .i64 x.1) (fun x=>x.1) (fun n=>.int .i64 n) (jJ kl) (fun x y=>IntKind.i64.wrap ((jJ kl x.1).1-(jJ kl y.1).1)) (fun x y=>?_) (g:=g) da rfl (fun args w=>iM hg hname hb args w) hv [.pointer (some (G.bx 0))] rfl
   (fun ic off size hbl m os dk hs x y=>?_) (fun x=>.sc (.int _ _)) dv fp nc (fun k hk=>cC k (by omega)) sf (by omega) jc xs pS (fun i x hx=>?_) ?_
  ·rw[v8]at lq
   refine lq.mono ?_
   rintro e w' ⟨u,rfl,h⟩
   exact h
  ·obtain⟨kx,ex,ov,l8,-⟩:=lg x
   obtain⟨ky,ey,yf,xe,-⟩:=lg y;have e1:IntKind.i64.wrap ((jJ kl x.1).1-(jJ kl y.1).1)=kx-ky:=by rw[ex,ey];exact wrap_small (by dsimp only;omega) (by dsimp only;omega)
   have e2:ltOf (fun x y:α=>IntKind.i64.wrap ((jJ kl x.1).1-(jJ kl y.1).1)) x y=decide (kx-ky<0):=by
    unfold ltOf;simp only[e1]
   rw[e2,ex,ey];unfold ltQ;simp;omega
  ·obtain⟨kx,ex,ov,l8,hA,eu,hxc⟩:=lg x
   obtain⟨ky,ey,yf,xe,-,-,hyc⟩:=lg y
   have fR:∀ (b:Addr) (u:Value),G.own b.block≠.slc 0 []->w.cell? b=some u->(sortWorld (fun x:α=>Value.int .i64 x.1) w ic off m dk os).cell? b=some u:=by
    intro b u ho hc;refine (fA (Hak _ _ _ _ _ _ (Jas hc) ?_)).trans hc;intro e;rw[e]at ho;exact ho hbl
   show Calls P g #[.int .i64 x.1,.int .i64 y.1,.pointer (some (G.bx 0))] (sortWorld (fun x:α=>Value.int .i64 x.1) w ic off m dk os) fun e w'=>e=.returned (.int .i64 (IntKind.i64.wrap ((jJ kl x.1).1-(jJ kl y.1).1)))/\∃ q os',w'=grow ((sortWorld (fun x:α=>Value.int .i64 x.1) w ic off m dk os).drewN q) os'
   rw[ex,ey];refine W (G.bx 0) ak nk ck x.1 y.1 kx ky _ ?_ x.2.1 (by have:=x.2.2;omega) y.2.1 (by have:=y.2.2;omega) (fR _ _ (by rw[add_block,eu];simp) hxc) (fR _ _ (by rw[add_block,eu];simp) hyc);rw[<- hA];exact fR _ _ (by rw[hbo];simp) oy
  ·obtain⟨h1,h2⟩:=ny i x hx
   have:=bd i [.int .i64 x.1] (by rw[Zb2,h1];rfl) 0 _ rfl;rw[Nat.mul_one,Zb9,h2]at this;exact this
  ·rw[v8]
   exact hk3
theorem Zab (L : SlLaysF.n6 P ρ) {f g key : Nat} {fn : Func} {c : Code} {T : Nat -> Ent} {ti : Nat -> Option TI} {sigs : List (Nat × Sig)} (hf : ρ.f 6 = f) (hg : P.funcs[g]? = some fn) (hname : (fn.name == "runtime.NumGoroutine") = false) (hb : fn.body = some c) (W : Ta8 P g)
  (hT:T key=.ext Laa):Wah P T ti sigs key ⟨f,[(false,[.mu 1]),(false,[.clo g [.px 0]])],[(true,[(.fz false,.fz)])],[]⟩:=by
 subst hf;exact .inr ⟨_,hT,Fbl L hg hname hb W⟩
end
section
open Go.Proofs Go.Shelf Go.RowKit Go.Lib Go.Sort
variable {P:Program} {ρ:Ren}
set_option maxHeartbeats 4000000 in
set_option maxRecDepth 1000000 in
theorem Tat (L:SlLaysE0.n45 P ρ){K:Nat}{i0:TypeInfo}{z:Value}(n9:P.info? (ρ.t 23)=some i0)(vm:i0.zero=some z)(nu:i0.size=K)(u7:z.cells.size=K)(hK:0<K)(hzo:∀ u∈z.cells.toList,u.oneCell'=true)
  (z23:∀ w,(Go.sizeOf (ρ.t 23)).run P w=.ok K w) (ic off n cap i j:Nat) (w:World) (olds:List Value) (tg:olds.length=n*K) (wt:∀ k u,olds[k]?=some u->w.cell? ⟨ic,off+k,none⟩=some u) (ho1:∀ u∈olds,u.oneCell'=true)
  (cU:∀ k,k<cap*K->∃ u,w.cell? ⟨ic,off+k,none⟩=some u/\w.frozen? ⟨ic,off+k,none⟩=false) (sf:n<=cap) (hn:n<=4611686018427387904) (sh:i<=j) (hj:j<=n) :
  Calls P (ρ.f 45) #[.slice (some ⟨ic,off,none⟩) n cap,.int .i64 i,.int .i64 j] w fun e w'=>e=.returned (.slice (some ⟨ic,off,none⟩) (n-(j-i)) cap) /\
   ((i=j/\w'=w)\/(i<j/\w'=(w.drew.setCells ic (off+i*K) (olds.drop (j*K))).setCells ic (off+(i+(n-j))*K) (Builtin.zeroCells z.cells (n-(i+(n-j)))).toList)):=by
 have mixed:=L.mixed;have t0:=L.t0;have a0:=L.a0;have z0:=L.z0;have v0:=L.v0;have t3:=L.t3;have a3:=L.a3;have z3:=L.z3;have v3:=L.v3;have t4:=L.t4;have a4:=L.a4;have z4:=L.z4;have v4:=L.v4;have t22:=L.t22;have a22:=L.a22;have z22:=L.z22;have v22:=L.v22
 by_cases heq:i=j
 ·subst heq
  have h0:Calls P (ρ.f 45) #[.slice (some ⟨ic,off,none⟩) n cap,.int .i64 i,.int .i64 i] w fun e w'=>e=.returned (.slice (some ⟨ic,off,none⟩) n cap)/\w'=w:=by
   clear wt ho1 cU tg;obtain⟨_,_,FG⟩:=L.f45
   go_enter FG,SlBodyN.n45_ntmps ρ
   go_wp2
   all_goals (go_ret;exact⟨rfl,rfl⟩)
  refine h0.mono ?_
  rintro e w' ⟨rfl,rfl⟩
  exact⟨by rw[Nat.sub_self,Nat.sub_zero],.inl ⟨rfl,rfl⟩⟩
 ·have hlt:i<j:=by omega
  obtain⟨news,my⟩:∃ news,news=olds.drop (j*K):=⟨_,rfl⟩;have hlen:news.length=(n-j)*K:=by rw[my,Acv,tg,Nat.sub_mul]
  have hjc:cap≠j->j<cap:=by omega
  have hmul:∀ a b:Nat,a<=b->a*K<=b*K:=fun a b h=>Ac2 K h
  obtain⟨A,hA,pL⟩:∃ A:Addr,(if cap=j then (some (⟨ic,off,none⟩:Addr)) else some ⟨ic,off+j*K,none⟩)=some A/\Hid (∀ t u,news[t]?=some u->w.drew.cell? (A.add t)=some u):=by
   by_cases h:cap=j
   ·refine⟨⟨ic,off,none⟩,by simp[h],fun t u hu=>?_⟩
    have h0:news.length=0:=by rw[hlen,show n-j=0 by omega,Nat.zero_mul]
    rw[List.length_eq_zero_iff.1 h0]at hu;simp at hu
   ·refine⟨⟨ic,off+j*K,none⟩,by simp[h],fun t u hu=>?_⟩
    rw[my,Acg]at hu;have:=wt _ u hu;rw[Addr.add_lit,show off+j*K+t=off+(j*K+t) by omega];exact this
  have s1:Hid (news.length=(n-j)*K):=hlen;have s2:Hid (∀ u∈news,u.oneCell'=true):=fun u hu=>ho1 u (Bcs (my▸hu))
  have nB:i*K+(n-j)*K<=cap*K:=by rw[<- Ac4];exact hmul _ _ (by omega)
  have s3:Hid (∀ t,t<news.length->(w.drew.cell? ⟨ic,off+i*K+t,none⟩).isSome=true/\w.drew.frozen? ⟨ic,off+i*K+t,none⟩=false):=by
   intro t ht;rw[hlen]at ht;obtain⟨u,h1,h2⟩:=cU (i*K+t) (by omega);rw[Zb0];exact⟨by show (w.cell? _).isSome=true;rw[h1];rfl,h2⟩
  obtain⟨W1,hW1⟩:∃ W1,W1=w.drew.setCells ic (off+i*K) news:=⟨_,rfl⟩
  have xu:∀ k,k<cap*K->∃ u,W1.cell? ⟨ic,off+k,none⟩=some u/\W1.frozen? ⟨ic,off+k,none⟩=false:=by
   intro k hk;obtain⟨u,h1,h2⟩:=cU k hk;rw[hW1];obtain⟨u',h3⟩:=jY (w:=w.drew) (B:=ic) (o:=off+i*K) (vs:=news) (b:=⟨ic,off+k,none⟩) (fun _=>rfl) (fun t ht=>(s3.out t ht).1) h1;exact⟨u',h3,by rw[World.frozen?_setCells];exact h2⟩
  generalize hZ:(Builtin.zeroCells z.cells (n-(i+(n-j)))).toList=Z;have hZl:Z.length=(n-(i+(n-j)))*K:=by rw[<- hZ];simp[Builtin.zeroCells,u7]
  have hZ1:∀ u∈Z,u.oneCell'=true:=by
   intro u hu;rw[<- hZ,Builtin.zeroCells,Array.mem_toList_iff,Array.mem_map]at hu;obtain⟨q,hq,rfl⟩:=hu;have hlt:q % z.cells.size<z.cells.size:=Nat.mod_lt _ (by omega);rw[getElem!_pos z.cells _ hlt];exact hzo _ (Array.getElem_mem_toList hlt)
  have iz:∀ ty,(Builtin.clear_ #[ρ.t 22] ty #[.slice (some ⟨ic,off+(i+(n-j))*K,none⟩) (n-(i+(n-j))) (cap-(i+(n-j)))]).run P W1=.ok (.tuple #[]) (W1.setCells ic (off+(i+(n-j))*K) Z):=by
   intro ty
   have cC:∀ t,t<Z.length->∃ u,W1.cell? ⟨ic,off+(i+(n-j))*K+t,none⟩=some u/\W1.frozen? ⟨ic,off+(i+(n-j))*K+t,none⟩=false:=fun t ht=>by
    have h1:(i+(n-j))*K+(n-(i+(n-j)))*K<=cap*K:=by rw[<- Ac4];exact hmul _ _ (by omega)
    have:=xu ((i+(n-j))*K+t) (by omega);rwa[<- Zb0]at this
   have aE:=run_storeCells_cells (P:=P) ic (off+(i+(n-j))*K) Z 0 W1 (fun t ht=>by obtain⟨u,h1,-⟩:=cC t ht;rw[Zb9,h1];rfl) (fun t ht=>by rw[Zb9];exact (cC t ht).choose_spec.2) hZ1;obtain⟨q,hq⟩:∃ q,n-(i+(n-j))=q+1:=⟨n-(i+(n-j))-1,by omega⟩;rw[hq]at hZ ⊢;simp only[Zb9]at aE;simp[Builtin.clear_,run_underlying t22,lM n9 vm,hZ,aE]
  have hW:Hid (W1=w.drew.setCells ic (off+i*K) news):=hW1;have hn':Hid (news=olds.drop (j*K)):=my;have hic:i<=cap:=by omega
  have hjc:j<=cap:=by omega
  have hK0:Hid (0<K):=hK;clear hW1 my hlen xu cU wt ho1 tg hmul nB hZ hZl hZ1 hK;obtain⟨_,_,FG⟩:=L.f45
  go_enter FG,SlBodyN.n45_ntmps ρ
  go_wp2_with fail
  go_region_law_o (refine step_append_room rfl (.tmp 22) (.tmp 25) (ρ.t 22) rfl (ρ.t 23) i0 K t22 n9 nu ic off i cap (by simp[Act.eval,Act.put]) A (n-j) (cap-j) news (by simp[Act.eval,Act.put]) s1.out pL.out s2.out (by omega) s3.out ?_;rw[<- hW.out])
  go_wp2
  go_ret
  refine⟨by rw[show n-(j-i)=i+(n-j) by omega];rfl,.inr ⟨hlt,?_⟩⟩;rw[hW.out,hn'.out]
end
section
open Go.Proofs Go.Shelf
variable {P:Program} {ρ:Ren}
def Kbe (K:Nat):List D->Option (List D)
 |[.rows sz rs,.int .i64 i,.int .i64 j]=>if sz=K/\0<=i/\i<=j/\j<=rs.length/\rs.length<=4611686018427387904/\0<rs.length then some [.rows K (rs.take i.toNat++rs.drop j.toNat)] else none
 |_=>none
def Bb1 (K i j:Nat):Ow->Ow
 |.slc 0 (k::p)=>if k / K<i then .slc 0 (k::p) else if k / K<j then .frz else .slc 0 ((k-(j-i)*K)::p)
 |o=>o
theorem Gby {K i j r c:Nat}{p:List Nat}(hK:0<K)(hc:c<K)(h:r<i):Bb1 K i j (.slc 0 ((r*K+c)::p))=.slc 0 ((r*K+c)::p):=by
 have e:(r*K+c) / K=r:=by rw[Ccr,Nat.mul_add_div hK,Ccu hc,Zb9]
 simp only[Bb1];rw[e,if_pos h]
theorem Bb0 {K i j r c:Nat}{p:List Nat}(hK:0<K)(hc:c<K)(sh:i<=j)(h:i<=r):Bb1 K i j (.slc 0 (((r+(j-i))*K+c)::p))=.slc 0 ((r*K+c)::p):=by
 have e:((r+(j-i))*K+c) / K=r+(j-i):=by rw[Ccr,Nat.mul_add_div hK,Ccu hc,Zb9]
 simp only[Bb1];rw[e,if_neg (by omega),if_neg (by omega),Ac4];congr 2;omega
theorem Bbz (L:SlLaysE0.n45 P ρ){K m:Nat}{i0:TypeInfo}{z:Value}(n9:P.info? (ρ.t 23)=some i0)(vm:i0.zero=some z)(nu:i0.size=K)(u7:z.cells.size=K)(hK:0<K)(hzo:∀ u∈z.cells.toList,u.oneCell'=true)
  (z23:∀ w,(Go.sizeOf (ρ.t 23)).run P w=.ok K w):Cbz P ⟨ρ.f 45,[(false,[.ow (m+1)]),(false,[.sc]),(false,[.sc])],[],[(false,[.ow (m+1)])]⟩ (Kbe K):=by
 intro vals w G ds gy da hr;unfold Kbe at hr;split at hr
 case h_2=>cases hr
 rename_i sz rs i j;split at hr
 case isFalse=>cases hr
 rename_i hc;obtain⟨rfl,h0,sh,hj,hbig,jc⟩:=hc;obtain rfl:=Option.some.inj hr;obtain⟨u,us,vs,rfl,⟨v,tP,rfl,⟨hv,fm⟩,rfl⟩,qu,u2,us2,vs2,rfl,⟨v2,vs3,rfl,ll,rfl⟩,hsh2,u3,us3,vs4,rfl,⟨v3,vs5,rfl,hs3,rfl⟩,hsh3,fh⟩:=da.params;simp only[Zbg,if_false]at qu hsh2 hsh3;obtain rfl:v=u:=by simpa using qu
 obtain rfl:v2=u2:=by simpa using hsh2
 obtain rfl:v3=u3:=by simpa using hsh3
 simp only[kL]at fh;subst fh;have a6l:Sc v2 (.int .i64 i):=ll;have a5s:Sc v3 (.int .i64 j):=hs3;obtain rfl:=a6l.int_inv;obtain rfl:=a5s.int_inv;have p4:Rp G.own w 0 [] (m+1) v (.rows sz rs):=fm;obtain⟨A,a,n,c,cv,dv,hn,sf,hA,dw,a7,bd,cq⟩:=p4.sl_inv
 obtain rfl:A=some a:=by
  rcases hA with h|⟨-,h⟩
  ·exact h
  ·omega
 obtain⟨fp,nc,cC⟩:=a7 rfl;have mn:=Wac fp;obtain⟨nm,pN,hfn⟩:=L.f45;refine .inl ⟨iM hfn pN rfl _ _,?_⟩
 have ea:(⟨a.block,a.off,none⟩:Addr)=a:=by
  cases a with
  | mk b o s =>
   obtain rfl:s=none:=fp;rfl
 have ub:=Da5 dw bd;have iz:(lW cv n sz).length=n*sz:=nX _ _ _
 have vl:∀ r,r<n->∃ row,rs[r]?=some row/\row.length=sz:=fun r hr=>by
  have h1:rs[r]?=some (rs[r]'(by omega)):=Zbf (by omega);exact⟨_,h1,dw _ (Zbv h1)⟩
 have lA:∀ u∈lW cv n sz,u.oneCell'=true:=by
  intro u hu;obtain⟨k,hk⟩:=List.mem_iff_getElem?.1 hu;obtain⟨k1,k2,k3,rfl⟩:=Eaw hk;obtain⟨row,h1,h2⟩:=vl _ k1;have h3:row[k % sz]?=some (row[k % sz]'(by omega)):=Zbf (by omega);exact (cq _ _ h1 _ _ h3).one
 have vo:((i.toNat:Nat):Int)=i:=by omega
 have hej:((j.toNat:Nat):Int)=j:=by omega
 have hW:=Tat L n9 vm nu u7 hK hzo z23 a.block a.off n c i.toNat j.toNat w (lW cv n sz) iz (fun k u hk=>by rw[<- mn];exact ub k u (hn.symm▸hk)) lA (fun k hk=>by rw[<- mn];exact cC k hk) sf (by omega) (by omega) (by omega);rw[ea,<- dv,vo,hej]at hW;refine hW.mono ?_
 rintro e w' ⟨rfl,hw⟩
 rcases hw with ⟨a6h,rfl⟩|⟨hlt,hw⟩
 ·
  refine⟨G,[_],rfl,Fao da rfl,⟨_,_,_,rfl,⟨_,_,rfl,?_,rfl⟩,rfl,rfl⟩,trivial,trivial⟩;have e1:rs.take i.toNat++rs.drop j.toNat=rs:=by rw[<- a6h];exact List.take_append_drop _ _
  show Rp G.own w' 0 [] (m+1) (.slice (some a) (n-(j.toNat-i.toNat)) c) (.rows sz (rs.take i.toNat++rs.drop j.toNat))
  rw[e1,show n-(j.toNat-i.toNat)=n by omega,<- dv];exact p4
 ·generalize hI:i.toNat=I at *
  generalize hJ:j.toNat=J at *;have hJn:J<=n:=by omega
  generalize hZ:(Builtin.zeroCells z.cells (n-(I+(n-J)))).toList=Z at hw;have hZl:Z.length=(n-(I+(n-J)))*sz:=by rw[<- hZ];simp[Builtin.zeroCells,u7]
  have hmul:∀ a b:Nat,a<=b->a*sz<=b*sz:=fun a b h=>Ac2 sz h
  have vg:((lW cv n sz).drop (J*sz)).length=(n-J)*sz:=by rw[Acv,iz,Nat.sub_mul]
  generalize my:(lW cv n sz).drop (J*sz)=news at hw vg;have nB:I*sz+(n-J)*sz<=c*sz:=by rw[<- Ac4];exact hmul _ _ (by omega)
  have hroom2:(I+(n-J))*sz+(n-(I+(n-J)))*sz<=c*sz:=by rw[<- Ac4];exact hmul _ _ (by omega)
  have qw:∀ k,k<c*sz->∃ u,w.cell? ⟨a.block,a.off+k,none⟩=some u/\w.frozen? ⟨a.block,a.off+k,none⟩=false:=fun k hk=>by rw[<- mn];exact cC k hk
  have a3f:∀ t,t<news.length->(w.drew.cell? ⟨a.block,a.off+I*sz+t,none⟩).isSome=true:=fun t ht=>by
   obtain⟨u,h1,-⟩:=qw (I*sz+t) (by omega);rw[<- Zb0]at h1;show (w.cell? _).isSome=true
   rw[h1];rfl
  have yt:∀ k,k<c*sz->∃ u,(w.drew.setCells a.block (a.off+I*sz) news).cell? ⟨a.block,a.off+k,none⟩=some u/\(w.drew.setCells a.block (a.off+I*sz) news).frozen? ⟨a.block,a.off+k,none⟩=false:=by
   intro k hk;obtain⟨u,h1,h2⟩:=qw k hk;obtain⟨u',h3⟩:=jY (w:=w.drew) (B:=a.block) (o:=a.off+I*sz) (vs:=news) (b:=⟨a.block,a.off+k,none⟩) (fun _=>rfl) a3f h1;exact⟨u',h3,by rw[World.frozen?_setCells];exact h2⟩
  have a7j:∀ t,t<Z.length->((w.drew.setCells a.block (a.off+I*sz) news).cell? ⟨a.block,a.off+(I+(n-J))*sz+t,none⟩).isSome=true:=fun t ht=>by
   obtain⟨u,h1,-⟩:=yt ((I+(n-J))*sz+t) (by omega);rw[<- Zb0]at h1;rw[h1];rfl
  have rK:∀ k,k<c*sz->∃ u,w'.cell? ⟨a.block,a.off+k,none⟩=some u/\w'.frozen? ⟨a.block,a.off+k,none⟩=false:=by
   intro k hk;obtain⟨u,h1,h2⟩:=yt k hk;rw[hw];obtain⟨u',h3⟩:=jY (B:=a.block) (o:=a.off+(I+(n-J))*sz) (vs:=Z) (b:=⟨a.block,a.off+k,none⟩) (fun _=>rfl) a7j h1;exact⟨u',h3,by rw[World.frozen?_setCells];exact h2⟩
  have zl:∀ k u,k<I*sz->w.cell? ⟨a.block,a.off+k,none⟩=some u->w'.cell? ⟨a.block,a.off+k,none⟩=some u:=by
   intro k u hk h1;have:I*sz<=(I+(n-J))*sz:=hmul _ _ (by omega);rw[hw,World.cell?_setCells_out _ _ _ _ _ (fun _ _=>.inl (by dsimp only;omega)),World.cell?_setCells_out _ _ _ _ _ (fun _ _=>.inl (by dsimp only;omega))];exact h1
  have a11:∀ t u,news[t]?=some u->w'.cell? ⟨a.block,a.off+I*sz+t,none⟩=some u:=by
   intro t u ht;have htl:=(List.getElem?_eq_some_iff.1 ht).1;have e1:(I+(n-J))*sz=I*sz+(n-J)*sz:=Ac4 _ _ _;rw[hw,World.cell?_setCells_out _ _ _ _ _ (fun _ _=>.inl (by dsimp only;omega)),World.cell?_setCells_in a.block news (a.off+I*sz) w.drew a3f t htl,<- ht,Zbf]
  have cA:∀ b,b≠a.block->w'.heap[b]?=w.heap[b]?:=fun b hb=>by
   rw[hw,dE _ _ _ _ _ hb,dE _ _ _ _ _ hb];rfl
  have p5:w'.heap.size=w.heap.size:=by rw[hw,setCells_size,setCells_size];rfl
  have mB:w'.os=w.os/\w'.tape=w.tape/\w'.output=w.output:=by
   obtain⟨q1,q2,q3⟩:=iT a.block Z (a.off+(I+(n-J))*sz) (w.drew.setCells a.block (a.off+I*sz) news);obtain⟨p1,p2,p3⟩:=iT a.block news (a.off+I*sz) w.drew;rw[hw];exact⟨q1.trans p1,q2.trans p2,q3.trans p3⟩
  have zx:∀ b,(∀ p,G.own b≠.slc 0 p)->Bb1 sz I J (G.own b)=G.own b:=by
   intro b hb
   cases e:G.own b with
   | slc s p =>
    cases s with
    |zero=>exact absurd e (hb p)
    |succ s=>rfl
   |_=>rfl
  have xk:∀ b,G.own b=.frz->b<w.heap.size->Bb1 sz I J (G.own b)=.frz/\w'.heap[b]?=w.heap[b]?:=fun b hb _=>⟨by rw[hb];rfl,cA b fun e=>by rw[e,nc]at hb;cases hb⟩
  have pr:∀ {b k:Nat} {p:List Nat},G.own b=.slc 0 (k::p)->w'.heap[b]?=w.heap[b]?:=fun {b k p} hb=>cA b fun e=>by rw[e,nc]at hb;injection hb with _ hb;cases hb
  refine⟨{ G with own:=fun b=>Bb1 sz I J (G.own b) },[_],rfl,⟨mB.1,mB.2.1,mB.2.2,by rw[p5];exact Zbr _,fun b hb ho=>?_,fun b q hb ho=>?_,fun b hb=>?_⟩,⟨_,_,_,rfl,⟨_,_,rfl,?_,rfl⟩,rfl,rfl⟩,trivial,trivial⟩
  ·change G.own b=_\/G.own b=_ at ho
   refine⟨cA b fun e=>?_,zx b fun p e=>?_⟩
   ·rw[e,nc]at ho;rcases ho with h|h<;>cases h
   ·rw[e]at ho;rcases ho with h|h<;>cases h
  ·exact absurd (da.cells b q hb ho).1 (Nat.not_lt_zero _)
  ·show Bb1 sz I J (G.own b)=.frz
   rw[da.fresh b (by omega)];rfl
  ·show Rp (fun b=>Bb1 sz I J (G.own b)) w' 0 [] (m+1) (.slice (some a) (n-(J-I)) c) (.rows sz (rs.take I++rs.drop J))
   have ie:∀ r row,(rs.take I++rs.drop J)[r]?=some row->(r<I/\rs[r]?=some row)\/(I<=r/\rs[r+(J-I)]?=some row):=by
    intro r row hr;have oz:(rs.take I).length=I:=by rw[Zb1];omega
    rcases Zbz r I with h|h
    ·rw[List.getElem?_append_left (by omega),List.getElem?_take,if_pos h]at hr
     exact .inl ⟨h,hr⟩
    ·rw[List.getElem?_append_right (by omega),oz,Acg,show J+(r-I)=r+(J-I) by omega]at hr
     exact .inr ⟨h,hr⟩
   refine .sl (some a) a _ c sz _ (fun r q=>if r<I then cv r q else cv (r+(J-I)) q) ?_ (by omega) (.inl rfl) (fun row hr=>?_) (fun _=>⟨fp,?_,fun k hk=>?_⟩) (fun r row hr q d hq=>?_) (fun r row hr q d hq=>?_)
   ·rw[List.length_append,Zb1,Acv];omega
   ·rcases List.mem_append.1 hr with h|h
    ·exact dw row (List.mem_of_mem_take h)
    ·exact dw row (Bcs h)
   ·rw[nc];rfl
   ·rw[mn];exact rK k hk
   ·rcases ie r row hr with ⟨h,h1⟩|⟨h,h1⟩
    ·rw[if_pos h]
     have hql:q<sz:=by rw[<- dw row (Zbv h1)];exact (List.getElem?_eq_some_iff.1 hq).1
     have h2:=bd r row h1 q d hq;rw[mn]at h2 ⊢;refine zl _ _ ?_ h2;have:=hmul (r+1) I (by omega);rw[Ac4]at this;omega
    ·rw[if_neg (by omega)]
     have hql:q<sz:=by rw[<- dw row (Zbv h1)];exact (List.getElem?_eq_some_iff.1 hq).1
     have sa:r+(J-I)<n:=by rw[<- hn];exact (List.getElem?_eq_some_iff.1 h1).1
     have h3:news[(r-I)*sz+q]?=some (cv (r+(J-I)) q):=by
      rw[<- my,Acg,show J*sz+((r-I)*sz+q)=(r+(J-I))*sz+q by rw[<- Zb0,<- Ac4];congr 2;omega];exact zC cv sa hql
     have:=a11 _ _ h3;rw[show a.off+I*sz+((r-I)*sz+q)=a.off+(r*sz+q) by rw[Zb0,<- Zb0 (I*sz),<- Ac4];congr 3;omega,<- mn]at this;exact this
   ·rcases ie r row hr with ⟨h,h1⟩|⟨h,h1⟩
    ·rw[if_pos h]
     have hql:q<sz:=by rw[<- dw row (Zbv h1)];exact (List.getElem?_eq_some_iff.1 hq).1
     have:=(cq r row h1 q d hq).mono' (own':=fun b=>Bb1 sz I J (G.own b)) (w':=w') (r':=0) (q:=[r*sz+q]) (q':=[r*sz+q]) xk [] (by simp) (fun b t hb=>⟨by rw[hb];exact Gby hK hql h,pr hb⟩);simpa using this
    ·rw[if_neg (by omega)]
     have hql:q<sz:=by rw[<- dw row (Zbv h1)];exact (List.getElem?_eq_some_iff.1 hq).1
     have:=(cq _ row h1 q d hq).mono' (own':=fun b=>Bb1 sz I J (G.own b)) (w':=w') (r':=0) (q:=[(r+(J-I))*sz+q]) (q':=[r*sz+q]) xk [] (by simp) (fun b t hb=>⟨by rw[hb];exact Bb0 hK hql (by omega) h,pr hb⟩);simpa using this
def Ta9 (P:Program)(t:TypeId):Bool:=match P.info? t with
 | some i => match i.zero with
  |some z=>z.cells.toList.all fun u=>u.oneCell'
  |none=>true
 |none=>true
theorem Yae (L:SlLaysE0.n45 P ρ){K m f key:Nat}{T:Nat->Ent}{ti:Nat->Option TI}{sigs:List (Nat×Sig)}(hf:ρ.f 45=f)(h:Daf P (ρ.t 23)=some K)(z23:∀ w,(Go.sizeOf (ρ.t 23)).run P w=.ok K w)
  (nu:Ta9 P (ρ.t 23)=true) (hT:T key=.ext (Kbe K)) :
  Wah P T ti sigs key ⟨f,[(false,[.ow (m+1)]),(false,[.sc]),(false,[.sc])],[],[(false,[.ow (m+1)])]⟩:=by
 subst hf;unfold Daf at h;split at h
 ·rename_i i hi
  split at h
  ·rename_i z hz
   split at h
   ·rename_i h1
    cases h
    have h2:(z.cells.toList.all fun u=>u.oneCell')=true:=by
     unfold Ta9 at nu;rw[hi]at nu;dsimp only at nu;rw[hz]at nu;exact nu
    rw[Zb6]at h2;exact .inr ⟨_,hT,Bbz L hi hz rfl h1.1 h1.2 h2 z23⟩
   ·cases h
  ·cases h
 ·cases h
end
class Enc (α:Type) where
 sz:Nat
 enc:α->List D
 len:∀ a,(enc a).length=sz
instance:Enc Int:=⟨1,fun n=>[i64 n],fun _=>rfl⟩
instance:Enc Bool:=⟨1,fun b=>[.bool b],fun _=>rfl⟩
instance:Enc (List UInt8):=⟨1,fun s=>[.str s],fun _=>rfl⟩
def rL {α:Type}[Enc α](xs:List α):D:=.rows (Enc.sz α) (xs.map Enc.enc)
instance {α:Type} [Enc α]:Enc (List α):=⟨1,fun xs=>[rL xs],fun _=>rfl⟩
def InB {α:Type}(xs:List α)(k:Int):Prop:=0<=k/\k<xs.length
def atI {α:Type}[Inhabited α](xs:List α)(k:Int):α:=xs.getD k.toNat default
def iJ {α:Type}(xs:List α)(k:Int)(a:α):List α:=xs.set k.toNat a
theorem aH {α:Type}{xs:List α}{i:Nat}:InB xs (i:Int)↔i<xs.length:=by unfold InB;omega
theorem Oae {α:Type}[Inhabited α]{xs:List α}{i:Nat}:atI xs (i:Int)=xs.getD i default:=rfl
theorem bC {α:Type}[Inhabited α]{xs:List α}{i:Nat}(h:i<xs.length):atI xs (i:Int)=xs[i]:=by
 rw[Oae,Zbk,Zbf h];rfl
theorem InB.lt {α:Type}{xs:List α}{k:Int}(h:InB xs k):k.toNat<xs.length:=by unfold InB at h;omega
def tick:Nat:=0
def Vbw:Nat:=0
def jD {γ:Type}(c:Bool)(a b:γ):γ:=match c with
 |true=>a
 |false=>b
theorem Xa4 {γ:Type}{a b:γ}:jD true a b=a:=rfl
theorem Tan {γ:Type}{a b:γ}:jD false a b=b:=rfl
@[congr] theorem Kbb {γ:Type} {c c':Bool} {a b:γ} (h:c=c') {dd:Nat} (hd:tick=dd):jD c a b=jD c' a b:=by rw[h]
theorem aC {γ:Type}{c:Bool}{a b r:γ}(h1:c=true->a=r)(h2:c=false->b=r):jD c a b=r:=by
 cases c with
 |true=>exact h1 rfl
 |false=>exact h2 rfl
section
variable {T:Nat->Ent} {β:Type}
@[congr] theorem Rbv {t:Tm β} {ρ gg:List D} (h:ρ=gg) {dd:Nat} (hd:tick=dd):Er T t ρ=Er T t gg:=by rw[h]
@[congr] theorem Ib5 {k:Tm β} {ρ gg:List D} {n:Nat} {a a':Option (List D)} (h:ρ=gg) (h2:a=a') {dd:Nat} (hd:tick=dd):stepT T k ρ n a=stepT T k gg n a':=by rw[h,h2]
@[congr] theorem Iby {i:Nat} {k:Tm β} {ρ gg:List D} {r r':Option (Kind×List D)} (h:ρ=gg) (h2:r=r') {dd:Nat} (hd:tick=dd):nK T i k ρ r=nK T i k gg r':=by rw[h,h2]
@[congr] theorem Nb1 {p:aU} {xs xs':List D} (h:xs=xs') {dd:Nat} (hd:tick=dd):p.run xs=p.run xs':=by rw[h]
def nth:List D->Nat->D
 |[],_=>.undef
 |a::_,0=>a
 |_::r,n+1=>nth r n
theorem Sbf {a:D}{r:List D}:nth (a::r) 0=a:=rfl
theorem Sbe {a:D}{r:List D}{n:Nat}:nth (a::r) (n+1)=nth r n:=rfl
theorem Vaa (r:List D)(n:Nat):r.getD n .undef=nth r n:=by
 induction r generalizing n with
 |nil=>rfl
 | cons a r ih => cases n with
  |zero=>rfl
  |succ n=>exact ih n
def vals (ρ:List D):List aL->List D
 |[]=>[]
 |.v i::r=>nth ρ i::vals ρ r
 |.c d::r=>d::vals ρ r
@[congr] theorem Kb4 {ρ gg:List D} {xs:List aL} (h:ρ=gg) {dd:Nat} (hd:tick=dd):vals ρ xs=vals gg xs:=by rw[h]
theorem xZ (ρ:List D)(xs:List aL):xs.map (·.val ρ)=vals ρ xs:=by
 induction xs with
 |nil=>rfl
 | cons x xs ih =>
  rw[Zb5,ih]
  cases x with
  |v i=>show ρ.getD i .undef::_=_;rw[Vaa];rfl
  |c d=>rfl
theorem Lbe {ρ:List D}:vals ρ []=[]:=rfl
theorem Lbd {ρ:List D}{i:Nat}{r:List aL}:vals ρ (.v i::r)=nth ρ i::vals ρ r:=rfl
theorem Lbf {ρ:List D}{d:D}{r:List aL}:vals ρ (.c d::r)=d::vals ρ r:=rfl
def Wal (ρ:List D):aL->D
 |.v i=>nth ρ i
 |.c d=>d
theorem Lbg {ρ:List D}{i:Nat}:Wal ρ (.v i)=nth ρ i:=rfl
theorem Lbh {ρ:List D}{d:D}:Wal ρ (.c d)=d:=rfl
theorem Mao (ρ:List D)(a:aL):a.val ρ=Wal ρ a:=by
 cases a with
 |v i=>exact Vaa ρ i
 |c d=>rfl
@[congr] theorem Kb5 {ρ gg:List D} {a:aL} (h:ρ=gg) {dd:Nat} (hd:tick=dd):Wal ρ a=Wal gg a:=by rw[h]
theorem Kb0 (k:Kind)(xs:List aL)(e:β)(ρ:List D):Er T (.leaf k xs e) ρ=some (k,vals ρ xs):=by rw[Kby,xZ]
theorem Sbv (p:aU)(xs:List aL)(n:Nat)(k:Tm β)(ρ:List D):Er T (.lt none p xs n k) ρ=stepT T k ρ n (p.run (vals ρ xs)):=by rw[Obz,xZ]
theorem Kb1 (f:Nat)(xs:List aL)(n:Nat)(os:List aL)(k:Tm β)(ρ:List D):Er T (.call none f xs n os k) ρ=stepT T k ρ n (Fun T f (vals ρ xs)):=by rw[Hbw,xZ]
def Aaz (w:Bool)(a b:Option (Kind×List D))(c:D):Option (Kind×List D):=if gdR c w=true then a else b
@[congr] theorem Jb9 {w:Bool} {a b:Option (Kind×List D)} {c c':D} (h:c=c') {dd:Nat} (hd:tick=dd):Aaz w a b c=Aaz w a b c':=by rw[h]
theorem Jb7 {a b:Option (Kind×List D)}{c:Bool}:Aaz true a b (.bool c)=jD c a b:=by cases c<;>rfl
theorem Jb8 {a b:Option (Kind×List D)}{c:Bool}:Aaz false a b (.bool c)=jD c b a:=by cases c<;>rfl
theorem Jb6 {w:Bool}{a b:Option (Kind×List D)}:Aaz w a b .undef=b:=by simp[Aaz,gdR]
theorem Ob1 (a:aL)(w:Bool)(p:aU)(xs:List aL)(n:Nat)(k:Tm β)(ρ:List D) :
  Er T (.lt (some (a,w)) p xs n k) ρ=Aaz w (stepT T k ρ n (p.run (vals ρ xs))) (Er T k (ρ++Zbq n .undef)) (Wal ρ a):=by
 rw[Oby,ltT,Aaz,xZ,Mao]
theorem Hbx (a:aL)(w:Bool)(f:Nat)(xs:List aL)(n:Nat)(os:List aL)(k:Tm β)(ρ:List D) :
  Er T (.call (some (a,w)) f xs n os k) ρ=Aaz w (stepT T k ρ n (Fun T f (vals ρ xs))) (Er T k (ρ++(Zbq (n-os.length) .undef++vals ρ os))) (Wal ρ a):=by
 rw[Hbv,Kbi,Aaz,xZ,xZ,Mao]
def Sad {γ:Type}(a b:Option γ)(c:D):Option γ:=Vbs c a b
@[congr] theorem Ibz {γ:Type} {a b:Option γ} {c c':D} (h:c=c') {dd:Nat} (hd:tick=dd):Sad a b c=Sad a b c':=by rw[h]
theorem Ib0 {γ:Type}{a b:Option γ}{c:Bool}:Sad a b (.bool c)=jD c a b:=by cases c<;>rfl
theorem Ob2 (c:aL)(t e:Tm β)(ρ:List D):Er T (.ite c t e) ρ=Sad (Er T t ρ) (Er T e ρ) (Wal ρ c):=by rw[Ob0,Sbj,Sad,Mao]
theorem Kb2 (i:Nat)(t k:Tm β)(ρ:List D):Er T (.bind i t k) ρ=nK T i k ρ (Er T t ρ):=Kbz i t k ρ
theorem Wan {i:Nat}{k:Tm β}{ρ:List D}{c:Bool}{a b:Option (Kind×List D)}:nK T i k ρ (jD c a b)=jD c (nK T i k ρ a) (nK T i k ρ b):=by cases c<;>rfl
theorem Sac {i j:Nat}{k:Tm β}{ρ ds:List D}:nK T i k ρ (some (.yield j,ds))=if j=i then Er T k (ρ++ds) else some (.yield j,ds):=by
 by_cases h:j=i
 ·subst h;rw[Wam,if_pos rfl]
 ·rw[Fbg h,if_neg h]
noncomputable def fin (o:Option (Kind×List D)):Option (List D):=o.bind Vbm
theorem Gbl {c:Bool}{a b:Option (Kind×List D)}:fin (jD c a b)=jD c (fin a) (fin b):=by cases c<;>rfl
theorem Kbc {ds:List D}:fin (some (.ret,ds))=some ds:=rfl
theorem aO {f:Nat}{t:Tm Unit}(h:T f=.tm t)(args:List D):Fun T f args=fin (Er T t args):=Sbu h args
theorem Sbp {ρ:List D}:ρ++[]=ρ:=List.append_nil ρ
theorem Sbq {a:D}{r s:List D}:(a::r)++s=a::(r++s):=rfl
theorem Sbr {s:List D}:[]++s=s:=rfl
theorem Ib4 {k:Tm β}{ρ ds:List D}{n:Nat}:stepT T k ρ n (some ds)=if ds.length=n then Er T k (ρ++ds) else none:=rfl
end
section
variable {α:Type} [Enc α]
theorem Nb4 {xs:List α}:aU.len.run [rL xs]=some [i64 xs.length]:=by simp[rL,aU.run]
theorem Iba {xs:List α}{k:Int}(h:InB xs k):aU.inb.run [rL xs,i64 k]=some []:=by
 unfold InB at h;simp only[rL,aU.run,Zbt];rw[if_pos ⟨h.1,h.2⟩]
def rowOf (off:Nat)(ks:List Bool)(r:List D):Option (List D):=if off+ks.length<=r.length/\Eac ks (r.drop off)=true then some ((r.drop off).take ks.length) else none
theorem rV [Inhabited α]{xs:List α}{k:Int}{sz off:Nat}{ks:List Bool}(hs:Enc.sz α=sz)(h:InB xs k):(aU.row sz off ks).run [rL xs,i64 k]=rowOf off ks (Enc.enc (atI xs k)):=by
 have h2:=h.lt;unfold InB at h;subst hs
 have e:xs[k.toNat]?=some (atI xs k):=by
  rw[Zbf h2,atI,Zbk,Zbf h2];rfl
 simp only[rL,aU.run,Zb2,e,Acm];simp only[true_and];rw[if_pos h.1];rfl
theorem wG [Inhabited α]{xs:List α}{k:Int}{sz off n:Nat}{vs:List D}{a:α}(hs:Enc.sz α=sz)(hl:vs.length=n)(ho:off+n<=sz)(ha:Enc.enc a=(Enc.enc (atI xs k)).take off++vs++(Enc.enc (atI xs k)).drop (off+n))(h:InB xs k) :
  (aU.set sz off n).run (rL xs::i64 k::vs)=some [rL (iJ xs k a)]:=by
 have h2:=h.lt;unfold InB at h;subst hs
 have e:xs[k.toNat]?=some (atI xs k):=by
  rw[Zbf h2,atI,Zbk,Zbf h2];rfl
 simp only[rL,aU.run,Zb2,e,Acm];simp only[true_and];rw[if_pos h.1,if_pos ⟨by rw[Enc.len];exact ho,hl⟩,<- ha,iJ,List.map_set]
theorem wH {b:Nat}{n:Int}{zero:List D}{a:α}(ha:Enc.enc a=zero)(h:0<=n)(h2:n.toNat*b<=gX):(aU.make b zero).run [i64 n]=some [rL (Zbq n.toNat a)]:=by
 simp only[aU.run];rw[if_pos ⟨h,h2⟩,rL,List.map_replicate,ha,<- Enc.len a,ha]
theorem Nb3 {sz:Nat}{vs:List D}{a:α}(hs:Enc.sz α=sz)(ha:Enc.enc a=vs):(aU.mk sz 1).run vs=some [rL [a]]:=by
 subst hs;subst ha
 have:=Enc.len a;simp[rL,aU.run,chunk,this,List.take_of_length_le (Nat.le_of_eq this)]
theorem Lam {sz b:Nat}{fl:Bool}{xs ys:List α}(hs:Enc.sz α=sz)(hf:fl=true->∀ a:α,(Enc.enc a).all D.isSc=true)(h:(xs.length+ys.length)*b<=gX):(aU.app sz b fl).run [rL xs,rL ys]=some [rL (xs++ys)]:=by
 subst hs
 have cU:(!fl||(xs.map Enc.enc++ys.map Enc.enc).all fun r=>r.all D.isSc)=true:=by
  cases fl with
  |false=>rfl
  | true =>
   rw[Cca,Ccb,<- Ac8,List.all_map,Zb6];exact fun a _=>hf rfl a
 simp only[rL,aU.run,Zbt];rw[if_pos ⟨trivial,trivial,cU,h⟩,<- Ac8]
theorem Ha3 {sz b:Nat}{fl:Bool}{ys:List α}(hs:Enc.sz α=sz)(hf:fl=true->∀ a:α,(Enc.enc a).all D.isSc=true)(h:ys.length*b<=gX):(aU.app sz b fl).run [.rows sz [],rL ys]=some [rL ys]:=by
 have:=Lam (xs:=[]) (ys:=ys) (b:=b) hs hf (by simpa using h);subst hs;exact this
theorem Ba6 {sz:Nat}{fl:Bool}{xs:List α}{lo hi:Int}(hs:Enc.sz α=sz)(hf:fl=true->∀ a:α,(Enc.enc a).all D.isSc=true)(h0:0<=lo)(h1:lo<=hi)(h2:hi<=xs.length):(aU.sub sz fl).run [rL xs,i64 lo,i64 hi]=some [rL ((xs.take hi.toNat).drop lo.toNat)]:=by
 subst hs
 have cU:(!fl||(xs.map Enc.enc).all fun r=>r.all D.isSc)=true:=by
  cases fl with
  |false=>rfl
  | true =>
   rw[Cca,Ccb,List.all_map,Zb6];exact fun a _=>hf rfl a
 simp only[rL,aU.run,Zbt];rw[if_pos ⟨trivial,cU,h0,h1,h2⟩,<- List.map_take,<- List.map_drop]
theorem Nb5 {xs:List α}:aU.emp.run [rL xs]=some [.bool xs.isEmpty]:=by simp[rL,aU.run]
theorem Sbc {x:α}{xs:List α}:aU.ne.run [rL (x::xs)]=some []:=by simp[rL,aU.run]
class Fits (α:Type) [Enc α] (m:Nat):Prop where
 fits:∀ a:α,(Enc.enc a).all (oZ m)=true
theorem Nb6 {m:Nat}[Fits α m]{xs:List α}:(aU.dep (m+1)).run [rL xs]=some []:=by
 have:oZ (m+1) (rL xs)=true:=by
  unfold rL;simp only[oZ,List.all_map,Zb6];intro a _;exact Fits.fits a
 simp only[aU.run,this,if_true]
end
instance {m:Nat}:Fits Int m:=⟨fun a=>by cases m<;>rfl⟩
instance {m:Nat}:Fits Bool m:=⟨fun a=>by cases m<;>rfl⟩
instance {m:Nat}:Fits (List UInt8) m:=⟨fun a=>by cases m<;>rfl⟩
theorem xE {α:Type}[Enc α]{m:Nat}[Fits α m](xs:List α):oZ (m+1) (rL xs)=true:=by
 unfold rL;simp only[oZ,List.all_map,Zb6];intro a _;exact Fits.fits a
instance {α:Type} [Enc α] {m:Nat} [Fits α m]:Fits (List α) (m+1):=⟨fun xs=>by
 show [rL xs].all (oZ (m+1))=true
 simp[xE]⟩
theorem Fbq {a b:Int}:aU.min.run [i64 a,i64 b]=some [i64 (min a b)]:=by
 simp only[aU.run,Na1,Oba,if_true,Zbj,Acm];congr 3;by_cases h:b<a
 ·rw[if_pos (by simpa using h)];omega
 ·rw[if_neg (by simpa using h)];omega
theorem Fbs {a b:Int}:aU.max.run [i64 a,i64 b]=some [i64 (max a b)]:=by
 simp only[aU.run,Na1,Oba,if_true,Zbj,Acm];congr 3;by_cases h:b>a
 ·rw[if_pos (by simpa using h)];omega
 ·rw[if_neg (by simpa using h)];omega
theorem Ua1 {a b:Int}(h1:-9223372036854775808<=a*b)(h2:a*b<=9223372036854775807):(aU.bin .mul).run [i64 a,i64 b]=some [i64 (a*b)]:=by simp[aU.run,Oat,Aat,wrap_i64 h1 h2]
theorem Wap {a b:Int}(ha:-9223372036854775808<=a)(ha':a<=9223372036854775807)(hb:0<b):-9223372036854775808<=a.tdiv b/\a.tdiv b<=9223372036854775807:=by
 rcases Int.le_total 0 a with h|h
 ·have h1:=Int.tdiv_nonneg h (Int.le_of_lt hb)
  have h2:=Int.tdiv_le_self b h;omega
 ·have h1:(-a).tdiv b=-(a.tdiv b):=Int.neg_tdiv ..
  have h2:=Int.tdiv_nonneg (show 0<=-a by omega) (Int.le_of_lt hb);have h3:=Int.tdiv_le_self b (show 0<=-a by omega);omega
theorem Fbp {a b:Int}(ha:0<=a)(ha':a<=9223372036854775807)(hb:0<b):(aU.bin .quo).run [i64 a,i64 b]=some [i64 (a / b)]:=by
 have h:=Wap (by omega) ha' hb;have di:¬ b=0:=by omega
 rw[<- Int.tdiv_eq_ediv_of_nonneg ha];simp only[aU.run,Oat,Aat,if_true,if_neg di,Acm,wrap_i64 h.1 h.2]
theorem Fbo {a b:Int}(ha:0<=a)(hb:0<b):(aU.bin .rem).run [i64 a,i64 b]=some [i64 (a % b)]:=by
 have di:¬ b=0:=by omega
 simp only[aU.run,Oat,Aat,if_true,if_neg di,Acm,Int.tmod_eq_emod_of_nonneg ha]
theorem Rac:∀ xs ys:List Int,xs.length=ys.length->Ra6 (Zbq xs.length 0) (xs.map i64) (ys.map i64)=some (decide (xs=ys))
 |[],[],_=>rfl
 | x :: xs, y :: ys, h => by
  have ih:=Rac xs ys (by simpa using h);simp only[Zbs,List.replicate_succ,Zb5,Ra6,eqD,if_true,Zbj,ih,List.cons.injEq,Bool.decide_and];by_cases e:x=y
  ·simp[e]
  ·simp[e]
theorem Gbo {p:Prop}[Decidable p](xs ys:List Int)(h:xs.length=ys.length)(hp:p↔xs=ys):(Ra6 (Zbq xs.length 0) (xs.map i64) (ys.map i64)).map (fun b=>[D.bool b])=some [.bool (decide p)]:=by
 rw[Rac xs ys h,Acm,decide_eq_decide.2 hp]
theorem Obn (i:Nat):((i+1:Nat):Int)=(i:Int)+1:=rfl
theorem SA:(∀ {T β} (k:Kind) (xs:List aL) (e:β) (ρ:List D),Er T (.leaf k xs e) ρ=some (k,vals ρ xs)) /\
  (∀ {T} {β:Type} (p:aU) (xs:List aL) (n:Nat) (k:Tm β) (ρ:List D),Er T (.lt none p xs n k) ρ=stepT T k ρ n (p.run (vals ρ xs))) /\
  (∀ {T} {β:Type} (f:Nat) (xs:List aL) (n:Nat) (os:List aL) (k:Tm β) (ρ:List D),Er T (.call none f xs n os k) ρ=stepT T k ρ n (Fun T f (vals ρ xs))) /\
  (∀ {T} {β:Type} (c:aL) (t e:Tm β) (ρ:List D),Er T (.ite c t e) ρ=Sad (Er T t ρ) (Er T e ρ) (Wal ρ c)) /\
  (∀ {T} {β:Type} (i:Nat) (t k:Tm β) (ρ:List D),Er T (.bind i t k) ρ=nK T i k ρ (Er T t ρ)) /\
  (∀ {T} {β:Type} (a:aL) (w:Bool) (p:aU) (xs:List aL) (n:Nat) (k:Tm β) (ρ:List D),
   Er T (.lt (some (a,w)) p xs n k) ρ=Aaz w (stepT T k ρ n (p.run (vals ρ xs))) (Er T k (ρ++Zbq n .undef)) (Wal ρ a)) /\
  (∀ {T} {β:Type} (a:aL) (w:Bool) (f:Nat) (xs:List aL) (n:Nat) (os:List aL) (k:Tm β) (ρ:List D),
   Er T (.call (some (a,w)) f xs n os k) ρ=Aaz w (stepT T k ρ n (Fun T f (vals ρ xs))) (Er T k (ρ++(Zbq (n-os.length) .undef++vals ρ os))) (Wal ρ a)) :=
 ⟨Kb0,Sbv,Kb1,Ob2,Kb2,Ob1,Hbx⟩
theorem SB:(tick=Vbw)/\(∀ {γ:Type} {c:Bool} {a b:γ},jD (!c) a b=jD c b a)/\(∀ {a b:Option (Kind×List D)} {c:Bool},Aaz true a b (.bool c)=jD c a b)/\(∀ {a b:Option (Kind×List D)} {c:Bool},Aaz false a b (.bool c)=jD c b a) /\
  (∀ {w:Bool} {a b:Option (Kind×List D)},Aaz w a b .undef=b)/\(∀ {γ:Type} {a b:Option γ} {c:Bool},Sad a b (.bool c)=jD c a b) /\
  (∀ {T} {β:Type} {i:Nat} {k:Tm β} {ρ:List D} {c:Bool} {a b:Option (Kind×List D)},nK T i k ρ (jD c a b)=jD c (nK T i k ρ a) (nK T i k ρ b)) /\
  (∀ {T} {β:Type} {i j:Nat} {k:Tm β} {ρ ds:List D},nK T i k ρ (some (.yield j,ds))=if j=i then Er T k (ρ++ds) else some (.yield j,ds)) /\
  (∀ {T} {β:Type} {i:Nat} {k:Tm β} {ρ ds:List D},nK T i k ρ (some (.ret,ds))=some (.ret,ds))/\(∀ {T} {β:Type} {i:Nat} {k:Tm β} {ρ ds:List D},nK T i k ρ (some (.cont,ds))=some (.cont,ds)) /\
  (∀ {c:Bool} {a b:Option (Kind×List D)},fin (jD c a b)=jD c (fin a) (fin b))/\(∀ {ds:List D},fin (some (.ret,ds))=some ds) /\
  (∀ {γ:Type} {a b:γ},jD true a b=a)/\(∀ {γ:Type} {a b:γ},jD false a b=b) :=
 ⟨rfl,by intro γ c a b;cases c<;>rfl,Jb7,Jb8,Jb6,Ib0,Wan,Sac,Ya0,Wao,Gbl,Kbc,Xa4,Tan⟩
theorem SC:(∀ {a:D} {r:List D},nth (a::r) 0=a)/\(∀ {a:D} {r:List D} {n:Nat},nth (a::r) (n+1)=nth r n) /\
  (∀ {ρ:List D},vals ρ []=[])/\(∀ {ρ:List D} {i:Nat} {r:List aL},vals ρ (.v i::r)=nth ρ i::vals ρ r)/\(∀ {ρ:List D} {d:D} {r:List aL},vals ρ (.c d::r)=d::vals ρ r) /\
  (∀ {ρ:List D} {i:Nat},Wal ρ (.v i)=nth ρ i)/\(∀ {ρ:List D} {d:D},Wal ρ (.c d)=d) /\
  (∀ {ρ:List D},ρ++[]=ρ)/\(∀ {a:D} {r s:List D},(a::r)++s=a::(r++s))/\(∀ {s:List D},[]++s=s) /\
  (∀ {T} {β:Type} {k:Tm β} {ρ ds:List D} {n:Nat},stepT T k ρ n (some ds)=if ds.length=n then Er T k (ρ++ds) else none) /\
  (∀ {α:Type} {a:α} {l:List α},(a::l).length=l.length+1)/\(∀ {α:Type},([]:List α).length=0)/\(∀ {α:Type} {x:α} {n:Nat},Zbq (n+1) x=x::Zbq n x)/\(∀ {α:Type} {x:α},Zbq 0 x=[]) :=
 ⟨Sbf,Sbe,Lbe,Lbd,Lbf,Lbg,Lbh,Sbp,Sbq,Sbr,Ib4,Zbs,List.length_nil,List.replicate_succ,List.replicate_zero⟩
theorem SP:(∀ {a b:Int},(aU.bin .lss).run [i64 a,i64 b]=some [.bool (decide (a<b))])/\(∀ {a b:Int},(aU.bin .gtr).run [i64 a,i64 b]=some [.bool (decide (b<a))]) /\
  (∀ {a b:Int},(aU.bin .leq).run [i64 a,i64 b]=some [.bool (decide (a<=b))])/\(∀ {a b:Int},(aU.bin .geq).run [i64 a,i64 b]=some [.bool (decide (b<=a))]) /\
  (∀ {a b:Int},(aU.bin .neq).run [i64 a,i64 b]=some [.bool (!(a==b))])/\(∀ {a b:Int},(aU.bin .eql).run [i64 a,i64 b]=some [.bool (a==b)]) /\
  (∀ {b:Bool},aU.not.run [.bool b]=some [.bool (!b)])/\(∀ {c:Bool} {a b:D},aU.pick.run [.bool c,a,b]=some [jD c a b])/\(∀ {a b:Bool},(aU.eqb true).run [.bool a,.bool b]=some [.bool (!(a==b))])/\(∀ {a b:Bool},(aU.eqb false).run [.bool a,.bool b]=some [.bool (a==b)]) /\
  (∀ {d:D},aU.id.run [d]=some [d])/\(∀ {α:Type} [Enc α] {xs:List α},aU.len.run [rL xs]=some [i64 xs.length]) /\
  (∀ {α:Type} [Enc α] {xs:List α} {k:Int},InB xs k->aU.inb.run [rL xs,i64 k]=some []) /\
  (∀ {a b:Int},aU.min.run [i64 a,i64 b]=some [i64 (min a b)])/\(∀ {a b:Int},aU.max.run [i64 a,i64 b]=some [i64 (max a b)]) /\
  (∀ {α:Type} [Enc α] {m:Nat} [Fits α m] {xs:List α},(aU.dep (m+1)).run [rL xs]=some []) :=
 ⟨Jba,Jbc,Jbb,Jbd,Ib9,Jbe,Ib8,by intro c a b;cases c<;>rfl,Jbf,rfl,Nb0,Nb4,Iba,Fbq,Fbs,Nb6⟩
set_option maxRecDepth 4000
structure Baa where
 kind:Int
 id:Int
 src:Int
 dst:Int
 amt:Int
 deriving DecidableEq
instance:Inhabited Baa:=⟨⟨0,0,0,0,0⟩⟩
instance:Enc Baa:=⟨5,fun x=>[i64 x.kind,i64 x.id,i64 x.src,i64 x.dst,i64 x.amt],fun _=>rfl⟩
instance {m:Nat}:Fits Baa m:=⟨fun x=>by cases m<;>rfl⟩
structure fP where
 seq:Int
 deps:(List Int)
 deriving DecidableEq
instance:Inhabited fP:=⟨⟨0,[]⟩⟩
instance:Enc fP:=⟨2,fun x=>[i64 x.seq,rL x.deps],fun _=>rfl⟩
theorem Bbt (x:fP):Enc.enc x=[i64 x.seq,rL x.deps]:=rfl
instance {m:Nat}:Fits fP (m+1):=⟨fun x=>by
 rw[Bbt];simp only[Bct,Ccm,Bcu,Zbd];refine⟨?_,?_⟩
 all_goals first|rfl|exact xE _⟩
structure bR where
 ballot:Int
 vote:Int
 state:Int
 cmd:Baa
 attr:fP
 deriving DecidableEq
instance:Inhabited bR:=⟨⟨0,0,0,default,default⟩⟩
instance:Enc bR:=⟨10,fun x=>[i64 x.ballot,i64 x.vote,i64 x.state,i64 x.cmd.kind,i64 x.cmd.id,i64 x.cmd.src,i64 x.cmd.dst,i64 x.cmd.amt,i64 x.attr.seq,rL x.attr.deps],fun _=>rfl⟩
theorem Gbs (x:bR):Enc.enc x=[i64 x.ballot,i64 x.vote,i64 x.state,i64 x.cmd.kind,i64 x.cmd.id,i64 x.cmd.src,i64 x.cmd.dst,i64 x.cmd.amt,i64 x.attr.seq,rL x.attr.deps]:=rfl
instance {m:Nat}:Fits bR (m+1):=⟨fun x=>by
 rw[Gbs];simp only[Bct,Ccm,Bcu,Zbd];refine⟨?_,?_,?_,?_,?_,?_,?_,?_,?_,?_⟩
 all_goals first|rfl|exact xE _⟩
structure aM where
 n:Int
 rows:(List (List bR))
 deriving DecidableEq
instance:Inhabited aM:=⟨⟨0,[]⟩⟩
instance:Enc aM:=⟨2,fun x=>[i64 x.n,rL x.rows],fun _=>rfl⟩
theorem Yac (x:aM):Enc.enc x=[i64 x.n,rL x.rows]:=rfl
instance {m:Nat}:Fits aM (m+3):=⟨fun x=>by
 rw[Yac];simp only[Bct,Ccm,Bcu,Zbd];refine⟨?_,?_⟩
 all_goals first|rfl|exact xE _⟩
structure gY where
 rep:Int
 no:Int
 ballot:Int
 phase:Int
 cmd:Baa
 first:fP
 attr:fP
 same:Bool
 who:(List Int)
 seen:(List bR)
 deriving DecidableEq
instance:Inhabited gY:=⟨⟨0,0,0,0,default,default,default,false,[],[]⟩⟩
instance:Enc gY:=⟨16,fun x=>[i64 x.rep,i64 x.no,i64 x.ballot,i64 x.phase,i64 x.cmd.kind,i64 x.cmd.id,i64 x.cmd.src,i64 x.cmd.dst,i64 x.cmd.amt,i64 x.first.seq,rL x.first.deps,i64 x.attr.seq,rL x.attr.deps,.bool x.same,rL x.who,rL x.seen],fun _=>rfl⟩
theorem Bbs (x:gY):Enc.enc x=[i64 x.rep,i64 x.no,i64 x.ballot,i64 x.phase,i64 x.cmd.kind,i64 x.cmd.id,i64 x.cmd.src,i64 x.cmd.dst,i64 x.cmd.amt,i64 x.first.seq,rL x.first.deps,i64 x.attr.seq,rL x.attr.deps,.bool x.same,rL x.who,rL x.seen]:=rfl
instance {m:Nat}:Fits gY (m+2):=⟨fun x=>by
 rw[Bbs];simp only[Bct,Ccm,Bcu,Zbd];refine⟨?_,?_,?_,?_,?_,?_,?_,?_,?_,?_,?_,?_,?_,?_,?_,?_⟩
 all_goals first|rfl|exact xE _⟩
structure nY where
 me:Int
 table:aM
 leads:(List gY)
 deriving DecidableEq
instance:Inhabited nY:=⟨⟨0,default,[]⟩⟩
instance:Enc nY:=⟨4,fun x=>[i64 x.me,i64 x.table.n,rL x.table.rows,rL x.leads],fun _=>rfl⟩
theorem Gbt (x:nY):Enc.enc x=[i64 x.me,i64 x.table.n,rL x.table.rows,rL x.leads]:=rfl
instance {m:Nat}:Fits nY (m+3):=⟨fun x=>by
 rw[Gbt];simp only[Bct,Ccm,Bcu,Zbd];refine⟨?_,?_,?_,?_⟩
 all_goals first|rfl|exact xE _⟩
structure pO where
 kind:Int
 src:Int
 dst:Int
 rep:Int
 no:Int
 ballot:Int
 vote:Int
 state:Int
 cmd:Baa
 attr:fP
 deriving DecidableEq
instance:Inhabited pO:=⟨⟨0,0,0,0,0,0,0,0,default,default⟩⟩
instance:Enc pO:=⟨15,fun x=>[i64 x.kind,i64 x.src,i64 x.dst,i64 x.rep,i64 x.no,i64 x.ballot,i64 x.vote,i64 x.state,i64 x.cmd.kind,i64 x.cmd.id,i64 x.cmd.src,i64 x.cmd.dst,i64 x.cmd.amt,i64 x.attr.seq,rL x.attr.deps],fun _=>rfl⟩
theorem Gbv (x:pO):Enc.enc x=[i64 x.kind,i64 x.src,i64 x.dst,i64 x.rep,i64 x.no,i64 x.ballot,i64 x.vote,i64 x.state,i64 x.cmd.kind,i64 x.cmd.id,i64 x.cmd.src,i64 x.cmd.dst,i64 x.cmd.amt,i64 x.attr.seq,rL x.attr.deps]:=rfl
instance {m:Nat}:Fits pO (m+1):=⟨fun x=>by
 rw[Gbv];simp only[Bct,Ccm,Bcu,Zbd];refine⟨?_,?_,?_,?_,?_,?_,?_,?_,?_,?_,?_,?_,?_,?_,?_⟩
 all_goals first|rfl|exact xE _⟩
structure dD where
 rep:Int
 no:Int
 cmd:Baa
 deriving DecidableEq
instance:Inhabited dD:=⟨⟨0,0,default⟩⟩
instance:Enc dD:=⟨7,fun x=>[i64 x.rep,i64 x.no,i64 x.cmd.kind,i64 x.cmd.id,i64 x.cmd.src,i64 x.cmd.dst,i64 x.cmd.amt],fun _=>rfl⟩
instance {m:Nat}:Fits dD m:=⟨fun x=>by cases m<;>rfl⟩
structure Aa9 where
 reps:(List nY)
 bag:(List pO)
 asked:(List dD)
 deriving DecidableEq
instance:Inhabited Aa9:=⟨⟨[],[],[]⟩⟩
instance:Enc Aa9:=⟨3,fun x=>[rL x.reps,rL x.bag,rL x.asked],fun _=>rfl⟩
theorem Gbu (x:Aa9):Enc.enc x=[rL x.reps,rL x.bag,rL x.asked]:=rfl
instance {m:Nat}:Fits Aa9 (m+4):=⟨fun x=>by
 rw[Gbu];simp only[Bct,Ccm,Bcu,Zbd];refine⟨?_,?_,?_⟩
 all_goals first|rfl|exact xE _⟩
theorem Obp:(∀ x:Baa,Baa.mk x.kind x.id x.src x.dst x.amt=x) /\
  (∀ x:fP,fP.mk x.seq x.deps=x) /\
  (∀ x:bR,bR.mk x.ballot x.vote x.state x.cmd x.attr=x) /\
  (∀ x:aM,aM.mk x.n x.rows=x) /\
  (∀ x:gY,gY.mk x.rep x.no x.ballot x.phase x.cmd x.first x.attr x.same x.who x.seen=x) /\
  (∀ x:nY,nY.mk x.me x.table x.leads=x) /\
  (∀ x:pO,pO.mk x.kind x.src x.dst x.rep x.no x.ballot x.vote x.state x.cmd x.attr=x) /\
  (∀ x:dD,dD.mk x.rep x.no x.cmd=x) /\
  (∀ x:Aa9,Aa9.mk x.reps x.bag x.asked=x) :=
 ⟨fun _=>rfl,
  fun _=>rfl,
  fun _=>rfl,
  fun _=>rfl,
  fun _=>rfl,
  fun _=>rfl,
  fun _=>rfl,
  fun _=>rfl,
  fun _=>rfl⟩
theorem aJ:(∀ {xs:List Int} {k:Int},InB xs k->(aU.row 1 0 [true]).run [rL xs,i64 k]=some [i64 (atI xs k)]) /\
  (∀ {xs:List (List UInt8)} {k:Int},InB xs k->(aU.row 1 0 [true]).run [rL xs,i64 k]=some [.str (atI xs k)]) /\
  (∀ {xs:List (List Int)} {k:Int},InB xs k->(aU.row 1 0 [false]).run [rL xs,i64 k]=some [rL (atI xs k)]) /\
  (∀ {xs:List (List bR)} {k:Int},InB xs k->(aU.row 1 0 [false]).run [rL xs,i64 k]=some [rL (atI xs k)]) /\
  (∀ {xs:List (List (List Int))} {k:Int},InB xs k->(aU.row 1 0 [false]).run [rL xs,i64 k]=some [rL (atI xs k)]) /\
  (∀ {xs:List bR} {k:Int},InB xs k->(aU.row 10 0 [true,true,true,true,true,true,true,true,true,false]).run [rL xs,i64 k]=some [i64 (atI xs k).ballot,i64 (atI xs k).vote,i64 (atI xs k).state,i64 (atI xs k).cmd.kind,i64 (atI xs k).cmd.id,i64 (atI xs k).cmd.src,i64 (atI xs k).cmd.dst,i64 (atI xs k).cmd.amt,i64 (atI xs k).attr.seq,rL (atI xs k).attr.deps]) /\
  (∀ {xs:List gY} {k:Int},InB xs k->(aU.row 16 0 [true,true,true,true,true,true,true,true,true,true,false,true,false,true,false,false]).run [rL xs,i64 k]=some [i64 (atI xs k).rep,i64 (atI xs k).no,i64 (atI xs k).ballot,i64 (atI xs k).phase,i64 (atI xs k).cmd.kind,i64 (atI xs k).cmd.id,i64 (atI xs k).cmd.src,i64 (atI xs k).cmd.dst,i64 (atI xs k).cmd.amt,i64 (atI xs k).first.seq,rL (atI xs k).first.deps,i64 (atI xs k).attr.seq,rL (atI xs k).attr.deps,.bool (atI xs k).same,rL (atI xs k).who,rL (atI xs k).seen]) /\
  (∀ {xs:List gY} {k:Int},InB xs k->(aU.row 16 0 [true]).run [rL xs,i64 k]=some [i64 (atI xs k).rep]) /\
  (∀ {xs:List gY} {k:Int},InB xs k->(aU.row 16 1 [true]).run [rL xs,i64 k]=some [i64 (atI xs k).no]) /\
  (∀ {xs:List nY} {k:Int},InB xs k->(aU.row 4 0 [true,true,false,false]).run [rL xs,i64 k]=some [i64 (atI xs k).me,i64 (atI xs k).table.n,rL (atI xs k).table.rows,rL (atI xs k).leads]) /\
  (∀ {xs:List pO} {k:Int},InB xs k->(aU.row 15 0 [true,true,true,true,true,true,true,true,true,true,true,true,true,true,false]).run [rL xs,i64 k]=some [i64 (atI xs k).kind,i64 (atI xs k).src,i64 (atI xs k).dst,i64 (atI xs k).rep,i64 (atI xs k).no,i64 (atI xs k).ballot,i64 (atI xs k).vote,i64 (atI xs k).state,i64 (atI xs k).cmd.kind,i64 (atI xs k).cmd.id,i64 (atI xs k).cmd.src,i64 (atI xs k).cmd.dst,i64 (atI xs k).cmd.amt,i64 (atI xs k).attr.seq,rL (atI xs k).attr.deps]) /\
  (∀ {xs:List dD} {k:Int},InB xs k->(aU.row 7 0 [true,true,true,true,true,true,true]).run [rL xs,i64 k]=some [i64 (atI xs k).rep,i64 (atI xs k).no,i64 (atI xs k).cmd.kind,i64 (atI xs k).cmd.id,i64 (atI xs k).cmd.src,i64 (atI xs k).cmd.dst,i64 (atI xs k).cmd.amt]) :=
 ⟨fun h=>(rV rfl h),
  fun h=>(rV rfl h),
  fun h=>(rV rfl h),
  fun h=>(rV rfl h),
  fun h=>(rV rfl h),
  fun h=>(rV rfl h),
  fun h=>(rV rfl h),
  fun h=>(rV rfl h),
  fun h=>(rV rfl h),
  fun h=>(rV rfl h),
  fun h=>(rV rfl h),
  fun h=>(rV rfl h)⟩
theorem Bac:(∀ {xs:List Int} {k:Int} {v:Int},InB xs k->(aU.set 1 0 1).run [rL xs,i64 k,i64 v]=some [rL (iJ xs k v)]) /\
  (∀ {xs:List (List UInt8)} {k:Int} {v:(List UInt8)},InB xs k->(aU.set 1 0 1).run [rL xs,i64 k,.str v]=some [rL (iJ xs k v)]) /\
  (∀ {xs:List (List Int)} {k:Int} {v:(List Int)},InB xs k->(aU.set 1 0 1).run [rL xs,i64 k,rL v]=some [rL (iJ xs k v)]) /\
  (∀ {xs:List (List bR)} {k:Int} {v:(List bR)},InB xs k->(aU.set 1 0 1).run [rL xs,i64 k,rL v]=some [rL (iJ xs k v)]) /\
  (∀ {xs:List (List (List Int))} {k:Int} {v:(List (List Int))},InB xs k->(aU.set 1 0 1).run [rL xs,i64 k,rL v]=some [rL (iJ xs k v)]) /\
  (∀ {xs:List bR} {k:Int} {eE jk gz cw dh cF cG cH cQ:Int} {cE:(List Int)},InB xs k->(aU.set 10 0 10).run [rL xs,i64 k,i64 eE,i64 jk,i64 gz,i64 cw,i64 dh,i64 cF,i64 cG,i64 cH,i64 cQ,rL cE]=some [rL (iJ xs k ⟨eE,jk,gz,⟨cw,dh,cF,cG,cH⟩,⟨cQ,cE⟩⟩)]) /\
  (∀ {xs:List gY} {k:Int} {ln pb eE qo cw dh cF cG cH l7:Int} {kf:(List Int)} {cQ:Int} {cE:(List Int)} {tl:Bool} {xg:(List Int)} {s8:(List bR)},InB xs k->(aU.set 16 0 16).run [rL xs,i64 k,i64 ln,i64 pb,i64 eE,i64 qo,i64 cw,i64 dh,i64 cF,i64 cG,i64 cH,i64 l7,rL kf,i64 cQ,rL cE,.bool tl,rL xg,rL s8]=some [rL (iJ xs k ⟨ln,pb,eE,qo,⟨cw,dh,cF,cG,cH⟩,⟨l7,kf⟩,⟨cQ,cE⟩,tl,xg,s8⟩)]) /\
  (∀ {xs:List nY} {k:Int} {a3j n5:Int} {ku:(List (List bR))} {rj:(List gY)},InB xs k->(aU.set 4 0 4).run [rL xs,i64 k,i64 a3j,i64 n5,rL ku,rL rj]=some [rL (iJ xs k ⟨a3j,⟨n5,ku⟩,rj⟩)]) /\
  (∀ {xs:List pO} {k:Int} {sB ye ym ln pb eE jk gz cw dh cF cG cH cQ:Int} {cE:(List Int)},InB xs k->(aU.set 15 0 15).run [rL xs,i64 k,i64 sB,i64 ye,i64 ym,i64 ln,i64 pb,i64 eE,i64 jk,i64 gz,i64 cw,i64 dh,i64 cF,i64 cG,i64 cH,i64 cQ,rL cE]=some [rL (iJ xs k ⟨sB,ye,ym,ln,pb,eE,jk,gz,⟨cw,dh,cF,cG,cH⟩,⟨cQ,cE⟩⟩)]) /\
  (∀ {xs:List dD} {k:Int} {ln pb cw dh cF cG cH:Int},InB xs k->(aU.set 7 0 7).run [rL xs,i64 k,i64 ln,i64 pb,i64 cw,i64 dh,i64 cF,i64 cG,i64 cH]=some [rL (iJ xs k ⟨ln,pb,⟨cw,dh,cF,cG,cH⟩⟩)]) :=
 ⟨fun h=>(wG rfl rfl (by decide) rfl h),
  fun h=>(wG rfl rfl (by decide) rfl h),
  fun h=>(wG rfl rfl (by decide) rfl h),
  fun h=>(wG rfl rfl (by decide) rfl h),
  fun h=>(wG rfl rfl (by decide) rfl h),
  fun h=>(wG rfl rfl (by decide) rfl h),
  fun h=>(wG rfl rfl (by decide) rfl h),
  fun h=>(wG rfl rfl (by decide) rfl h),
  fun h=>(wG rfl rfl (by decide) rfl h),
  fun h=>(wG rfl rfl (by decide) rfl h)⟩
theorem nT:(∀ {v0:Int},(aU.mk 1 1).run [i64 v0]=some [rL [v0]]) /\
  (∀ {v0 v1:Int},(aU.mk 1 2).run [i64 v0,i64 v1]=some [rL [v0,v1]]) /\
  aU.ne.run []=none /\
  aU.ne.run []=none /\
  aU.ne.run []=none /\
  aU.ne.run []=none /\
  aU.ne.run []=none /\
  aU.ne.run []=none /\
  (∀ {v0:(List UInt8)},(aU.mk 1 1).run [.str v0]=some [rL [v0]]) /\
  (∀ {v0 v1:(List UInt8)},(aU.mk 1 2).run [.str v0,.str v1]=some [rL [v0,v1]]) /\
  aU.ne.run []=none /\
  aU.ne.run []=none /\
  aU.ne.run []=none /\
  aU.ne.run []=none /\
  aU.ne.run []=none /\
  aU.ne.run []=none /\
  (∀ {v0:(List Int)},(aU.mk 1 1).run [rL v0]=some [rL [v0]]) /\
  (∀ {v0:(List bR)},(aU.mk 1 1).run [rL v0]=some [rL [v0]]) /\
  (∀ {v0:(List (List Int))},(aU.mk 1 1).run [rL v0]=some [rL [v0]]) /\
  aU.ne.run []=none /\
  (∀ {eE jk gz cw dh cF cG cH cQ:Int} {cE:(List Int)},(aU.mk 10 1).run [i64 eE,i64 jk,i64 gz,i64 cw,i64 dh,i64 cF,i64 cG,i64 cH,i64 cQ,rL cE]=some [rL [(⟨eE,jk,gz,⟨cw,dh,cF,cG,cH⟩,⟨cQ,cE⟩⟩:bR)]]) :=
 ⟨rfl,
  rfl,
  rfl,
  rfl,
  rfl,
  rfl,
  rfl,
  rfl,
  rfl,
  rfl,
  rfl,
  rfl,
  rfl,
  rfl,
  rfl,
  rfl,
  rfl,
  rfl,
  rfl,
  rfl,
  (Nb3 rfl rfl)⟩
theorem xU:(∀ {n:Int},0<=n->n<=100000000000->(aU.make 8 [(.int .i64 0)]).run [i64 n]=some [rL (Zbq n.toNat (0:Int))]) /\
  aU.ne.run []=none /\
  aU.ne.run []=none /\
  (∀ {n:Int},0<=n->n<=100000000000->(aU.make 24 [(.rows 10 [])]).run [i64 n]=some [rL (Zbq n.toNat ([]:(List bR)))]) /\
  aU.ne.run []=none /\
  aU.ne.run []=none /\
  (∀ {n:Int},0<=n->n<=100000000000->(aU.make 96 [(.int .i64 0),(.int .i64 0),(.int .i64 0),(.int .i64 0),(.int .i64 0),(.int .i64 0),(.int .i64 0),(.int .i64 0),(.int .i64 0),(.rows 1 [])]).run [i64 n]=some [rL (Zbq n.toNat (default:bR))]) /\
  aU.ne.run []=none /\
  (∀ {n:Int},0<=n->n<=100000000000->(aU.make 192 [(.int .i64 0),(.int .i64 0),(.int .i64 0),(.int .i64 0),(.int .i64 0),(.int .i64 0),(.int .i64 0),(.int .i64 0),(.int .i64 0),(.int .i64 0),(.rows 1 []),(.int .i64 0),(.rows 1 []),(.bool false),(.rows 1 []),(.rows 10 [])]).run [i64 n]=some [rL (Zbq n.toNat (default:gY))]) /\
  (∀ {n:Int},0<=n->n<=100000000000->(aU.make 64 [(.int .i64 0),(.int .i64 0),(.rows 1 []),(.rows 16 [])]).run [i64 n]=some [rL (Zbq n.toNat (default:nY))]) /\
  (∀ {n:Int},0<=n->n<=100000000000->(aU.make 136 [(.int .i64 0),(.int .i64 0),(.int .i64 0),(.int .i64 0),(.int .i64 0),(.int .i64 0),(.int .i64 0),(.int .i64 0),(.int .i64 0),(.int .i64 0),(.int .i64 0),(.int .i64 0),(.int .i64 0),(.int .i64 0),(.rows 1 [])]).run [i64 n]=some [rL (Zbq n.toNat (default:pO))]) /\
  (∀ {n:Int},0<=n->n<=100000000000->(aU.make 56 [(.int .i64 0),(.int .i64 0),(.int .i64 0),(.int .i64 0),(.int .i64 0),(.int .i64 0),(.int .i64 0)]).run [i64 n]=some [rL (Zbq n.toNat (default:dD))]) :=
 ⟨fun h h2=>(wH rfl h (by unfold gX;omega)),
  rfl,
  rfl,
  fun h h2=>(wH rfl h (by unfold gX;omega)),
  rfl,
  rfl,
  fun h h2=>(wH rfl h (by unfold gX;omega)),
  rfl,
  fun h h2=>(wH rfl h (by unfold gX;omega)),
  fun h h2=>(wH rfl h (by unfold gX;omega)),
  fun h h2=>(wH rfl h (by unfold gX;omega)),
  fun h h2=>(wH rfl h (by unfold gX;omega))⟩
theorem gW:(∀ {xs ys:List Int},xs.length+ys.length<=100000000000->(aU.app 1 8 true).run [rL xs,rL ys]=some [rL (xs++ys)]) /\
  (∀ {ys:List Int},ys.length<=100000000000->(aU.app 1 8 true).run [.rows 1 [],rL ys]=some [rL ys]) /\
  (∀ {xs ys:List (List Int)},xs.length+ys.length<=100000000000->(aU.app 1 24 false).run [rL xs,rL ys]=some [rL (xs++ys)]) /\
  (∀ {ys:List (List Int)},ys.length<=100000000000->(aU.app 1 24 false).run [.rows 1 [],rL ys]=some [rL ys]) /\
  (∀ {xs ys:List (List bR)},xs.length+ys.length<=100000000000->(aU.app 1 24 false).run [rL xs,rL ys]=some [rL (xs++ys)]) /\
  (∀ {ys:List (List bR)},ys.length<=100000000000->(aU.app 1 24 false).run [.rows 1 [],rL ys]=some [rL ys]) /\
  (∀ {xs ys:List (List (List Int))},xs.length+ys.length<=100000000000->(aU.app 1 24 false).run [rL xs,rL ys]=some [rL (xs++ys)]) /\
  (∀ {ys:List (List (List Int))},ys.length<=100000000000->(aU.app 1 24 false).run [.rows 1 [],rL ys]=some [rL ys]) /\
  (∀ {xs ys:List bR},xs.length+ys.length<=100000000000->(aU.app 10 96 false).run [rL xs,rL ys]=some [rL (xs++ys)]) /\
  (∀ {ys:List bR},ys.length<=100000000000->(aU.app 10 96 false).run [.rows 10 [],rL ys]=some [rL ys]) :=
 ⟨fun h=>(Lam rfl (fun _ _=>rfl) (by unfold gX;omega)),
  fun h=>(Ha3 rfl (fun _ _=>rfl) (by unfold gX;omega)),
  fun h=>(Lam rfl (fun h=>by cases h) (by unfold gX;omega)),
  fun h=>(Ha3 rfl (fun h=>by cases h) (by unfold gX;omega)),
  fun h=>(Lam rfl (fun h=>by cases h) (by unfold gX;omega)),
  fun h=>(Ha3 rfl (fun h=>by cases h) (by unfold gX;omega)),
  fun h=>(Lam rfl (fun h=>by cases h) (by unfold gX;omega)),
  fun h=>(Ha3 rfl (fun h=>by cases h) (by unfold gX;omega)),
  fun h=>(Lam rfl (fun h=>by cases h) (by unfold gX;omega)),
  fun h=>(Ha3 rfl (fun h=>by cases h) (by unfold gX;omega))⟩
theorem vM:(∀ {xs:List Int} {lo hi:Int},0<=lo->lo<=hi->hi<=xs.length->(aU.sub 1 true).run [rL xs,i64 lo,i64 hi]=some [rL ((xs.take hi.toNat).drop lo.toNat)]) /\
  (∀ {xs:List Int} {lo hi:Int},0<=lo->lo<=hi->hi<=xs.length->(aU.sub 1 false).run [rL xs,i64 lo,i64 hi]=some [rL ((xs.take hi.toNat).drop lo.toNat)]) /\
  (∀ {xs:List (List UInt8)} {lo hi:Int},0<=lo->lo<=hi->hi<=xs.length->(aU.sub 1 true).run [rL xs,i64 lo,i64 hi]=some [rL ((xs.take hi.toNat).drop lo.toNat)]) /\
  (∀ {xs:List (List UInt8)} {lo hi:Int},0<=lo->lo<=hi->hi<=xs.length->(aU.sub 1 false).run [rL xs,i64 lo,i64 hi]=some [rL ((xs.take hi.toNat).drop lo.toNat)]) /\
  (∀ {xs:List (List Int)} {lo hi:Int},0<=lo->lo<=hi->hi<=xs.length->(aU.sub 1 false).run [rL xs,i64 lo,i64 hi]=some [rL ((xs.take hi.toNat).drop lo.toNat)]) /\
  (∀ {xs:List (List bR)} {lo hi:Int},0<=lo->lo<=hi->hi<=xs.length->(aU.sub 1 false).run [rL xs,i64 lo,i64 hi]=some [rL ((xs.take hi.toNat).drop lo.toNat)]) /\
  (∀ {xs:List (List (List Int))} {lo hi:Int},0<=lo->lo<=hi->hi<=xs.length->(aU.sub 1 false).run [rL xs,i64 lo,i64 hi]=some [rL ((xs.take hi.toNat).drop lo.toNat)]) /\
  aU.ne.run []=none /\
  aU.ne.run []=none /\
  aU.ne.run []=none /\
  aU.ne.run []=none /\
  aU.ne.run []=none /\
  (∀ {xs:List nY} {lo hi:Int},0<=lo->lo<=hi->hi<=xs.length->(aU.sub 4 false).run [rL xs,i64 lo,i64 hi]=some [rL ((xs.take hi.toNat).drop lo.toNat)]) /\
  aU.ne.run []=none /\
  aU.ne.run []=none /\
  (∀ {xs:List dD} {lo hi:Int},0<=lo->lo<=hi->hi<=xs.length->(aU.sub 7 false).run [rL xs,i64 lo,i64 hi]=some [rL ((xs.take hi.toNat).drop lo.toNat)]) :=
 ⟨fun h0 h1 h2=>(Ba6 rfl (fun _ _=>rfl) h0 h1 h2),
  fun h0 h1 h2=>(Ba6 rfl (fun h=>by cases h) h0 h1 h2),
  fun h0 h1 h2=>(Ba6 rfl (fun _ _=>rfl) h0 h1 h2),
  fun h0 h1 h2=>(Ba6 rfl (fun h=>by cases h) h0 h1 h2),
  fun h0 h1 h2=>(Ba6 rfl (fun h=>by cases h) h0 h1 h2),
  fun h0 h1 h2=>(Ba6 rfl (fun h=>by cases h) h0 h1 h2),
  fun h0 h1 h2=>(Ba6 rfl (fun h=>by cases h) h0 h1 h2),
  rfl,
  rfl,
  rfl,
  rfl,
  rfl,
  fun h0 h1 h2=>(Ba6 rfl (fun h=>by cases h) h0 h1 h2),
  rfl,
  rfl,
  fun h0 h1 h2=>(Ba6 rfl (fun h=>by cases h) h0 h1 h2)⟩
theorem rD:(∀ {eV j0 gu gq gn ct fk de df dc:Int},(aU.eqs [0,0,0,0,0]).run [i64 eV,i64 j0,i64 gu,i64 gq,i64 gn,i64 ct,i64 fk,i64 de,i64 df,i64 dc]=some [.bool (decide ((⟨eV,j0,gu,gq,gn⟩:Baa)=⟨ct,fk,de,df,dc⟩))]) /\
  aU.ne.run []=none :=
 ⟨(fun {eV j0 gu gq gn ct fk de df dc}=>Gbo [eV,j0,gu,gq,gn] [ct,fk,de,df,dc] rfl (by simp[Baa.mk.injEq])),
  rfl⟩
section
variable {T:Nat->Ent} {β:Type} {α:Type} [Inhabited α]
inductive Rd1 (σ:Type) where
 |go (s:σ)
 |out (r:Kind×List D)
def Aa0 {σ:Type}(f:Nat->α->σ->Rd1 σ):Nat->List α->σ->Rd1 σ
 |_,[],s=>.go s
 | i, x :: xs, s => match f i x s with
  |.go s'=>Aa0 f (i+1) xs s'
  |.out r=>.out r
def Wbn {σ:Type}(vs:Int->σ->List D)(i:Int):Rd1 σ->Kind×List D
 |.go s=>(.cont,vs (i+1) s)
 |.out r=>r
theorem Jbv {σ:Type}{body:Tm β}{ρ:List D}{init:List aL}(xs:List α)(vs:Int->σ->List D)(s0:σ)(f:Nat->α->σ->Rd1 σ)(inv:Nat->σ->Prop)(fin:σ->Kind×List D)
  (h0:init.map (·.val ρ)=vs 0 s0) (hi:inv 0 s0)
  (h1:∀ (i:Nat) s,i<xs.length->inv i s->Er T body (ρ++vs i s)=some (Wbn vs i (f i (atI xs i) s))/\(∀ s',f i (atI xs i) s=.go s'->inv (i+1) s')/\∀ r,f i (atI xs i) s=.out r->r.1≠.cont)
  (h2:∀ s,inv xs.length s->Er T body (ρ++vs xs.length s)=some (fin s)/\(fin s).1≠.cont) :
  ∃ r,Er T (.loop init body) ρ=some r/\((∃ s,Aa0 f 0 xs s0=.go s/\inv xs.length s/\r=fin s)\/Aa0 f 0 xs s0=.out r):=by
 have key:=Taa (T:=T) (body:=body) (ρ:=ρ) (γ:=Nat×σ) (fun c=>xs.length-c.1) (fun c=>c.1<=xs.length/\inv c.1 c.2/\Aa0 f c.1 (xs.drop c.1) c.2=Aa0 f 0 xs s0) (fun c=>vs (c.1:Int) c.2)
  (fun r=>(∃ s,Aa0 f 0 xs s0=.go s/\inv xs.length s/\r=fin s)\/Aa0 f 0 xs s0=.out r)
  (fun ⟨i,s⟩ ⟨hle,hv,hf⟩=>by
   simp only at hle hv hf ⊢
   rcases Zbz i xs.length with hlt|mj
   ·obtain⟨h3,h4,h5⟩:=h1 i s hlt hv
    have hd:xs.drop i=atI xs i::xs.drop (i+1):=by
     rw[List.drop_eq_getElem_cons hlt,bC hlt]
    rw[hd,Aa0]at hf;refine⟨_,h3,?_⟩
    cases e:f i (atI xs i) s with
    | go s' =>
     rw[e]at hf;exact .inl ⟨rfl,(i+1,s'),⟨by simp only;omega,h4 s' e,hf⟩,by simp only;omega,rfl⟩
    | out r =>
     rw[e]at hf;exact .inr ⟨h5 r e,.inr hf.symm⟩
   ·obtain rfl:i=xs.length:=by omega
    obtain⟨h3,h4⟩:=h2 s hv;rw[List.drop_length,Aa0]at hf;exact⟨_,h3,.inr ⟨h4,.inl ⟨s,hf.symm,hv,rfl⟩⟩⟩)
  xs.length (0,s0) (by simp) ⟨by simp,hi,by simp⟩ init h0
 exact key
theorem Haz {body:Tm β}{ρ:List D}(j:Nat)(n:Nat)(p:Nat->Bool)(r:List D)
  (h1:∀ i:Nat,i<n->p i=true->Er T body (ρ++[i64 i])=some (.cont,[i64 ((i:Int)+1)]))
  (h2:∀ i:Nat,i<n->p i=false->Er T body (ρ++[i64 i])=some (.ret,r))
  (h3:Er T body (ρ++[i64 n])=some (.yield j,[])) :
  Er T (.loop [.c (i64 0)] body) ρ=jD (sU p n) (some (.yield j,[])) (some (.ret,r)):=by
 have key:=Taa (T:=T) (body:=body) (ρ:=ρ) (fun i=>n-i) (fun i=>i<=n/\∀ j,j<i->p j=true) (fun i=>[i64 (i:Nat)])
  (fun q=>(∀ j,j<n->p j=true)/\q=(.yield j,[])\/(∃ j,j<n/\p j=false)/\q=(.ret,r))
  (fun i ⟨hi,cU⟩=>by
   rcases Zbz i n with hlt|mj
   ·cases e:p i with
    | true => exact ⟨_, h1 i hlt e, .inl ⟨rfl, i + 1, ⟨by omega, fun j hj => by
      rcases Zbz j i with h|h
      ·exact cU j h
      ·obtain rfl:j=i:=by omega
       exact e⟩,by omega,rfl⟩⟩
    |false=>exact⟨_,h2 i hlt e,.inr ⟨by simp,.inr ⟨⟨i,hlt,e⟩,rfl⟩⟩⟩
   ·obtain rfl:i=n:=by omega
    exact⟨_,h3,.inr ⟨by simp,.inl ⟨cU,rfl⟩⟩⟩)
  n 0 (by omega) ⟨by omega,fun j hj=>by omega⟩ [.c (i64 0)] (by simp[aL.val])
 obtain⟨q,h4,h5⟩:=key;rw[h4]
 rcases h5 with ⟨h6,rfl⟩|⟨h6,rfl⟩
 ·rw[jV.2 h6];rfl
 ·rw[Eaz.2 h6];rfl
theorem Wab (xs:List α)(p:α->Bool):sU (fun i=>p (atI xs i)) xs.length=xs.all p:=by
 cases e:xs.all p with
 | true =>
  rw[Zb6]at e;rw[jV];intro i hi;rw[bC hi];exact e _ (Bco hi)
 | false =>
  rw[List.all_eq_false]at e;obtain⟨x,hx,hp⟩:=e;obtain⟨i,hi,rfl⟩:=List.getElem_of_mem hx;exact Eaz.2 ⟨i,hi,by rw[bC hi];simpa using hp⟩
theorem uQ [DecidableEq α]{xs ys:List α}(hl:xs.length=ys.length):sU (fun i=>decide (atI xs i=atI ys i)) xs.length=decide (xs=ys):=by
 by_cases e:xs=ys
 ·subst e
  rw[decide_eq_true rfl,jV];exact fun i _=>decide_eq_true rfl
 ·rw[decide_eq_false e]
  cases h:sU (fun i=>decide (atI xs i=atI ys i)) xs.length with
  |false=>rfl
  | true =>
   rw[jV]at h;refine absurd (List.ext_getElem hl fun i h1 h2=>?_) e;have:=of_decide_eq_true (h i h1);rwa[bC h1,bC h2]at this
theorem Ca6 {xs ys:List α}[DecidableEq α](h:¬ xs.length=ys.length):decide (xs=ys)=false:=decide_eq_false fun e=>h (by rw[e])
theorem Vbu {body:Tm β}{ρ:List D}(j:Nat)(xs:List α)(p:α->Bool)(r:List D)
  (h1:∀ i:Nat,i<xs.length->InB xs (i:Int)->decide ((i:Int)<xs.length)=true->p (atI xs i)=true->Er T body (ρ++[i64 i])=some (.cont,[i64 ((i:Int)+1)]))
  (h2:∀ i:Nat,i<xs.length->InB xs (i:Int)->decide ((i:Int)<xs.length)=true->p (atI xs i)=false->Er T body (ρ++[i64 i])=some (.ret,r))
  (h3:decide ((xs.length:Int)<xs.length)=false->Er T body (ρ++[i64 xs.length])=some (.yield j,[])) :
  Er T (.loop [.c (i64 0)] body) ρ=jD (xs.all p) (some (.yield j,[])) (some (.ret,r)):=by
 rw[Haz j xs.length (fun i=>p (atI xs i)) r (fun i hi hp=>h1 i hi (aH.2 hi) (by simp;omega) hp) (fun i hi hp=>h2 i hi (aH.2 hi) (by simp;omega) hp) (h3 (by simp)),Wab]
omit [Inhabited α] in
theorem Bau {body:Tm β}{ρ:List D}(j:Nat)(n:Nat)(p:Nat->Bool)(r:List D)
  (h1:∀ i:Nat,i<n->decide ((i:Int)<n)=true->Er T body (ρ++[i64 i])=jD (p i) (some (.cont,[i64 ((i:Int)+1)])) (some (.ret,r)))
  (h3:decide ((n:Int)<n)=false->Er T body (ρ++[i64 n])=some (.yield j,[])) :
  Er T (.loop [.c (i64 0)] body) ρ=jD (sU p n) (some (.yield j,[])) (some (.ret,r)) :=
 Haz j n p r (fun i hi hp=>by rw[h1 i hi (by simp;omega),hp];rfl) (fun i hi hp=>by rw[h1 i hi (by simp;omega),hp];rfl) (h3 (by simp))
theorem Yap {body:Tm β}{ρ:List D}(j:Nat)(xs:List α)(p:α->Bool)(r:List D)
  (h1:∀ i:Nat,i<xs.length->InB xs (i:Int)->decide ((i:Int)<xs.length)=true->atI xs (i:Int)∈xs->Er T body (ρ++[i64 i])=jD (p (atI xs i)) (some (.cont,[i64 ((i:Int)+1)])) (some (.ret,r)))
  (h3:decide ((xs.length:Int)<xs.length)=false->Er T body (ρ++[i64 xs.length])=some (.yield j,[])) :
  Er T (.loop [.c (i64 0)] body) ρ=jD (xs.all p) (some (.yield j,[])) (some (.ret,r)) :=
 Vbu j xs p r (fun i hi hb hl hp=>by rw[h1 i hi hb hl (by rw[bC hi];exact Bco hi),hp];rfl) (fun i hi hb hl hp=>by rw[h1 i hi hb hl (by rw[bC hi];exact Bco hi),hp];rfl) h3
def ixF (p:α->Bool)(xs:List α):Int:=match xs.findIdx? p with
 |some i=>i
 |none=>-1
omit [Inhabited α] in
theorem dF (p:α->Bool)(xs:List α):decide (0<=ixF p xs)=xs.any p:=by
 unfold ixF
 cases h:xs.findIdx? p with
 | none =>
  rw[List.findIdx?_eq_none_iff]at h
  have:xs.any p=false:=by
   rw[List.any_eq_false];exact fun x hx=>by simp[h x hx]
  rw[this];rfl
 | some i =>
  have:xs.any p=true:=by
   rw[List.findIdx?_eq_some_iff_getElem]at h;obtain⟨hi,hp,-⟩:=h;rw[List.any_eq_true];exact⟨_,Bco hi,hp⟩
  rw[this];simp
theorem xG {body:Tm β}{ρ:List D}(j:Nat)(xs:List α)(p:α->Bool)(rf:Int->List D)
  (h1:∀ i:Nat,i<xs.length->InB xs (i:Int)->decide ((i:Int)<xs.length)=true->p (atI xs i)=true->Er T body (ρ++[i64 i])=some (.ret,rf i))
  (h2:∀ i:Nat,i<xs.length->InB xs (i:Int)->decide ((i:Int)<xs.length)=true->p (atI xs i)=false->Er T body (ρ++[i64 i])=some (.cont,[i64 ((i:Int)+1)]))
  (h3:decide ((xs.length:Int)<xs.length)=false->Er T body (ρ++[i64 xs.length])=some (.yield j,[])) :
  Er T (.loop [.c (i64 0)] body) ρ=jD (xs.any p) (some (.ret,rf (ixF p xs))) (some (.yield j,[])):=by
 have cU:∀ (i:Nat) (ys:List α),Aa0 (fun (i:Nat) x (_:Unit)=>if p x then Rd1.out (.ret,rf i) else .go ()) i ys ()=match ys.findIdx? p with|some k=>.out (.ret,rf ((i+k:Nat):Int))|none=>.go ():=by
  intro i ys
  induction ys generalizing i with
  |nil=>rfl
  | cons y ys ih =>
   rw[Aa0,List.findIdx?_cons]
   cases p y with
   |true=>simp
   | false =>
    simp only[Zbg,if_false];rw[ih (i+1)]
    cases ys.findIdx? p with
    |none=>rfl
    |some k=>simp only[Acm];congr 4;omega
 obtain⟨q,h4,h5⟩:=Jbv (T:=T) (body:=body) (ρ:=ρ) (init:=[.c (i64 0)]) xs (fun i (_:Unit)=>[i64 i]) () (fun i x _=>if p x then .out (.ret,rf i) else .go ()) (fun _ _=>True) (fun _=>(.yield j,[])) rfl trivial
  (fun i _ hi _=>by
   cases e:p (atI xs i) with
   |true=>exact⟨by rw[h1 i hi (aH.2 hi) (by simp;omega) e];rfl,fun _ _=>trivial,fun r h=>by simp at h;rw[<- h];simp⟩
   |false=>exact⟨by rw[h2 i hi (aH.2 hi) (by simp;omega) e];rfl,fun _ _=>trivial,fun r h=>by simp at h⟩)
  (fun _ _=>⟨h3 (by simp),by simp⟩)
 rw[h4,<- dF];rw[cU]at h5;unfold ixF
 cases e:xs.findIdx? p with
 | none =>
  rw[e]at h5
  rcases h5 with ⟨s,-,-,rfl⟩|h5
  ·rfl
  ·simp at h5
 | some k =>
  rw[e]at h5
  rcases h5 with ⟨s,h5,-⟩|h5
  ·simp at h5
  ·simp only[Nat.zero_add,Rd1.out.injEq]at h5
   rw[<- h5];simp[jD]
theorem at_mem {xs:List α}{i:Nat}(h:i<xs.length):atI xs (i:Int)∈xs:=by rw[bC h];exact Bco h
omit [Inhabited α] in
theorem jN {body:Tm β}{ρ:List D}{init:List aL}(n:Nat)(vs:Nat->List D)(r:Kind×List D)(h0:init.map (·.val ρ)=vs 0)(hr:r.1≠.cont)
  (h1:∀ i:Nat,i<n->decide ((i:Int)<n)=true->Er T body (ρ++vs i)=some (.cont,vs (i+1)))
  (h2:decide ((n:Int)<n)=false->Er T body (ρ++vs n)=some r):Er T (.loop init body) ρ=some r:=by
 obtain⟨q,h3,rfl⟩:=Taa (T:=T) (body:=body) (ρ:=ρ) (fun i=>n-i) (fun i=>i<=n) vs (fun q=>q=r)
  (fun i hi=>by
   rcases Zbz i n with hlt|mj
   ·exact⟨_,h1 i hlt (by simp;omega),.inl ⟨rfl,i+1,by omega,by omega,rfl⟩⟩
   ·obtain rfl:i=n:=by omega
    exact⟨_,h2 (by simp),.inr ⟨hr,rfl⟩⟩) n 0 (by omega) (by omega) init h0
 exact h3
omit [Inhabited α] in
theorem Ga7 {γ:Type}{body:Tm β}{ρ:List D}{init:List aL}(r:Kind×List D)(m:γ->Nat)(inv:γ->Prop)(vs:γ->List D)(c0:γ)(h0:init.map (·.val ρ)=vs c0)(hi:inv c0)(hr:r.1≠.cont)
  (h:∀ c,inv c->(∃ c',Er T body (ρ++vs c)=some (.cont,vs c')/\inv c'/\m c'<m c)\/Er T body (ρ++vs c)=some r):Er T (.loop init body) ρ=some r:=by
 obtain⟨q,h1,rfl⟩:=Taa (T:=T) (body:=body) (ρ:=ρ) m inv vs (fun q=>q=r)
  (fun c hc=>by
   rcases h c hc with ⟨c',h2,h3,h4⟩|h2
   ·exact⟨_,h2,.inl ⟨rfl,c',h3,h4,rfl⟩⟩
   ·exact⟨_,h2,.inr ⟨hr,rfl⟩⟩) (m c0) c0 (Zbr _) hi init h0
 exact h1
theorem Na0 {σ:Type}{body:Tm β}{ρ:List D}{init:List aL}(j:Nat)(xs:List α)(vs:Int->σ->List D)(s0:σ)(f:σ->α->σ)(inv:Nat->σ->Prop)(out:σ->List D)
  (h0:init.map (·.val ρ)=vs 0 s0) (hi:inv 0 s0)
  (h1:∀ (i:Nat) s,i<xs.length->InB xs (i:Int)->decide ((i:Int)<xs.length)=true->inv i s->Er T body (ρ++vs i s)=some (.cont,vs ((i:Int)+1) (f s (atI xs i)))/\inv (i+1) (f s (atI xs i)))
  (h2:∀ s,decide ((xs.length:Int)<xs.length)=false->inv xs.length s->Er T body (ρ++vs xs.length s)=some (.yield j,out s)) :
  Er T (.loop init body) ρ=some (.yield j,out (xs.foldl f s0))/\inv xs.length (xs.foldl f s0):=by
 have cU:∀ i xs s,Aa0 (fun (_:Nat) (x:α) s=>Rd1.go (f s x)) i xs s=.go (xs.foldl f s):=by
  intro i xs
  induction xs generalizing i with
  |nil=>exact fun _=>rfl
  |cons x xs ih=>exact fun s=>ih (i+1) _
 obtain⟨q,h4,h5⟩:=Jbv (T:=T) (body:=body) (ρ:=ρ) (init:=init) xs vs s0 (fun _ x s=>.go (f s x)) inv (fun s=>(.yield j,out s)) h0 hi
  (fun i s hl hv=>by
   obtain⟨h5,h6⟩:=h1 i s hl (aH.2 hl) (by simp;omega) hv;exact⟨h5,fun s' h=>by simp only[Rd1.go.injEq]at h;rw[<- h];exact h6,fun r h=>by cases h⟩)
  (fun s hv=>⟨h2 s (by simp) hv,by simp⟩)
 rw[cU]at h5
 rcases h5 with ⟨s,h5,h6,rfl⟩|h5
 ·simp only[Rd1.go.injEq]at h5
  subst h5;exact⟨h4,h6⟩
 ·cases h5
end
theorem take_at {α:Type}[Inhabited α]{xs:List α}{i:Nat}(h:i<xs.length):xs.take i++[atI xs (i:Int)]=xs.take (i+1):=by rw[List.take_succ_eq_append_getElem h,bC h]
theorem Sav {α:Type}[Inhabited α]{xs:List α}{k:Int}(h:InB xs k):iJ xs k (atI xs k)=xs:=by
 have h2:=h.lt;unfold iJ atI;rw[Zbk,Zbf h2];exact List.set_getElem_self h2
def Xav {α:Type}[Enc α](xs:List (List α))(k:Int):D:=.rows 1 ((xs.map Enc.enc).set k.toNat [.hole])
theorem Mai:(∀ {α:Type} [Enc α] {xs:List (List α)} {k:Int},InB xs k->(aU.set 1 0 1).run [rL xs,i64 k,.hole]=some [Xav xs k])/\(∀ {α:Type} [Enc α] {xs:List (List α)} {k j:Int},InB xs j->aU.inb.run [Xav xs k,i64 j]=some []) /\
  (∀ {α:Type} [Enc α] {xs:List (List α)} {k:Int} {l:List α},InB xs k->(aU.set 1 0 1).run [Xav xs k,i64 k,rL l]=some [rL (iJ xs k l)]):=by
 refine⟨?_,?_,?_⟩
 ·intro α _ xs k h
  have h2:=h.lt;unfold InB at h;have e:(xs.map Enc.enc)[k.toNat]?=some [rL xs[k.toNat]]:=by rw[Zb2,Zbf h2];rfl
  show (if _ then _ else _)=_
  rw[if_pos ⟨rfl,h.1⟩,e];rfl
 ·intro α _ xs k j h
  unfold InB at h;show (if _ then _ else _)=_
  rw[if_pos ⟨h.1,by simpa using h.2⟩]
 ·intro α _ xs k l h
  have h2:=h.lt;unfold InB at h;have e:((xs.map Enc.enc).set k.toNat [.hole])[k.toNat]?=some [.hole]:=by rw[List.getElem?_set_self (by simpa using h2)]
  show (if _ then _ else _)=_
  rw[if_pos ⟨rfl,h.1⟩,e];show some _=_
  simp only[rL,iJ,List.map_set,List.set_set];rfl
theorem SQ:(∀ {a b:Int},-9223372036854775808<=a+b->a+b<=9223372036854775807->(aU.bin .add).run [i64 a,i64 b]=some [i64 (a+b)]) /\
  (∀ {a b:Int},-9223372036854775808<=a-b->a-b<=9223372036854775807->(aU.bin .sub).run [i64 a,i64 b]=some [i64 (a-b)]) /\
  (∀ {a b:Int},0<=a->a<=9223372036854775807->0<b->(aU.bin .quo).run [i64 a,i64 b]=some [i64 (a / b)])/\(∀ {a b:Int},0<=a->0<b->(aU.bin .rem).run [i64 a,i64 b]=some [i64 (a % b)]) :=
 ⟨Jbh,Sax,Fbp,Fbo⟩
theorem Bab:(∀ {α:Type} [Inhabited α] {xs:List α} {k:Int} {a:α},InB xs k->atI (iJ xs k a) k=a)/\(∀ {α:Type} {xs:List α} {k:Int} {a b:α},iJ (iJ xs k a) k b=iJ xs k b) /\
  (∀ {α:Type} {xs:List α} {j k:Int} {a:α},InB (iJ xs j a) k=InB xs k)/\(∀ {α:Type} {xs:List α} {j:Int} {a:α},(iJ xs j a).length=xs.length):=by
 refine⟨?_,?_,?_,?_⟩
 ·intro α _ xs k a h
  have:=h.lt;rw[iJ,atI,Zbk,List.getElem?_set_self this];rfl
 ·intro α xs k a b
  rw[iJ,iJ,iJ,List.set_set]
 ·intro α xs j k a
  unfold InB iJ;rw[Bce]
 ·intro α xs j a
  exact Bce ..
def szL {α:Type}(f:α->Nat)(xs:List α):Nat:=xs.length+(xs.map f).sum
def szR (l:Int)(n:Nat):Int:=if (n:Int)<=l then l-n else -1
theorem Uak {α:Type}{f:α->Nat}{x:α}{xs:List α}:szL f (x::xs)=1+f x+szL f xs:=by simp[szL];omega
theorem gP {α:Type}{f:α->Nat}:∀ {xs:List α} {x:α},x∈xs->1+f x<=szL f xs
 |[],x,h=>by cases h
 | y :: ys, x, h => by
  rw[Uak]
  rcases List.mem_cons.1 h with rfl|h
  ·omega
  ·have:=gP (f:=f) h
   omega
theorem fO {α:Type}{xs:List α}:szL (fun _=>0) xs=xs.length:=by
 have:∀ xs:List α,(xs.map fun _=>0).sum=0:=fun xs=>by
  induction xs with
  |nil=>rfl
  |cons x xs ih=>simp only[Zb5,List.sum_cons,ih]
 rw[szL,this];rfl
theorem iB {α:Type}{f:α->Nat}{xs:List α}:xs.length<=szL f xs:=by unfold szL;omega
section
variable {T:Nat->Ent} {β:Type} {α:Type} [Inhabited α]
theorem Oa7 {body:Tm β}{ρ:List D}{a:aL}(xs:List α)(f:α->Nat)(l:Int)(h0:a.val ρ=i64 l)(hl:0<=l)(fw:l<=1048576)
  (h1:∀ (i:Nat) (m:Int),i<xs.length->InB xs (i:Int)->decide ((i:Int)<xs.length)=true->0<=m->m<=1048576->(f (atI xs i):Int)<=m->szR m (f (atI xs i))=m-f (atI xs i)->decide (m-(f (atI xs i):Int)<0)=false->Er T body (ρ++[i64 m,i64 i])=some (.cont,[i64 (m-f (atI xs i)),i64 ((i:Int)+1)]))
  (h2:∀ (i:Nat) (m:Int),i<xs.length->InB xs (i:Int)->decide ((i:Int)<xs.length)=true->0<=m->m<=1048576->m<f (atI xs i)->szR m (f (atI xs i))=-1->decide ((-1:Int)<0)=true->Er T body (ρ++[i64 m,i64 i])=some (.ret,[i64 (-1)]))
  (h3:∀ m:Int,decide ((xs.length:Int)<xs.length)=false->Er T body (ρ++[i64 m,i64 xs.length])=some (.yield 1,[i64 m])) :
  Er T (.loop [a,.c (i64 0)] body) ρ=jD (decide (((xs.map f).sum:Int)<=l)) (some (.yield 1,[i64 (l-(xs.map f).sum)])) (some (.ret,[i64 (-1)])):=by
 have cU:∀ (ys:List α) (i:Nat) (m:Int),0<=m->Aa0 (fun (_:Nat) x (m:Int)=>if (f x:Int)<=m then Rd1.go (m-f x) else .out (.ret,[i64 (-1)])) i ys m=if ((ys.map f).sum:Int)<=m then .go (m-(ys.map f).sum) else .out (.ret,[i64 (-1)]):=by
  intro ys
  induction ys with
  | nil =>
   intro i m hm;simp only[Aa0,List.map_nil,List.sum_nil];rw[if_pos (by simpa using hm)];simp
  | cons y ys ih =>
   intro i m hm;simp only[Aa0,Zb5,List.sum_cons];by_cases h:(f y:Int)<=m
   ·rw[if_pos h]
    simp only;rw[ih (i+1) _ (by omega)];by_cases h4:((ys.map f).sum:Int)<=m-f y
    ·rw[if_pos h4,if_pos (by omega)]
     congr 1;omega
    ·rw[if_neg h4,if_neg (by omega)]
   ·rw[if_neg h]
    simp only;rw[if_neg (by omega)]
 obtain⟨q,h4,h5⟩:=Jbv (T:=T) (body:=body) (ρ:=ρ) (init:=[a,.c (i64 0)]) xs (fun i (m:Int)=>[i64 m,i64 i]) l (fun _ x m=>if (f x:Int)<=m then .go (m-f x) else .out (.ret,[i64 (-1)])) (fun _ m=>0<=m/\m<=1048576) (fun m=>(.yield 1,[i64 m])) (by show [a.val ρ,_]=_;rw[h0];rfl) ⟨hl,fw⟩
  (fun i m hi hm=>by
   by_cases e:(f (atI xs i):Int)<=m
   ·rw[if_pos e]
    refine⟨h1 i m hi (aH.2 hi) (by simp;omega) hm.1 hm.2 e (by rw[szR,if_pos e]) (by simp;omega),fun s' h=>?_,fun r h=>by cases h⟩;simp only[Rd1.go.injEq]at h;omega
   ·rw[if_neg e]
    refine⟨h2 i m hi (aH.2 hi) (by simp;omega) hm.1 hm.2 (by omega) (by rw[szR,if_neg e]) rfl,fun s' h=>by simp at h,fun r h=>?_⟩;simp only[Rd1.out.injEq]at h;rw[<- h];simp)
  (fun m hm=>⟨h3 m (by simp),by simp⟩)
 rw[h4];rw[cU xs 0 l hl]at h5;by_cases h:((xs.map f).sum:Int)<=l
 ·rw[if_pos h]at h5
  rw[decide_eq_true h]
  rcases h5 with ⟨s,h5,-,rfl⟩|h5
  ·simp only[Rd1.go.injEq]at h5
   rw[<- h5];rfl
  ·cases h5
 ·rw[if_neg h]at h5
  rw[decide_eq_false h]
  rcases h5 with ⟨s,h5,-⟩|h5
  ·cases h5
  ·simp only[Rd1.out.injEq]at h5
   rw[<- h5];rfl
theorem Haf {body:Tm β}{ρ:List D}{a:aL}[Enc α](xs:List α)(h0:a.val ρ=rL (Zbq xs.length (default:α)))
  (h1:∀ (i:Nat) (ys:List α),i<xs.length->InB xs (i:Int)->InB ys (i:Int)->decide ((i:Int)<xs.length)=true->Er T body (ρ++[rL ys,i64 i])=some (.cont,[rL (iJ ys i (atI xs i)),i64 ((i:Int)+1)]))
  (h2:∀ ys:List α,decide ((xs.length:Int)<xs.length)=false->Er T body (ρ++[rL ys,i64 xs.length])=some (.yield 1,[rL ys])) :
  Er T (.loop [a,.c (i64 0)] body) ρ=some (.yield 1,[rL xs]):=by
 have key:=Taa (T:=T) (body:=body) (ρ:=ρ) (fun i=>xs.length-i) (fun i=>i<=xs.length) (fun i=>[rL (upto default xs i),i64 (i:Nat)]) (fun q=>q=(.yield 1,[rL xs]))
  (fun i hi=>by
   rcases Zbz i xs.length with hlt|mj
   ·refine⟨_,h1 i (upto default xs i) hlt (aH.2 hlt) (aH.2 (by rw[Uad _ _ hi];exact hlt)) (by simp;omega),.inl ⟨rfl,i+1,by omega,by omega,?_⟩⟩
    have:iJ (upto default xs i) (i:Int) (atI xs i)=upto default xs (i+1):=by
     rw[iJ];exact Uac default xs (by rw[bC hlt];exact Zbf hlt)
    rw[this];simp
   ·obtain rfl:i=xs.length:=by omega
    refine⟨_,h2 _ (by simp),.inr ⟨by simp,?_⟩⟩;rw[Uae])
  xs.length 0 (by omega) (by omega) [a,.c (i64 0)] (by show [a.val ρ,_]=_;rw[h0,Oaw];rfl)
 obtain⟨q,h4,rfl⟩:=key;exact h4
def ctL {α:Type}(c:α->Nat)(xs:List α):Nat:=(xs.map c).sum
end
theorem sM {α:Type}{c f:α->Nat}{m:Nat}(hm:1<=m)(h:∀ x,c x<=m+m*f x):∀ xs:List α,ctL c xs<=m*szL f xs
 |[]=>by simp[ctL]
 | x :: xs => by
  have ih:=sM hm h xs;have h1:=h x;rw[Uak];simp only[ctL,Zb5,List.sum_cons]at ih ⊢;rw[Nat.mul_add,Nat.mul_add];omega
theorem lt0 {k:Int}(h:0<=k):decide (k<0)=false:=by simp;omega
theorem Vbq:decide ((-1:Int)<0)=true:=rfl
theorem Gai {α:Type}[Enc α]{gv:List Ty}{bytes:Nat}{P:α->Prop}{d:D}(hs:gv.length=Enc.sz α)(hd:∀ ds,WTs gv ds->∃ a:α,ds=Enc.enc a/\P a)(h:WT (.sl bytes gv) d):∃ xs:List α,d=rL xs/\xs.length*bytes<=reachBytes/\∀ x∈xs,P x:=by
 simp only[WT]at h;obtain⟨rs,rfl,h1,h2⟩:=h
 have key:∀ rs:List (List D),(∀ r∈rs,WTs gv r)->∃ xs:List α,rs=xs.map Enc.enc/\∀ x∈xs,P x:=by
  intro rs
  induction rs with
  |nil=>exact fun _=>⟨[],rfl,by simp⟩
  | cons r rs ih =>
   intro h;obtain⟨xs,hx,hp⟩:=ih fun r hr=>h r (List.mem_cons_of_mem _ hr)
   obtain⟨a,ha,hpa⟩:=hd r (h r List.mem_cons_self);exact⟨a::xs,by rw[hx,ha];rfl,by simpa using ⟨hpa,hp⟩⟩
 obtain⟨xs,rfl,hp⟩:=key rs h2;exact⟨xs,by rw[hs];rfl,by simpa using h1,hp⟩
theorem dC {d:D}(h:WT (.int .i64) d):∃ n:Int,d=i64 n/\-9223372036854775808<=n/\n<=9223372036854775807:=by
 obtain⟨n,rfl,h1,h2⟩:=h;exact⟨n,rfl,h1,h2⟩
theorem Kbq {d:D}(h:WT .bool d):∃ b:Bool,d=.bool b:=h
theorem iZ {n b:Nat}(h:n*b<=reachBytes)(hb:0<b):n<=reachBytes:=Aci (Nat.le_mul_of_pos_right n hb) h
theorem Jai (ds:List D)(h:WTs [.int .i64] ds):∃ x:Int,ds=Enc.enc x/\True:=by
 simp only[WTs]at h;obtain⟨d,r,rfl,w,rfl⟩:=h;obtain⟨x,rfl,-,-⟩:=dC w;exact⟨x,rfl,trivial⟩
def Eap (x:Baa):Nat:=1+1+1+1+1
theorem Ga0 (x:Baa):Eap x=5:=by
 unfold Eap
 try omega
def aP (x:fP):Nat:=szL (fun _=>0) x.deps
def xY (x:fP):Prop:=(x.deps.length<=140737488351232)
def zB (x:fP):Nat:=1+ctL (fun _=>1) x.deps
theorem Jaj (x:fP):zB x=1+ctL (fun _=>1) x.deps:=by
 unfold zB
 try omega
theorem Hai (x:fP):aP x=x.deps.length:=by
 unfold aP;simp only[fO]
 try omega
def aQ (x:bR):Nat:=aP x.attr
def nZ (x:bR):Prop:=(xY x.attr)
def pG (x:bR):Nat:=1+1+1+Eap x.cmd+zB x.attr
theorem Gb7 (x:bR):pG x=9+ctL (fun _=>1) x.attr.deps:=by
 unfold pG;simp only[Ga0];simp only[Jaj]
 try omega
theorem Fbh (x:bR):aQ x=x.attr.deps.length:=by
 unfold aQ;simp only[fO,Hai]
 try omega
theorem Va6 (x:bR):pG x<=16+16*aQ x:=by
 have h0:=sM (c:=(fun _=>1)) (f:=(fun _=>0)) (m:=16) (by omega) (fun _=>by simp) x.attr.deps;rw[Gb7,Fbh]
 try simp only[fO]at *
 omega
theorem Va5 (ds:List D)(h:WTs [.int .i64,.int .i64,.int .i64,.int .i64,.int .i64,.int .i64,.int .i64,.int .i64,.int .i64,.sl 8 [.int .i64]] ds):∃ x:bR,ds=Enc.enc x/\nZ x:=by
 simp only[WTs]at h;obtain⟨d0,r0,rfl,w0,d1,r1,rfl,w1,d2,r2,rfl,w2,d3,r3,rfl,w3,d4,r4,rfl,w4,d5,r5,rfl,w5,d6,r6,rfl,w6,d7,r7,rfl,w7,d8,r8,rfl,w8,d9,r9,rfl,w9,rfl⟩:=h;obtain⟨x0,rfl,-,-⟩:=dC w0;obtain⟨x1,rfl,-,-⟩:=dC w1;obtain⟨x2,rfl,-,-⟩:=dC w2;obtain⟨x3,rfl,-,-⟩:=dC w3;obtain⟨x4,rfl,-,-⟩:=dC w4;obtain⟨x5,rfl,-,-⟩:=dC w5;obtain⟨x6,rfl,-,-⟩:=dC w6;obtain⟨x7,rfl,-,-⟩:=dC w7;obtain⟨x8,rfl,-,-⟩:=dC w8;obtain⟨x9,rfl,l9,p9⟩:=Gai (α:=Int) (P:=fun _=>True) rfl Jai w9;exact⟨⟨x0,x1,x2,⟨x3,x4,x5,x6,x7⟩,⟨x8,x9⟩⟩,rfl,iZ l9 (by decide)⟩
theorem Bb6 (ds:List D)(h:WTs [.sl 96 [.int .i64,.int .i64,.int .i64,.int .i64,.int .i64,.int .i64,.int .i64,.int .i64,.int .i64,.sl 8 [.int .i64]]] ds):∃ x:(List bR),ds=Enc.enc x/\x.length<=140737488351232/\∀ y0∈x,nZ y0:=by
 simp only[WTs]at h;obtain⟨d,r,rfl,w,rfl⟩:=h;obtain⟨x,rfl,l,p⟩:=Gai (α:=bR) (P:=fun y=>nZ y) rfl Va5 w;exact⟨x,rfl,⟨iZ l (by decide),p⟩⟩
def bN (x:aM):Nat:=szL (szL aQ) x.rows
def Ga8 (x:aM):Prop:=(x.rows.length<=140737488351232/\∀ y0∈x.rows,y0.length<=140737488351232/\∀ y1∈y0,nZ y1)
def Jal (x:aM):Nat:=1+ctL (ctL pG) x.rows
theorem Yag (x:aM):Jal x=1+ctL (ctL pG) x.rows:=by
 unfold Jal
 try omega
theorem Wau (x:aM):bN x=szL (szL aQ) x.rows:=by
 unfold bN;simp only[fO]
 try omega
def aV (x:gY):Nat:=aP x.first+aP x.attr+szL (fun _=>0) x.who+szL aQ x.seen
def xX (x:gY):Prop:=(xY x.first)/\(xY x.attr)/\(x.who.length<=140737488351232)/\(x.seen.length<=140737488351232/\∀ y0∈x.seen,nZ y0)
def zA (x:gY):Nat:=1+1+1+1+Eap x.cmd+zB x.first+zB x.attr+1+ctL (fun _=>1) x.who+ctL pG x.seen
theorem Bb7 (x:gY):zA x=12+ctL (fun _=>1) x.first.deps+ctL (fun _=>1) x.attr.deps+ctL (fun _=>1) x.who+ctL pG x.seen:=by
 unfold zA;simp only[Ga0];simp only[Jaj]
 try omega
theorem Oa6 (x:gY):aV x=x.first.deps.length+x.attr.deps.length+x.who.length+szL aQ x.seen:=by
 unfold aV;simp only[fO,Hai]
 try omega
theorem Bb8 (x:gY):zA x<=16+16*aV x:=by
 have h0:=sM (c:=(fun _=>1)) (f:=(fun _=>0)) (m:=16) (by omega) (fun _=>by simp) x.first.deps
 have h1:=sM (c:=(fun _=>1)) (f:=(fun _=>0)) (m:=16) (by omega) (fun _=>by simp) x.attr.deps;have h2:=sM (c:=(fun _=>1)) (f:=(fun _=>0)) (m:=16) (by omega) (fun _=>by simp) x.who;have h3:=sM (c:=pG) (f:=aQ) (m:=16) (by omega) Va6 x.seen;rw[Bb7,Oa6]
 try simp only[fO]at *
 omega
theorem Bb5 (ds:List D)(h:WTs [.int .i64,.int .i64,.int .i64,.int .i64,.int .i64,.int .i64,.int .i64,.int .i64,.int .i64,.int .i64,.sl 8 [.int .i64],.int .i64,.sl 8 [.int .i64],.bool,.sl 8 [.int .i64],.sl 96 [.int .i64,.int .i64,.int .i64,.int .i64,.int .i64,.int .i64,.int .i64,.int .i64,.int .i64,.sl 8 [.int .i64]]] ds):∃ x:gY,ds=Enc.enc x/\xX x:=by
 simp only[WTs]at h;obtain⟨d0,r0,rfl,w0,d1,r1,rfl,w1,d2,r2,rfl,w2,d3,r3,rfl,w3,d4,r4,rfl,w4,d5,r5,rfl,w5,d6,r6,rfl,w6,d7,r7,rfl,w7,d8,r8,rfl,w8,d9,r9,rfl,w9,d10,r10,rfl,w10,d11,r11,rfl,w11,d12,r12,rfl,w12,d13,r13,rfl,w13,d14,r14,rfl,w14,d15,r15,rfl,w15,rfl⟩:=h;obtain⟨x0,rfl,-,-⟩:=dC w0;obtain⟨x1,rfl,-,-⟩:=dC w1;obtain⟨x2,rfl,-,-⟩:=dC w2;obtain⟨x3,rfl,-,-⟩:=dC w3;obtain⟨x4,rfl,-,-⟩:=dC w4;obtain⟨x5,rfl,-,-⟩:=dC w5;obtain⟨x6,rfl,-,-⟩:=dC w6;obtain⟨x7,rfl,-,-⟩:=dC w7;obtain⟨x8,rfl,-,-⟩:=dC w8;obtain⟨x9,rfl,-,-⟩:=dC w9;obtain⟨x10,rfl,l10,p10⟩:=Gai (α:=Int) (P:=fun _=>True) rfl Jai w10;obtain⟨x11,rfl,-,-⟩:=dC w11;obtain⟨x12,rfl,l12,p12⟩:=Gai (α:=Int) (P:=fun _=>True) rfl Jai w12;obtain⟨x13,rfl⟩:=Kbq w13;obtain⟨x14,rfl,l14,p14⟩:=Gai (α:=Int) (P:=fun _=>True) rfl Jai w14;obtain⟨x15,rfl,l15,p15⟩:=Gai (α:=bR) (P:=fun y=>nZ y) rfl Va5 w15;exact⟨⟨x0,x1,x2,x3,⟨x4,x5,x6,x7,x8⟩,⟨x9,x10⟩,⟨x11,x12⟩,x13,x14,x15⟩,rfl,⟨iZ l10 (by decide),iZ l12 (by decide),iZ l14 (by decide),⟨iZ l15 (by decide),p15⟩⟩⟩
def aZ (x:nY):Nat:=bN x.table+szL aV x.leads
def Das (x:nY):Prop:=(Ga8 x.table)/\(x.leads.length<=140737488351232/\∀ y0∈x.leads,xX y0)
def Jam (x:nY):Nat:=1+Jal x.table+ctL zA x.leads
theorem Gb8 (x:nY):Jam x=2+ctL (ctL pG) x.table.rows+ctL zA x.leads:=by
 unfold Jam;simp only[Yag]
 try omega
theorem Uai (x:nY):aZ x=szL (szL aQ) x.table.rows+szL aV x.leads:=by
 unfold aZ;simp only[fO,Wau]
 try omega
theorem Hba (x:nY):Jam x<=16+16*aZ x:=by
 have h0:=sM (c:=(ctL pG)) (f:=(szL aQ)) (m:=16) (by omega) (fun xs=>Aci (sM (c:=pG) (f:=aQ) (m:=16) (by omega) Va6 xs) (Nat.le_add_left _ _)) x.table.rows;have h1:=sM (c:=zA) (f:=aV) (m:=16) (by omega) Bb8 x.leads;rw[Gb8,Uai]
 try simp only[fO]at *
 omega
theorem Gb3 (ds:List D)(h:WTs [.int .i64,.int .i64,.sl 24 [.sl 96 [.int .i64,.int .i64,.int .i64,.int .i64,.int .i64,.int .i64,.int .i64,.int .i64,.int .i64,.sl 8 [.int .i64]]],.sl 192 [.int .i64,.int .i64,.int .i64,.int .i64,.int .i64,.int .i64,.int .i64,.int .i64,.int .i64,.int .i64,.sl 8 [.int .i64],.int .i64,.sl 8 [.int .i64],.bool,.sl 8 [.int .i64],.sl 96 [.int .i64,.int .i64,.int .i64,.int .i64,.int .i64,.int .i64,.int .i64,.int .i64,.int .i64,.sl 8 [.int .i64]]]] ds):∃ x:nY,ds=Enc.enc x/\Das x:=by
 simp only[WTs]at h;obtain⟨d0,r0,rfl,w0,d1,r1,rfl,w1,d2,r2,rfl,w2,d3,r3,rfl,w3,rfl⟩:=h;obtain⟨x0,rfl,-,-⟩:=dC w0;obtain⟨x1,rfl,-,-⟩:=dC w1;obtain⟨x2,rfl,l2,p2⟩:=Gai (α:=(List bR)) (P:=fun y=>y.length<=140737488351232/\∀ y0∈y,nZ y0) rfl (Bb6) w2;obtain⟨x3,rfl,l3,p3⟩:=Gai (α:=gY) (P:=fun y=>xX y) rfl Bb5 w3;exact⟨⟨x0,⟨x1,x2⟩,x3⟩,rfl,⟨⟨iZ l2 (by decide),p2⟩,⟨iZ l3 (by decide),p3⟩⟩⟩
def bE (x:pO):Nat:=aP x.attr
def Dau (x:pO):Prop:=(xY x.attr)
def Jan (x:pO):Nat:=1+1+1+1+1+1+1+1+Eap x.cmd+zB x.attr
theorem Gb9 (x:pO):Jan x=14+ctL (fun _=>1) x.attr.deps:=by
 unfold Jan;simp only[Ga0];simp only[Jaj]
 try omega
theorem Uaj (x:pO):bE x=x.attr.deps.length:=by
 unfold bE;simp only[fO,Hai]
 try omega
theorem Hbb (x:pO):Jan x<=16+16*bE x:=by
 have h0:=sM (c:=(fun _=>1)) (f:=(fun _=>0)) (m:=16) (by omega) (fun _=>by simp) x.attr.deps;rw[Gb9,Uaj]
 try simp only[fO]at *
 omega
theorem Gb5 (ds:List D)(h:WTs [.int .i64,.int .i64,.int .i64,.int .i64,.int .i64,.int .i64,.int .i64,.int .i64,.int .i64,.int .i64,.int .i64,.int .i64,.int .i64,.int .i64,.sl 8 [.int .i64]] ds):∃ x:pO,ds=Enc.enc x/\Dau x:=by
 simp only[WTs]at h;obtain⟨d0,r0,rfl,w0,d1,r1,rfl,w1,d2,r2,rfl,w2,d3,r3,rfl,w3,d4,r4,rfl,w4,d5,r5,rfl,w5,d6,r6,rfl,w6,d7,r7,rfl,w7,d8,r8,rfl,w8,d9,r9,rfl,w9,d10,r10,rfl,w10,d11,r11,rfl,w11,d12,r12,rfl,w12,d13,r13,rfl,w13,d14,r14,rfl,w14,rfl⟩:=h;obtain⟨x0,rfl,-,-⟩:=dC w0;obtain⟨x1,rfl,-,-⟩:=dC w1;obtain⟨x2,rfl,-,-⟩:=dC w2;obtain⟨x3,rfl,-,-⟩:=dC w3;obtain⟨x4,rfl,-,-⟩:=dC w4;obtain⟨x5,rfl,-,-⟩:=dC w5;obtain⟨x6,rfl,-,-⟩:=dC w6;obtain⟨x7,rfl,-,-⟩:=dC w7;obtain⟨x8,rfl,-,-⟩:=dC w8;obtain⟨x9,rfl,-,-⟩:=dC w9;obtain⟨x10,rfl,-,-⟩:=dC w10;obtain⟨x11,rfl,-,-⟩:=dC w11;obtain⟨x12,rfl,-,-⟩:=dC w12;obtain⟨x13,rfl,-,-⟩:=dC w13;obtain⟨x14,rfl,l14,p14⟩:=Gai (α:=Int) (P:=fun _=>True) rfl Jai w14;exact⟨⟨x0,x1,x2,x3,x4,x5,x6,x7,⟨x8,x9,x10,x11,x12⟩,⟨x13,x14⟩⟩,rfl,iZ l14 (by decide)⟩
def xL (x:dD):Nat:=1+1+Eap x.cmd
theorem Yah (x:dD):xL x=7:=by
 unfold xL;simp only[Ga0]
 try omega
theorem Yai (x:dD):xL x<=16+16*(fun _:dD=>0) x:=by
 rw[Yah];simp
theorem Yaf (ds:List D)(h:WTs [.int .i64,.int .i64,.int .i64,.int .i64,.int .i64,.int .i64,.int .i64] ds):∃ x:dD,ds=Enc.enc x/\True:=by
 simp only[WTs]at h;obtain⟨d0,r0,rfl,w0,d1,r1,rfl,w1,d2,r2,rfl,w2,d3,r3,rfl,w3,d4,r4,rfl,w4,d5,r5,rfl,w5,d6,r6,rfl,w6,rfl⟩:=h;obtain⟨x0,rfl,-,-⟩:=dC w0;obtain⟨x1,rfl,-,-⟩:=dC w1;obtain⟨x2,rfl,-,-⟩:=dC w2;obtain⟨x3,rfl,-,-⟩:=dC w3;obtain⟨x4,rfl,-,-⟩:=dC w4;obtain⟨x5,rfl,-,-⟩:=dC w5;obtain⟨x6,rfl,-,-⟩:=dC w6;exact⟨⟨x0,x1,⟨x2,x3,x4,x5,x6⟩⟩,rfl,trivial⟩
def gN (x:Aa9):Nat:=szL aZ x.reps+szL bE x.bag+szL (fun _=>0) x.asked
def Man (x:Aa9):Prop:=(x.reps.length<=140737488351232/\∀ y0∈x.reps,Das y0)/\(x.bag.length<=140737488351232/\∀ y0∈x.bag,Dau y0)/\(x.asked.length<=140737488351232)
theorem Gal (x:Aa9):gN x=szL aZ x.reps+szL bE x.bag+x.asked.length:=by
 unfold gN;simp only[fO]
 try omega
theorem Gb4 (ds:List D)(h:WTs [.sl 64 [.int .i64,.int .i64,.sl 24 [.sl 96 [.int .i64,.int .i64,.int .i64,.int .i64,.int .i64,.int .i64,.int .i64,.int .i64,.int .i64,.sl 8 [.int .i64]]],.sl 192 [.int .i64,.int .i64,.int .i64,.int .i64,.int .i64,.int .i64,.int .i64,.int .i64,.int .i64,.int .i64,.sl 8 [.int .i64],.int .i64,.sl 8 [.int .i64],.bool,.sl 8 [.int .i64],.sl 96 [.int .i64,.int .i64,.int .i64,.int .i64,.int .i64,.int .i64,.int .i64,.int .i64,.int .i64,.sl 8 [.int .i64]]]],.sl 136 [.int .i64,.int .i64,.int .i64,.int .i64,.int .i64,.int .i64,.int .i64,.int .i64,.int .i64,.int .i64,.int .i64,.int .i64,.int .i64,.int .i64,.sl 8 [.int .i64]],.sl 56 [.int .i64,.int .i64,.int .i64,.int .i64,.int .i64,.int .i64,.int .i64]] ds):∃ x:Aa9,ds=Enc.enc x/\Man x:=by
 simp only[WTs]at h;obtain⟨d0,r0,rfl,w0,d1,r1,rfl,w1,d2,r2,rfl,w2,rfl⟩:=h;obtain⟨x0,rfl,l0,p0⟩:=Gai (α:=nY) (P:=fun y=>Das y) rfl Gb3 w0;obtain⟨x1,rfl,l1,p1⟩:=Gai (α:=pO) (P:=fun y=>Dau y) rfl Gb5 w1;obtain⟨x2,rfl,l2,p2⟩:=Gai (α:=dD) (P:=fun y=>True) rfl Yaf w2;exact⟨⟨x0,x1,x2⟩,rfl,⟨⟨iZ l0 (by decide),p0⟩,⟨iZ l1 (by decide),p1⟩,iZ l2 (by decide)⟩⟩
end Go.Proofs.YtcbkmmhkccnamaaGreat.Rf
