/- Terms for so program's functions, and nh they are right: part 8 of 10. -/
import Derived.Test.YtcbkmmhkccnamaaGreatRf7
import Derived.Shelf.SlicesE.Clone
import Derived.Laws.CopyOwn
import Derived.LoopN
import Derived.WalkKit
import Derived.RegionTactic
import Derived.ChangeAlike
import Derived.Lib.Bytealg
import Derived.Lib.SplitLaws
import Derived.LaidLaws
import Derived.Lay
import Derived.Shelf.Strings.OnBuilder
import Derived.Shelf.Strconv.Itoa3
import Derived.Lib.AppendIntMem
import Derived.Lib.LaidTab
import Derived.Shelf.Lay
import Derived.Shelf.SlSortCmp.NoneTotal
import Derived.Shelf.SlicesE.Delete
open Bool renaming and_eq_true → Zbo, false_eq_true → Zbr, or_eq_true → Ac1, and_true → Bct, not_true → Bc7, false_or → Bc8
open List renaming getElem?_eq_getElem → Zbq, getD_eq_getElem?_getD → Zbu, length_cons → Zb1, length_map → Zb3, mem_of_getElem? → Zb4, replicate → Zb6, all_eq_true → Acd, getElem?_map → Ace, map_cons → Acg, length_take → Aci, getElem?_drop → Acv, eq_nil_of_length_eq_zero → Ac5, length_drop → Ac7, getElem?_eq_none → Bcb, map_append → Bcj, getElem_mem → Bcu, mem_of_mem_drop → Bc1, all_cons → Bc2, length_set → Cce, ext_getElem? → Cch, all_nil → Cct
open Nat renaming le_refl → Zb2, lt_or_ge → Aca, add_assoc → Acb, add_zero → Ack, le_trans → Acn, mul_le_mul_right → Bcc, add_mul → Bce, zero_le → Bch, mul_comm → Cc0, div_eq_of_lt → Cc4
open Option renaming bind_eq_some_iff → Zbn, bind_some → Zbv, map_eq_some_iff → Zbz, map_some → Acz
set_option linter.unusedSimpArgs false
set_option linter.unusedVariables false
set_option linter.unnecessarySimpa false
set_option linter.unusedSectionVars false
namespace Go.Proofs.YtcbkmmhkccnamaaGreat.Rf
open Go.Proofs Go.Shelf Go.RowKit Go.Lib
section
variable {P:Program} {ρ:Ren}
set_option maxHeartbeats 2000000 in
set_option maxRecDepth 100000 in
theorem Ta7 (L:SlLaysE0.n41 P ρ)(i0:TypeInfo)(z:Value)(size bytes:Nat)(hi:P.info? (ρ.t 23)=some i0)(wi:i0.zero=some z)(na:i0.size=size)(p5:i0.bytes=bytes)(vg:z.cells.size=size)(df:0<size)
  (z23:∀ w,(Go.sizeOf (ρ.t 23)).run P w=.ok size w) (a:Addr) (c:Nat) (w:World) :
  Calls P (ρ.f 41) #[.slice (some a) 0 c] w fun e w'=>∃ v',e=.returned v'/\w'.ownsRow w.heap.size (ρ.t 23) size v' 0 []/\Below w.heap.size w w':=by
 have mixed:=L.mixed;have t4:=L.t4;have a4:=L.a4;have z4:=L.z4;have v4:=L.v4;have t22:=L.t22;have a22:=L.a22;have z22:=L.z22;have v22:=L.v22
 have q22:∀ (w:World) (a:Option Addr) (n c n' c':Nat),(binOp .eql (ρ.t 22) (.slice a n c) (.slice none n' c')).run P w=.ok (.bool a.isNone) w:=fun w a n c n' c'=>Lib.run_eql_slice_nil w _ _ a n c n' c' L.t22
 have u22:∀ w,Sem.run P (underlying (ρ.t 22)) w=.ok (TypeDesc.slice (ρ.t 23)) w:=run_underlying t22;obtain⟨_,_,FG⟩:=L.f41
 go_enter FG,SlBodyN.n41_ntmps ρ
 go_wp2_with (at_builtin;refine wpList_append_own _ rfl _ _ (ρ.t 22) rfl w.heap.size (ρ.t 23) i0 z size bytes t22 hi wi na p5 vg df _ _ _ rfl (World.ownsRow_made w #[] 0 (Zb2 _) (Bch _) (by simp)) a 0 c [] rfl ?qc1 ?qc2 ?qc3 ?qc4 ?qc5 ?qc6 ?_)
 case qc1=>simp
 case qc2=>intro j u hj;simp at hj
 case qc3=>intro u hu;cases hu
 case qc4=>exact Bch _
 case qc5=>simp
 case qc6=>simp
 intro v' w1 az a13 eR
 go_wp2
 go_ret
 exact⟨v',rfl,by simpa using az,((Below.refl _ w).alloc (Zb2 _) _).grown a13 (by simp) (by intro k hk;simp[Value.ownBlock]at hk;omega)⟩
theorem Faj {s:Sig}{G:Gh}{w:World}{vals:List Value}{ds:List D}(h:Dbo s vals w G ds)(hb:s.boxes=[]):mJ (pO s G w) G w :=
 ⟨rfl,rfl,rfl,Zb2 _,fun b _ _=>⟨rfl,rfl⟩,fun b j hj he=>by
  obtain⟨h1,-⟩:=h.cells b j hj he;rw[hb]at h1;exact absurd h1 (Nat.not_lt_zero _),h.fresh⟩
theorem uA {s:Sig}{G:Gh}{w w':World}{vals:List Value}{ds:List D}{own':Nat->Ow}(h:Dbo s vals w G ds)(hb:s.boxes=[])(pk:Below w.heap.size w w')(h1:∀ b,b<w.heap.size->own' b=G.own b)(h2:∀ b,w'.heap.size<=b->own' b=.frz) :
  mJ (pO s G w) { G with own:=own' } w' :=
 ⟨pk.os,pk.tape,pk.output,pk.size,fun b hlt _=>⟨pk.block b hlt,h1 b hlt⟩,fun b j hj he=>by
  obtain⟨h1,-⟩:=h.cells b j hj he;rw[hb]at h1;exact absurd h1 (Nat.not_lt_zero _),h2⟩
theorem Hbz (L:SlLaysE0.n41 P ρ){i0:TypeInfo}{z:Value}{size bytes m key:Nat}{T1:Nat->Ent}(hi:P.info? (ρ.t 23)=some i0)(wi:i0.zero=some z)(na:i0.size=size)(p5:i0.bytes=bytes)(vg:z.cells.size=size)(df:0<size)
  (z23:∀ w,(Go.sizeOf (ρ.t 23)).run P w=.ok size w) (hK:∀ n,uR P T1 n key ⟨ρ.f 41,[(false,[.fz false])],[],[(false,[.ow (m+1)])]⟩) :
  Ya5 P ⟨ρ.f 41,[(false,[.fz false])],[],[(false,[.ow (m+1)])]⟩ (fun ds=>match ds with
   |[.rows _ []]=>some [.rows size []]
   |ds=>Fun T1 key ds):=by
 intro vals w G ds ga cN he;by_cases oB:∃ sz,ds=[.rows sz []]
 ·obtain⟨sz,rfl⟩:=oB
  simp only[Option.some.injEq]at he;subst he;obtain⟨u,us,vs,rfl,⟨v,sA,rfl,⟨gE,-⟩,rfl⟩,pg,eR⟩:=cN.params;simp only[Zbr,if_false]at pg;obtain rfl:v=u:=by simpa using pg
  simp only[jQ]at eR;subst eR;have zd:Rd (fun b=>G.own b=.frz) w v (.rows sz []):=gE;obtain⟨A,a,n,c,vs,rfl,hn,hc,-,-⟩:=zd.inv;obtain rfl:n=0:=hn.symm;obtain⟨nm,qb,hfn⟩:=L.f41;refine .inl ⟨fU hfn qb rfl _ _,?_⟩
  cases A with
  | none =>
   refine Calls.mono (AnyE.slices_Clone_nil L 0 c w) fun e w' ⟨h1,h2⟩=>?_
   subst h1;subst h2
   refine⟨G,[.slice none 0 0],rfl,Faj cN rfl,⟨_,_,_,rfl,⟨_,_,rfl,?_,rfl⟩,rfl,rfl⟩,trivial,trivial⟩;exact .sl none ⟨0,0,none⟩ 0 0 _ [] (fun _ _=>undef) rfl (Zb2 _) (.inr ⟨rfl,rfl⟩) (by simp) (fun e=>by cases e) (by simp) (by simp)
  | some a' =>
   refine Calls.mono (Ta7 L i0 z size bytes hi wi na p5 vg df z23 a' c w) fun e w' ⟨v',h1,h2,h3⟩=>?_
   subst h1
   rcases h2.2 with ⟨rfl,-⟩|⟨g,cap,cur,rfl,hg,bb,-,-,hcur,-⟩
   ·refine⟨{ G with own:=G.own },[.slice none 0 0],rfl,uA cN rfl h3 (fun _ _=>rfl) (fun b hb=>cN.fresh b (Acn h3.size hb)),⟨_,_,_,rfl,⟨_,_,rfl,?_,rfl⟩,rfl,rfl⟩,trivial,trivial⟩
    exact .sl none ⟨0,0,none⟩ 0 0 _ [] (fun _ _=>undef) rfl (Zb2 _) (.inr ⟨rfl,rfl⟩) (by simp) (fun e=>by cases e) (by simp) (by simp)
   ·have hlt:g<w'.heap.size:=(Array.getElem?_eq_some_iff.1 bb).1
    refine⟨{ G with own:=fun b=>if b=g then .slc 0 [] else G.own b },[.slice (some ⟨g,0,none⟩) 0 cap],rfl,uA cN rfl h3 (fun b hb=>if_neg (by omega)) (fun b hb=>?_),⟨_,_,_,rfl,⟨_,_,rfl,?_,rfl⟩,rfl,rfl⟩,trivial,trivial⟩
    ·show (if b=g then _ else _)=_
     rw[if_neg (by omega)];exact cN.fresh b (Acn h3.size hb)
    ·refine .sl (some ⟨g,0,none⟩) ⟨g,0,none⟩ 0 cap _ [] (fun _ _=>undef) rfl (Bch _) (.inl rfl) (by simp) (fun _=>⟨rfl,if_pos rfl,fun k hk=>?_⟩) (by simp) (by simp)
     have jt:k<cur.size:=by omega
     refine⟨cur[k],?_,?_⟩
     ·have hb:((⟨g,0,none⟩:Addr).add k).block=g:=add_block _ _
      have ho:((⟨g,0,none⟩:Addr).add k)=⟨g,k,none⟩:=by unfold Addr.add;split<;>simp_all
      rw[ho];simp[World.cell?,bb,jt]
     ·have ho:((⟨g,0,none⟩:Addr).add k)=⟨g,k,none⟩:=by unfold Addr.add;split<;>simp_all
      rw[ho];simp[World.frozen?,bb]
 ·have he':Fun T1 key ds=some ga:=by
   dsimp only at he;split at he
   ·rename_i sz
    exact absurd ⟨sz,rfl⟩ oB
   ·exact he
  obtain⟨n,hn⟩:=yX.1 he';exact hK n vals w G ds ga cN hn
def Ca6 (P:Program)(t:TypeId):Option Nat:=match P.info? t with
 | some i => match i.zero with
  |some z=>if z.cells.size=i.size/\0<i.size then some i.size else none
  |none=>none
 |none=>none
noncomputable def Ib5 (size:Nat)(T1:Nat->Ent)(key:Nat):List D->Option (List D):=fun ds=>match ds with
 |[.rows _ []]=>some [.rows size []]
 |ds=>Fun T1 key ds
theorem Cb2 (L:SlLaysE0.n41 P ρ){size m key f:Nat}{T T1:Nat->Ent}{ti:Nat->Option TI}{sigs:List (Nat×Sig)}(hf:ρ.f 41=f)(h:Ca6 P (ρ.t 23)=some size)(z23:∀ w,(Go.sizeOf (ρ.t 23)).run P w=.ok size w)
  (hK:∀ n,uR P T1 n key ⟨f,[(false,[.fz false])],[],[(false,[.ow (m+1)])]⟩) (hT:T key=.ext (Ib5 size T1 key)) :
  Sag P T ti sigs key ⟨f,[(false,[.fz false])],[],[(false,[.ow (m+1)])]⟩:=by
 subst hf;unfold Ca6 at h;split at h
 ·rename_i i hi
  split at h
  ·rename_i z hz
   split at h
   ·rename_i h1
    cases h;exact .inr ⟨_,hT,Hbz L hi hz rfl rfl h1.1 h1.2 z23 hK⟩
   ·cases h
  ·cases h
 ·cases h
end
end Go.Proofs.YtcbkmmhkccnamaaGreat.Rf
namespace Go.Proofs.YtcbkmmhkccnamaaGreat.Rf
open Go.RowKit
section
variable {P:Program}
def Obf:List D->Option (List D)
 |[.rows 1 [[.int .i64 a]],.int .i64 4]=>some [.rows 1 [[.int .i64 a],[.int .i64 a],[.int .i64 a],[.int .i64 a]]]
 |_=>none
theorem Gbc {ds ga:List D}(h:Obf ds=some ga):∃ a,ds=[.rows 1 [[.int .i64 a]],.int .i64 4]/\ga=[.rows 1 [[.int .i64 a],[.int .i64 a],[.int .i64 a],[.int .i64 a]]]:=by
 unfold Obf at h;split at h
 ·exact⟨_,rfl,(Option.some.inj h).symm⟩
 ·cases h
def Uad (P:Program)(f:Nat):Prop :=
 ∀ (a:Addr) (c:Nat) (x:Int) (w:World),w.cell? a=some (.int .i64 x)->Calls P f #[.slice (some a) 1 c,.int .i64 4] w fun e w' =>
  ∃ g cap t,e=.returned (.slice (some ⟨g,0,none⟩) 4 cap)/\w.heap.size<=g/\4<=cap/\cap<=4/\w'.heap[g]?=some (.cells #[.int .i64 x,.int .i64 x,.int .i64 x,.int .i64 x] t (0,0))/\Below w.heap.size w w'
theorem Aba (b o k:Nat):(⟨b,o,none⟩:Addr).add k=⟨b,o+k,none⟩:=by unfold Addr.add;split<;>simp_all
theorem Za9 (S I:Nat)(w:World)(a:Addr)(c:Nat)(x:Int)(hu:P.underlying S=some (.slice I))(hs:(P.info? I).map (·.size)=some 1)(hc:w.cell? a=some (.int .i64 x)) :
  ∃ W1,W1.heap[w.heap.size]?=some (.cells #[.int .i64 x,.int .i64 0,.int .i64 0,.int .i64 0] I (0,0))/\Below w.heap.size w W1 /\
   (Builtin.copy_ #[S,S] I #[.slice (some ⟨w.heap.size,0,none⟩) 4 4,.slice (some a) 1 c]).run P (w.alloc (.cells #[.int .i64 0,.int .i64 0,.int .i64 0,.int .i64 0] I))=.ok (goInt 1) W1:=by
 have hg:(w.alloc (.cells #[.int .i64 0,.int .i64 0,.int .i64 0,.int .i64 0] I)).heap[w.heap.size]?=some (.cells #[.int .i64 0,.int .i64 0,.int .i64 0,.int .i64 0] I (0,0)):=by show (w.heap.push _)[w.heap.size]?=_;exact Array.getElem?_push_size
 have ha:a.add 0=a:=by unfold Addr.add;cases a with|mk b o s=>cases s<;>simp
 have h:=run_copy_row P (w.alloc (.cells #[.int .i64 0,.int .i64 0,.int .i64 0,.int .i64 0] I)) S S I I w.heap.size 0 4 4 a 1 c _ I [.int .i64 x] hu hs hg rfl
  (fun j v hj=>by
   have:j=0:=by have:=(List.getElem?_eq_some_iff.1 hj).1;simpa using this
   subst this;obtain rfl:Value.int .i64 x=v:=by simpa using hj
   rw[ha];exact Lib.cell?_alloc_some _ hc) (by simp) (by simp[Value.oneCell'])
 exact⟨_,setRow_heap _ _ _ _ _ _ hg,((Below.refl _ w).alloc (Zb2 _) _).trans (below_setRow (Below.refl _ _) (Zb2 _) _),h⟩
theorem Za8 (S I:Nat)(w W:World)(x:Int)(hu:P.underlying S=some (.slice I))(hs:(P.info? I).map (·.size)=some 1)(hg:W.heap[w.heap.size]?=some (.cells #[.int .i64 x,.int .i64 0,.int .i64 0,.int .i64 0] I (0,0)))(hb:Below w.heap.size w W) :
  ∃ W2,W2.heap[w.heap.size]?=some (.cells #[.int .i64 x,.int .i64 x,.int .i64 0,.int .i64 0] I (0,0))/\Below w.heap.size w W2 /\
   (Builtin.copy_ #[S,S] I #[.slice (some ⟨w.heap.size,1,none⟩) 3 3,.slice (some ⟨w.heap.size,0,none⟩) 1 4]).run P W.drew=.ok (goInt 1) W2:=by
 have uq:W.drew.heap[w.heap.size]?=some (.cells #[.int .i64 x,.int .i64 0,.int .i64 0,.int .i64 0] I (0,0)):=hg
 have h:=run_copy_row P W.drew S S I I w.heap.size 1 3 3 ⟨w.heap.size,0,none⟩ 1 4 _ I [.int .i64 x] hu hs uq rfl
  (fun j v hj=>by
   have:j=0:=by have:=(List.getElem?_eq_some_iff.1 hj).1;simpa using this
   subst this;obtain rfl:Value.int .i64 x=v:=by simpa using hj
   rw[Aba];simp[World.cell?,uq]) (by simp) (by simp[Value.oneCell'])
 exact⟨_,setRow_heap _ _ _ _ _ _ uq,hb.drew.trans (below_setRow (Below.refl _ _) (Zb2 _) _),h⟩
theorem Za7 (S I:Nat)(w W:World)(x:Int)(hu:P.underlying S=some (.slice I))(hs:(P.info? I).map (·.size)=some 1)(hg:W.heap[w.heap.size]?=some (.cells #[.int .i64 x,.int .i64 x,.int .i64 0,.int .i64 0] I (0,0)))(hb:Below w.heap.size w W) :
  ∃ W2,W2.heap[w.heap.size]?=some (.cells #[.int .i64 x,.int .i64 x,.int .i64 x,.int .i64 x] I (0,0))/\Below w.heap.size w W2 /\
   (Builtin.copy_ #[S,S] I #[.slice (some ⟨w.heap.size,2,none⟩) 2 2,.slice (some ⟨w.heap.size,0,none⟩) 2 4]).run P W.drew=.ok (goInt 2) W2:=by
 have uq:W.drew.heap[w.heap.size]?=some (.cells #[.int .i64 x,.int .i64 x,.int .i64 0,.int .i64 0] I (0,0)):=hg
 have h:=run_copy_row P W.drew S S I I w.heap.size 2 2 2 ⟨w.heap.size,0,none⟩ 2 4 _ I [.int .i64 x,.int .i64 x] hu hs uq rfl
  (fun j v hj=>by
   have:j=0\/j=1:=by have:=(List.getElem?_eq_some_iff.1 hj).1;simp at this;omega
   rcases this with rfl|rfl <;>
   ·obtain rfl:Value.int .i64 x=v:=by simpa using hj
    rw[Aba];simp[World.cell?,uq]) (by simp) (by simp[Value.oneCell'])
 exact⟨_,setRow_heap _ _ _ _ _ _ uq,hb.drew.trans (below_setRow (Below.refl _ _) (Zb2 _) _),h⟩
theorem Obd {f : Nat} {fn : Func} {c : Code} (hf : P.funcs[f]? = some fn) (hname : (fn.name == "runtime.NumGoroutine") = false) (hb : fn.body = some c) (W : Uad P f) :
  Ya5 P ⟨f,[(false,[.fz false]),(false,[.sc])],[],[(false,[.ow 99])]⟩ Obf:=by
 intro vals w G ds ga cN he;obtain⟨x,rfl,rfl⟩:=Gbc he;obtain⟨u,us,vs,rfl,⟨v,sA,rfl,⟨gE,-⟩,rfl⟩,pg,u2,us2,vs2,rfl,⟨v2,vs3,rfl,jq,rfl⟩,hsh2,eR⟩:=cN.params;simp only[Zbr,if_false]at pg hsh2;obtain rfl:v=u:=by simpa using pg
 obtain rfl:v2=u2:=by simpa using hsh2
 simp only[jQ]at eR;subst eR;have zd:Rd (fun b=>G.own b=.frz) w v (.rows 1 [[.int .i64 x]]):=gE;obtain⟨A,a,n,cc,vs,rfl,hn,hc,hA,-,bb,cq⟩:=zd.inv;obtain rfl:1=n:=hn
 obtain rfl:A=some a:=by
  rcases hA with h|h
  ·cases h
  ·exact h
 have a5w:Sc v2 (.int .i64 4):=jq;obtain rfl:v2=.int .i64 4:=by cases a5w;rfl
 have h0:=(bb 0 [.int .i64 x] rfl 0 (.int .i64 x) rfl).2;have h1:=cq 0 [.int .i64 x] rfl 0 (.int .i64 x) rfl
 have hv:vs 0 0=.int .i64 x:=by
  generalize vs 0 0=v at h1
  cases h1 with
  |sc h=>cases h;rfl
 have ha:a.add (0*1+0)=a:=by unfold Addr.add;cases a with|mk b o s=>cases s<;>simp
 rw[hv,ha]at h0;refine .inl ⟨fU hf hname hb _ _,?_⟩;refine Calls.mono (W a cc x w h0) fun e w' ⟨g,cap,t,h2,hg,oX,hcap2,b7,pk⟩=>?_
 subst h2;have hlt:g<w'.heap.size:=(Array.getElem?_eq_some_iff.1 b7).1;have jr:∀ k,((⟨g,0,none⟩:Addr).add k)=⟨g,k,none⟩:=fun k=>by unfold Addr.add;split<;>simp_all
 refine⟨{ G with own:=fun b=>if b=g then .slc 0 [] else G.own b },[.slice (some ⟨g,0,none⟩) 4 cap],rfl,uA cN rfl pk (fun b hb=>if_neg (by omega)) (fun b hb=>?_),⟨_,_,_,rfl,⟨_,_,rfl,?_,rfl⟩,rfl,rfl⟩,trivial,trivial⟩
 ·show (if b=g then _ else _)=_
  rw[if_neg (by omega)];exact cN.fresh b (Acn pk.size hb)
 ·refine .sl (some ⟨g,0,none⟩) ⟨g,0,none⟩ 4 cap 1 [[.int .i64 x],[.int .i64 x],[.int .i64 x],[.int .i64 x]] (fun _ _=>.int .i64 x) rfl oX (.inl rfl) (by simp) (fun _=>⟨rfl,if_pos rfl,fun k hk=>?_⟩) ?_ ?_
  ·refine⟨.int .i64 x,?_,?_⟩
   ·have:k=0\/k=1\/k=2\/k=3:=by omega
    rw[jr]
    rcases this with rfl|rfl|rfl|rfl<;>simp[World.cell?,b7]
   ·rw[jr];simp[World.frozen?,b7]
  ·intro i row hi j d hj
   have hi4:i<4:=by
    have:=(List.getElem?_eq_some_iff.1 hi).1;simpa using this
   have fL:row=[.int .i64 x]:=by
    have:i=0\/i=1\/i=2\/i=3:=by omega
    rcases this with rfl|rfl|rfl|rfl<;>simpa using hi.symm
   subst fL
   have hj0:j=0:=by
    have:=(List.getElem?_eq_some_iff.1 hj).1;simpa using this
   subst hj0;rw[jr];have:i=0\/i=1\/i=2\/i=3:=by omega
   rcases this with rfl|rfl|rfl|rfl<;>simp[World.cell?,b7]
  ·intro i row hi j d hj
   have hi4:i<4:=by
    have:=(List.getElem?_eq_some_iff.1 hi).1;simpa using this
   have fL:row=[.int .i64 x]:=by
    have:i=0\/i=1\/i=2\/i=3:=by omega
    rcases this with rfl|rfl|rfl|rfl<;>simpa using hi.symm
   subst fL
   have hj0:j=0:=by
    have:=(List.getElem?_eq_some_iff.1 hj).1;simpa using this
   subst hj0;obtain rfl:D.int .i64 x=d:=by simpa using hj
   exact .sc (.int _ _)
theorem Jb3 {f key : Nat} {fn : Func} {c : Code} {T : Nat -> Ent} {ti : Nat -> Option TI} {sigs : List (Nat × Sig)} (hf : P.funcs[f]? = some fn) (hname : (fn.name == "runtime.NumGoroutine") = false) (hb : fn.body = some c) (W : Uad P f) (hT : T key = .ext Obf) :
  Sag P T ti sigs key ⟨f,[(false,[.fz false]),(false,[.sc])],[],[(false,[.ow 99])]⟩ :=
 .inr ⟨_,hT,Obd hf hname hb W⟩
end
end Go.Proofs.YtcbkmmhkccnamaaGreat.Rf
namespace Go.Proofs.YtcbkmmhkccnamaaGreat.Rf
section
variable {P:Program}
end
open Go.Proofs Go.Shelf Go.RowKit Go.Lib
section
variable {P:Program} {ρ:Ren}
end
end Go.Proofs.YtcbkmmhkccnamaaGreat.Rf
namespace Go.Proofs.YtcbkmmhkccnamaaGreat.Rf
def ltQ (p q:Int×Int):Bool:=decide (p.1<q.1)||(p.1==q.1&&decide (p.2<q.2))
theorem Nac {p q:Int×Int}:ltQ p q=true↔p.1<q.1\/(p.1=q.1/\p.2<q.2):=by
 unfold ltQ;simp only[Ac1,Zbo,decide_eq_true_eq,beq_iff_eq]
theorem sD {p q:Int×Int}:ltQ p q=false↔q.1<p.1\/(p.1=q.1/\q.2<=p.2):=by
 rw[<- Bool.not_eq_true,Nac];omega
theorem Vak {p q:Int×Int}(h:ltQ p q=false)(h':ltQ q p=false):p=q:=by
 rw[sD]at h h';apply Prod.ext<;>omega
def Kbi {β:Type}(k:β->Int×Int)(x:β):List β->List β
 |[]=>[x]
 |y::r=>if ltQ (k x) (k y) then x::y::r else y::Kbi k x r
def lJ {β:Type}(k:β->Int×Int):List β->List β
 |[]=>[]
 |x::r=>Kbi k x (lJ k r)
theorem Iaf {β:Type}(k:β->Int×Int)(x:β):∀ l:List β,(Kbi k x l).Perm (x::l)
 |[]=>.refl _
 | y :: r => by
  unfold Kbi;split
  ·exact .refl _
  ·exact ((Iaf k x r).cons y).trans (.swap x y r)
theorem gZ {β:Type}(k:β->Int×Int):∀ l:List β,(lJ k l).Perm l
 |[]=>.refl _
 |x::r=>(Iaf k x _).trans ((gZ k r).cons x)
def rG {β:Type}(k:β->Int×Int)(l:List β):Prop:=l.Pairwise fun x y=>ltQ (k y) (k x)=false
theorem Iae {β:Type}(k:β->Int×Int)(x:β):∀ {l:List β},rG k l->rG k (Kbi k x l)
 |[],_=>by unfold Kbi rG;simp
 | y :: r, h => by
  obtain⟨h1,h2⟩:=List.pairwise_cons.1 h;unfold Kbi;split
  ·rename_i hx
   refine List.pairwise_cons.2 ⟨fun z hz=>?_,h⟩;rw[Nac]at hx
   rcases List.mem_cons.1 hz with rfl|hz
   ·rw[sD];omega
   ·have:=h1 z hz
    rw[sD]at this ⊢;omega
  ·rename_i hx
   refine List.pairwise_cons.2 ⟨fun z hz=>?_,Iae k x h2⟩
   rcases List.mem_cons.1 ((Iaf k x r).mem_iff.1 hz) with rfl|hz
   ·simpa using hx
   ·exact h1 z hz
theorem vP {β:Type}(k:β->Int×Int):∀ l:List β,rG k (lJ k l)
 |[]=>List.Pairwise.nil
 |x::r=>Iae k x (vP k r)
theorem Ea3 {β:Type}(k:β->Int×Int){l l':List β}(hp:l'.Perm l)(hs:rG k l')(hi:∀ x∈l,∀ y∈l,k x=k y->x=y):l'=lJ k l :=
 List.Perm.eq_of_pairwise (le:=fun x y=>ltQ (k y) (k x)=false) (fun a b ha hb h1 h2=>hi a (hp.mem_iff.1 ha) b ((gZ k l).mem_iff.1 hb) (Vak h2 h1)) hs (vP k l) (hp.trans (gZ k l).symm)
def Ta6 (p q:Int×Int):Int:=if ltQ p q then -1 else if ltQ q p then 1 else 0
theorem Kbx {p q:Int×Int}:decide (Ta6 p q<0)=ltQ p q:=by
 unfold Ta6
 cases h:ltQ p q with
 |true=>rfl
 | false =>
  simp only[Zbr,if_false];split<;>rfl
def Hau (p:Int×Int):D:=.rows 1 [[.int .i64 p.1],[.int .i64 p.2]]
def Lag:List (List D)->Option (List (Int×Int))
 |[]=>some []
 |[.rows 1 [[.int .i64 a],[.int .i64 b]]]::r=>(Lag r).map ((a,b)::·)
 |_=>none
theorem Laf:∀ {rs:List (List D)} {l:List (Int×Int)},Lag rs=some l->rs=l.map fun p=>[Hau p]
 |[],l,h=>by obtain rfl:=Option.some.inj h;rfl
 | r :: rs, l, h => by
  unfold Lag at h;split at h
  ·rename_i he;cases he
  ·rename_i a b r' he
   obtain⟨rfl,rfl⟩:=List.cons.inj he;rw[Zbz]at h;obtain⟨l',h1,rfl⟩:=h;rw[Laf h1];rfl
  ·cases h
theorem Lae:∀ l:List (Int×Int),Lag (l.map fun p=>[Hau p])=some l
 |[]=>rfl
 | p :: r => by
  show (Lag (r.map fun p=>[Hau p])).map ((p.1,p.2)::·)=_
  rw[Lae r];rfl
def Kab:List (List D)->Option (List Int)
 |[]=>some []
 |[.int .i64 a]::r=>(Kab r).map (a::·)
 |_=>none
theorem Iad:∀ {rs:List (List D)} {l:List Int},Kab rs=some l->rs=l.map fun p=>[D.int .i64 p]
 |[],l,h=>by obtain rfl:=Option.some.inj h;rfl
 | r :: rs, l, h => by
  unfold Kab at h;split at h
  ·rename_i he;cases he
  ·rename_i a r' he
   obtain⟨rfl,rfl⟩:=List.cons.inj he;rw[Zbz]at h;obtain⟨l',h1,rfl⟩:=h;rw[Iad h1];rfl
  ·cases h
theorem Qap:∀ l:List Int,Kab (l.map fun p=>[D.int .i64 p])=some l
 |[]=>rfl
 | p :: r => by
  show (Kab (r.map fun p=>[D.int .i64 p])).map (p::·)=_
  rw[Qap r];rfl
def vR:Nat:=1000000
def Hal:List D->Option (List D)
 |[.rows 1 rs]=>(Lag rs).bind fun l=>if l.length<=vR then some [.rows 1 ((lJ id l).map fun p=>[Hau p])] else none
 |_=>none
def jE (kl:List Int)(n:Int):Int×Int:=(kl.getD n.toNat 0,0)
def Fab (l kl:List Int):Bool:=(l.all fun n=>decide (0<=n)&&decide (n.toNat<kl.length))&&(kl.all fun k=>decide (0<=k)&&decide (k<=1000000000))&&(l.all fun n=>l.all fun m=>!(jE kl n==jE kl m)||n==m)
def Ka0:List D->Option (List D)
 |[.rows 1 rs,.rows 1 ks]=>(Kab rs).bind fun l=>(Kab ks).bind fun kl=>if l.length<=vR/\Fab l kl=true then some [.rows 1 ((lJ (jE kl) l).map fun p=>[D.int .i64 p])] else none
 |_=>none
section
open Go.Proofs Go.Shelf Go.Sort
variable {P:Program} {ρ:Ren} {own:Nat->Ow} {w:World}
theorem Rp.zero1 {r:Nat}{p:List Nat}{v:Value}{d:D}(h:Rp own w r p 0 v d):Rd (fun b=>own b=.frz) w v d:=by
 cases h with
 |sc h=>exact .sc h
 |hole v h1=>exact .hole v h1
 |fz h=>exact h
theorem Aaw {ds:List D}{bx:Nat->Addr}:∀ {b i q:Nat} {bs:List (Bool×List (BS×BO))},(bs.all (·.1))=true->lX own w ds bx b i q bs
 |b,i,q,[],_=>trivial
 | b, i, q, (ro, cs) :: bs, h => by
  simp only[Bc2,Zbo]at h;simp only[lX];rw[if_pos h.1];exact Aaw h.2
theorem Haa {α:Type}[Inhabited α](enc:α->Value)(gC off m:Nat)(dk:Array α)(os:Array Obj){b:Nat}(hb:b<w.heap.size)(cL:b≠gC):(sortWorld enc w gC off m dk os).heap[b]?=w.heap[b]?:=by
 unfold sortWorld;rw[heap_grow_old _ _ (by simpa using hb)];simp[putRow,mapBlock,Array.getElem?_modify,Ne.symm cL]
theorem Zak {α:Type}[Inhabited α](enc:α->Value)(gC off m:Nat)(dk:Array α)(os:Array Obj):w.heap.size<=(sortWorld enc w gC off m dk os).heap.size:=by
 unfold sortWorld;rw[size_grow];simp
theorem Jb8 {α:Type}{lt:α->α->Prop}:∀ {l:List α},(∀ i j (hi:i<l.length) (hj:j<l.length),i<j->lt l[i] l[j])->l.Pairwise lt:=fun h=>List.pairwise_iff_getElem.2 fun i j hi hj th=>h i j hi hj th
theorem Wao {a:Addr}(h:a.spot=none)(k:Nat):a.add k=⟨a.block,a.off+k,none⟩:=by
 cases a with
 | mk b o s =>
  obtain rfl:s=none:=h;unfold Addr.add;split
  ·rename_i h0;subst h0;rfl
  ·rfl
theorem Pam (L:SlLaysF.n6 P ρ){α β:Type}[Inhabited α](enc:α->Value)(b:α->β)(yn:β->D)(u9:β->Int×Int)(cf:α->α->Int)(u7:∀ x y,ltOf cf x y=ltQ (u9 (b x)) (u9 (b y)))
  {g:Nat} {cs:List LS} {bxs:List (Bool×List (BS×BO))} {vals:List Value} {G:Gh} {ds:List D} (cN:Dbo ⟨ρ.f 6,[(false,[.mu 1]),(false,[.clo g cs])],bxs,[]⟩ vals w G ds)
  (s5:(bxs.all (·.1))=true) (eg:∀ args w,(callFunc g args).run P w=.ok (.enter g args) w)
  {v:Value} (hv:v=G.hdr 0) (cb:List Value) (a1n:vals=[v,.func (.func g) #[] cb.toArray])
  (qj:∀ gC off size,G.own gC=.slc 0 []->CmpLays1 P g cb.toArray enc cf gC off size w) (a1k:∀ x,Rd (fun b=>G.own b=.frz) w (enc x) (yn (b x)))
  {a:Addr} {n c:Nat} (ev:v=.slice (some a) n c) (fh:a.spot=none) (az:G.own a.block=.slc 0 []) (cG:∀ k,k<c->∃ u,w.cell? (a.add k)=some u/\w.frozen? (a.add k)=false)
  (hnc:n<=c) (hn:n<=vR) (ig:0<n) (xs:List α) (qg:xs.length=n) (mS:∀ i x,xs[i]?=some x->w.cell? (a.add i)=some (enc x)) (a8g:∀ x∈xs.map b,∀ y∈xs.map b,u9 x=u9 y->x=y) :
  Calls P (ρ.f 6) vals.toArray w fun e w'=>∃ u,e=.returned u/\Oak ⟨ρ.f 6,[(false,[.mu 1]),(false,[.clo g cs])],bxs,[]⟩ (pO ⟨ρ.f 6,[(false,[.mu 1]),(false,[.clo g cs])],bxs,[]⟩ G w) G.bx u w' [.rows 1 ((lJ u9 (xs.map b)).map fun p=>[yn p])]:=by
 have jr:=Wao fh;have h1:OneCell enc:=fun x=>(a1k x).one
 have hblk:a.block<w.heap.size:=by
  obtain⟨u,hu,-⟩:=cG 0 (by omega);have:=Jak hu;rwa[add_block]at this
 have df:xs.toArray.size=n:=by simpa using qg
 have hH:Holds enc w a.block a.off xs.toArray:=by
  intro j hj;rw[df]at hj;have hjx:j<xs.length:=by omega
  have hx:=mS j xs[j] (by rw[Zbq hjx]);obtain⟨u,hu,hf⟩:=cG j (by omega);rw[jr]at hx hf;refine⟨?_,hf⟩;rw[hx,getElem!_pos xs.toArray j (by simpa using hjx)];simp
 have hO:SWO (ltOf cf):=by
  refine⟨fun x=>?_,fun x y z h h'=>?_,fun x y z h h'=>?_⟩
  ·rw[u7,sD];omega
  ·rw[u7,Nac]at *;omega
  ·rw[u7,sD]at *;omega
 have hS:=Any.slices_SortFunc L enc h1 cf hO g cb.toArray a.block a.off c xs.toArray w eg (qj _ _ _ az) hH hblk (by rw[df];unfold vR at hn;omega)
 have ea:(⟨a.block,a.off,none⟩:Addr)=a:=by
  cases a with
  | mk b o s =>
   obtain rfl:s=none:=fh;rfl
 rw[df,ea,<- ev]at hS;rw[a1n];refine hS.mono ?_
 rintro e w' ⟨rfl,d',m,os,hP,hSo,rfl⟩
 refine⟨_,rfl,?_⟩;obtain⟨oB,-,yt⟩:=hP;rw[df]at oB;have e1:d'.extract 0 n=d':=by rw[<- oB];exact Array.extract_size
 have e2:xs.toArray.extract 0 n=xs.toArray:=by rw[<- df];exact Array.extract_size
 rw[e1,e2]at yt
 have vh:d'.toList.map b=lJ u9 (xs.map b):=by
  refine Ea3 u9 (by simpa using yt.map b) ?_ a8g;refine Jb8 fun i j hi hj th=>?_
  have eS:i<d'.size:=by simpa using hi
  have gR:j<d'.size:=by simpa using hj
  have:=hSo i j (Bch _) th (by omega);rw[u7,getElem!_pos d' i eS,getElem!_pos d' j gR]at this;simpa using this
 have hlen:(lJ u9 (xs.map b)).length=n:=by rw[(gZ u9 _).length_eq,Zb3,qg]
 have hH':Holds enc (sortWorld enc w a.block a.off m d' os) a.block a.off d':=by
  unfold sortWorld;refine holds_grow _ _ _ _ _ _ (by simpa using hblk) (holds_putRow enc _ _ _ xs.toArray d' hH (by rw[df,oB]))
 refine⟨{ G with own:=fun b=>if b=a.block then .slc 1 [] else G.own b },[],rfl,?_,rfl,⟨?_,trivial⟩,Aaw s5⟩
 ·refine⟨rfl,rfl,rfl,Zak enc _ _ _ _ _,fun b hb ho=>?_,fun b j hb ho=>?_,fun b hb=>?_⟩
  ·have cL:b≠a.block:=by rintro rfl;change G.own a.block=_\/G.own a.block=_ at ho;rw[az]at ho;rcases ho with h|h<;>cases h
   exact⟨Haa enc _ _ _ _ _ hb cL,if_neg cL⟩
  ·have cL:b≠a.block:=by rintro rfl;change G.own a.block=_ at ho;rw[az]at ho;cases ho
   obtain⟨-,c0,e0,fr,z7⟩:=cN.cells b j hb ho;refine⟨(if_neg cL).trans ho,c0,c0,e0,fr,z7,(Haa enc _ _ _ _ _ hb cL).trans z7,rfl,fun _ _=>rfl⟩
  ·have h0:=Acn (Zak enc a.block a.off m d' os) hb
   show (if b=a.block then _ else _)=_
   rw[if_neg (by omega)];exact cN.fresh b h0
 ·show Rp _ _ _ _ _ (G.hdr 0) _
  rw[<- hv,ev]
  have il:∀ i p,(lJ u9 (xs.map b))[i]?=some p->∃ x,d'[i]?=some x/\b x=p/\i<d'.size:=by
   intro i p hi;rw[<- vh,Ace,Zbz]at hi;obtain⟨x,hx,rfl⟩:=hi;rw[Array.getElem?_toList]at hx;exact⟨x,hx,rfl,(Array.getElem?_eq_some_iff.1 hx).1⟩
  refine .sl (some a) a n c 1 _ (fun i _=>enc d'[i]!) (by rw[Zb3,hlen]) hnc (.inl rfl) (by simp) (fun _=>⟨fh,if_pos rfl,fun k hk=>?_⟩) (fun i row hi j d hj=>?_) (fun i row hi j d hj=>?_)
  ·rw[Nat.mul_one]at hk
   rcases Aca k n with vc|vc
   ·obtain⟨h3,h4⟩:=hH' k (by omega)
    rw[jr];exact⟨_,h3,h4⟩
   ·obtain⟨u,hu,hf⟩:=cG k hk
    rw[jr]at hu hf ⊢;refine⟨u,?_,?_⟩
    ·unfold sortWorld
     rw[cell?_grow _ _ _ (by simpa using hblk),cell?_putRow_other _ _ _ _ _ _ (.inr (.inr (by simp only[oB];omega)))];exact hu
    ·unfold sortWorld
     rw[frozen?_grow _ _ _ (by simpa using hblk),frozen?_putRow];exact hf
  ·rw[Ace,Zbz]at hi
   obtain⟨p,hp,rfl⟩:=hi;obtain⟨x,hx,-,hlt⟩:=il i p hp
   cases j with
   |succ j=>simp at hj
   | zero =>
    rw[Nat.mul_one,Ack,jr];exact (hH' i hlt).1
  ·rw[Ace,Zbz]at hi
   obtain⟨p,hp,rfl⟩:=hi;obtain⟨x,hx,hb,hlt⟩:=il i p hp
   cases j with
   |succ j=>simp at hj
   | zero =>
    simp only[List.getElem?_cons_zero,Option.some.injEq]at hj;subst hj
    have ex:d'[i]! = x:=by
     rw[getElem!_pos d' i hlt];exact (Array.getElem?_eq_some_iff.1 hx).2
    rw[ex,<- hb];refine .fz ((a1k x).mono' fun b hb hlt=>?_);have cL:b≠a.block:=by rintro rfl;rw[az]at hb;cases hb
    exact⟨(if_neg cL).trans hb,Haa enc _ _ _ _ _ hlt cL⟩
end
section
open Go.Proofs Go.Shelf Go.Sort
variable {P:Program} {ρ:Ren} {own:Nat->Ow} {w:World}
theorem Abs {f g:Nat}{cs:List LS}{bxs:List (Bool×List (BS×BO))}{vals:List Value}{G:Gh}{ds:List D}(cN:Dbo ⟨f,[(false,[.mu 1]),(false,[.clo g cs])],bxs,[]⟩ vals w G ds)
  (s5:(bxs.all (·.1))=true) {d:D} (h:Rp G.own w 0 [] 1 (G.hdr 0) d) :
  Oak ⟨f,[(false,[.mu 1]),(false,[.clo g cs])],bxs,[]⟩ (pO ⟨f,[(false,[.mu 1]),(false,[.clo g cs])],bxs,[]⟩ G w) G.bx (.tuple #[]) w [d]:=by
 let jf:Nat->Ow:=fun b=>match G.own b with
  |.slc s p=>if s=0 then (if p.length<1 then .slc 1 p else .frz) else .slc s p
  |o=>o
 refine⟨{ G with own:=jf },[],rfl,⟨rfl,rfl,rfl,Zb2 _,fun b hb ho=>⟨rfl,?_⟩,fun b j hb ho=>?_,fun b hb=>?_⟩,rfl,⟨?_,trivial⟩,Aaw s5⟩
 ·change G.own b=_\/G.own b=_ at ho
  show jf b=G.own b
  rcases ho with ho|ho<;>simp only[jf,ho]
 ·change G.own b=_ at ho
  obtain⟨-,c0,e0,fr,z7⟩:=cN.cells b j hb ho;refine⟨?_,c0,c0,e0,fr,z7,z7,rfl,fun _ _=>rfl⟩;show jf b=_
  simp only[jf,ho]
 ·show jf b=_
  simp only[jf,cN.fresh b hb]
 ·show Rp jf w 1 [] 1 (G.hdr 0) d
  refine h.move (fun b hb _=>⟨by simp only[jf,hb],rfl⟩) [] 1 (Zb2 _) fun b t hb=>⟨?_,rfl⟩
  simp only[List.nil_append]at hb ⊢;simp only[jf,hb,if_true]
def Oad (P:Program)(g:Nat):Prop :=
 ∀ (a b:Addr) (ca cb:Nat) (x y:Int×Int) (w:World),w.cell? a=some (.int .i64 x.1)->w.cell? (a.add 1)=some (.int .i64 x.2)->w.cell? b=some (.int .i64 y.1)->w.cell? (b.add 1)=some (.int .i64 y.2) ->
  Calls P g #[.slice (some a) 2 ca,.slice (some b) 2 cb] w fun e w'=>e=.returned (.int .i64 (Ta6 x y))/\∃ q os,w'=grow (w.drewN q) os
def Was (own:Nat->Ow)(w:World)(v:Value)(p:Int×Int):Prop :=
 ∃ a c,v=.slice (some a) 2 c/\2<=c/\own a.block=.frz/\w.cell? a=some (.int .i64 p.1)/\w.cell? (a.add 1)=some (.int .i64 p.2)
theorem Bbf {v:Value}{p:Int×Int}(h:Rd (fun b=>own b=.frz) w v (Hau p)):Was own w v p:=by
 obtain⟨A,a,n,c,vs,rfl,hn,hc,hA,df,bb,cq⟩:=h.inv;obtain rfl:n=2:=hn.symm;obtain rfl:A=some a:=hA.resolve_left (by omega);obtain⟨h1,h2⟩:=bb 0 _ rfl 0 _ rfl;obtain⟨-,h3⟩:=bb 1 _ rfl 0 _ rfl;have h4:=cq 0 _ rfl 0 _ rfl;have h5:=cq 1 _ rfl 0 _ rfl;have e0:a.add 0=a:=if_pos rfl;simp only[Nat.zero_mul,Ack,Nat.one_mul,e0]at h2 h3;generalize vs 0 0=u0 at h2 h4;generalize vs 1 0=u1 at h3 h5;obtain rfl:u0=.int .i64 p.1:=by cases h4 with|sc h=>cases h;rfl
 obtain rfl:u1=.int .i64 p.2:=by cases h5 with|sc h=>cases h;rfl
 exact⟨a,c,rfl,hc,h1,h2,h3⟩
theorem Was.rd {v:Value}{p:Int×Int}(h:Was own w v p):Rd (fun b=>own b=.frz) w v (Hau p):=by
 obtain⟨a,c,rfl,hc,ho,h1,h2⟩:=h;have e0:a.add 0=a:=if_pos rfl;refine .rows (some a) a 2 c 1 _ (fun i _=>if i=0 then .int .i64 p.1 else .int .i64 p.2) rfl hc (.inr rfl) (by simp) (fun i r hi j d hj=>?_) (fun i r hi j d hj=>?_)
 ·match i,j with
  |0,0=>exact⟨ho,by simpa[e0] using h1⟩
  |1,0=>exact⟨ho,by simpa using h2⟩
  |0,j+1=>simp at hi;subst hi;simp at hj
  |1,j+1=>simp at hi;subst hi;simp at hj
  |i+2,_=>simp at hi
 ·match i,j with
  |0,0=>simp at hi;subst hi;simp at hj;subst hj;exact .sc (.int _ _)
  |1,0=>simp at hi;subst hi;simp at hj;subst hj;exact .sc (.int _ _)
  |0,j+1=>simp at hi;subst hi;simp at hj
  |1,j+1=>simp at hi;subst hi;simp at hj
  |i+2,_=>simp at hi
theorem Rp.sl1 {v:Value}{sz:Nat}{rs:List (List D)}(h:Rp own w 0 [] 1 v (.rows sz rs)):∃ (A:Option Addr) (a:Addr) (n c:Nat) (vs:Nat->Nat->Value),v=.slice A n c/\rs.length=n/\n<=c/\(A=some a\/(A=none/\c=0))/\(∀ r∈rs,r.length=sz) /\
  (A=some a->a.spot=none/\own a.block=.slc 0 []/\∀ k,k<c*sz->∃ u,w.cell? (a.add k)=some u/\w.frozen? (a.add k)=false) /\
  (∀ i row,rs[i]?=some row->∀ j d,row[j]?=some d->w.cell? (a.add (i*sz+j))=some (vs i j))/\∀ i row,rs[i]?=some row->∀ j d,row[j]?=some d->Rd (fun b=>own b=.frz) w (vs i j) d:=by
 obtain⟨A,a,n,c,vs,e1,e2,e3,e4,e5,e6,e7,e8⟩:=h.sl_inv;exact⟨A,a,n,c,vs,e1,e2,e3,e4,e5,e6,e7,fun i row hi j d hj=>(e8 i row hi j d hj).zero1⟩
theorem Fb0 (L : SlLaysF.n6 P ρ) {g : Nat} {fn : Func} {c : Code} (hg : P.funcs[g]? = some fn) (hname : (fn.name == "runtime.NumGoroutine") = false) (hb : fn.body = some c) (W : Oad P g) :
  Ya5 P ⟨ρ.f 6,[(false,[.mu 1]),(false,[.clo g []])],[],[]⟩ Hal:=by
 intro vals w G ds ga cN hr;unfold Hal at hr;split at hr
 case h_2=>cases hr
 rename_i rs;rw[Zbn]at hr;obtain⟨l,hl,hr⟩:=hr;split at hr
 case isFalse=>cases hr
 rename_i hlen;obtain rfl:=Option.some.inj hr;obtain⟨u,us,vs,rfl,⟨v,sA,rfl,⟨hv,fg⟩,rfl⟩,pg,u2,us2,vs2,rfl,⟨v2,vs3,rfl,⟨cb,rfl,s6⟩,rfl⟩,hsh2,eR⟩:=cN.params;simp only[Zbr,if_false]at pg hsh2;obtain rfl:v=u:=by simpa using pg
 obtain rfl:Value.func (.func g) #[] cb.toArray=u2:=by simpa using hsh2
 simp only[jQ]at eR;subst eR;simp only[xP]at s6;subst s6;have ph:Rp G.own w 0 [] 1 v (.rows 1 rs):=fg;obtain⟨A,a,n,c,cv,dm,hn,oX,hA,df,az,bb,cq⟩:=ph.sl1;obtain rfl:=Laf hl;rw[Zb3]at hn;obtain⟨nm,qb,hfn⟩:=L.f6;refine .inl ⟨fU hfn qb rfl _ _,?_⟩
 rcases Nat.eq_zero_or_pos n with h0|ig
 ·subst h0
  obtain rfl:l=[]:=Ac5 hn;have h:=AnyF.slices_SortFunc_none (P:=P) (ρ:=ρ) { L with } A c (.func (.func g) #[] #[]) w;rw[dm];refine h.mono ?_
  rintro e w' ⟨rfl,rfl⟩
  exact Abs cN rfl (hv▸ph)
 ·obtain rfl:A=some a:=by
   rcases hA with h|⟨-,h⟩
   ·exact h
   ·omega
  obtain⟨fh,mC,cG⟩:=az rfl
  let α:={ x:Value×(Int×Int) // Was G.own w x.1 x.2 }
  have hex:∀ i,i<n->∃ x:α,l[i]?=some x.1.2/\cv i 0=x.1.1:=by
   intro i hi;have eS:l[i]?=some (l[i]'(by omega)):=Zbq (by omega);have hr:=cq i [Hau (l[i]'(by omega))] (by rw[Ace,eS];rfl) 0 _ rfl;exact⟨⟨(cv i 0,l[i]'(by omega)),Bbf hr⟩,eS,rfl⟩
  obtain⟨xs,qg,mS⟩:=Nah n hex
  haveI:Inhabited α:=⟨(hex 0 ig).choose⟩
  have vu:xs.map (fun x:α=>x.1.2)=l:=by
   apply Cch;intro i;rw[Ace]
   rcases Aca i n with hi|hi
   ·have hx:xs[i]?=some (xs[i]'(by omega)):=Zbq (by omega)
    rw[hx];exact (mS i _ hx).1.symm
   ·rw[Bcb (by omega),Bcb (by omega)]
    rfl
  have kt:=Pam (w:=w) (G:=G) L (α:=α) (fun x=>x.1.1) (fun x=>x.1.2) Hau id (fun x y=>Ta6 x.1.2 y.1.2) (fun x y=>Kbx) (g:=g) cN rfl (fun args w=>fU hg hname hb args w) hv [] rfl
   (fun gC off size hbl m os dk hs x y=>?_) (fun x=>x.2.rd) dm fh mC (fun k hk=>cG k (by omega)) oX (by omega) ig xs qg (fun i x hx=>?_) (fun x _ y _ h=>h)
  ·rw[vu]at kt
   refine kt.mono ?_
   rintro e w' ⟨u,rfl,h⟩
   exact h
  ·obtain⟨ax,cx,hxv,hcx,xd,nu,lv⟩:=x.2
   obtain⟨ay,cy,zv,hcy,xa,xt,xf⟩:=y.2
   have fu:∀ (b:Addr) (u:Value),G.own b.block=.frz->w.cell? b=some u->(sortWorld (fun x:α=>x.1.1) w gC off m dk os).cell? b=some u:=by
    intro b u ho hc;refine (eU (Haa _ _ _ _ _ _ (Jak hc) ?_)).trans hc;intro e;rw[e,hbl]at ho;cases ho
   show Calls P g #[x.1.1,y.1.1] _ _
   rw[hxv,zv];exact (W ax ay cx cy x.1.2 y.1.2 _ (fu _ _ xd nu) (fu _ _ (by rw[add_block];exact xd) lv) (fu _ _ xa xt) (fu _ _ (by rw[add_block];exact xa) xf))
  ·obtain⟨h1,h2⟩:=mS i x hx
   have:=bb i [Hau x.1.2] (by rw[Ace,h1];rfl) 0 _ rfl;rw[Nat.mul_one,Ack,h2]at this;exact this
theorem Zaq (L : SlLaysF.n6 P ρ) {f g key : Nat} {fn : Func} {c : Code} {T : Nat -> Ent} {ti : Nat -> Option TI} {sigs : List (Nat × Sig)} (hf : ρ.f 6 = f) (hg : P.funcs[g]? = some fn) (hname : (fn.name == "runtime.NumGoroutine") = false) (hb : fn.body = some c) (W : Oad P g)
  (hT:T key=.ext Hal):Sag P T ti sigs key ⟨f,[(false,[.mu 1]),(false,[.clo g []])],[],[]⟩:=by
 subst hf;exact .inr ⟨_,hT,Fb0 L hg hname hb W⟩
end
section
open Go.Proofs Go.Shelf Go.Sort
variable {P:Program} {ρ:Ren} {own:Nat->Ow} {w:World}
def Uaf (P:Program)(g:Nat):Prop :=
 ∀ (p ad:Addr) (n c:Nat) (x y kx ky:Int) (w:World),w.cell? p=some (.slice (some ad) n c)->0<=x->x.toNat<n->0<=y->y.toNat<n->w.cell? (ad.add x.toNat)=some (.int .i64 kx)->w.cell? (ad.add y.toNat)=some (.int .i64 ky) ->
  Calls P g #[.int .i64 x,.int .i64 y,.pointer (some p)] w fun e w'=>e=.returned (.int .i64 (IntKind.i64.wrap (kx-ky)))/\∃ q os,w'=grow (w.drewN q) os
theorem Xaz {l kl:List Int}(h:Fab l kl=true):(∀ n∈l,0<=n/\n.toNat<kl.length)/\(∀ k∈kl,0<=k/\k<=1000000000)/\∀ n∈l,∀ m∈l,jE kl n=jE kl m->n=m:=by
 unfold Fab at h;simp only[Zbo,Acd,decide_eq_true_eq,Ac1,Bool.not_eq_true',beq_iff_eq,beq_eq_false_iff_ne]at h;obtain⟨⟨h1,h2⟩,h3⟩:=h;exact⟨h1,h2,fun n hn m hm e=>(h3 n hn m hm).resolve_left fun h=>h e⟩
theorem wrap_small {k:Int}(h:-4000000000<=k)(h':k<=4000000000):IntKind.i64.wrap k=k:=by
 simp only[IntKind.wrap,IntKind.bits,IntKind.signed];simp;omega
theorem Fb1 (L : SlLaysF.n6 P ρ) {g : Nat} {fn : Func} {c : Code} (hg : P.funcs[g]? = some fn) (hname : (fn.name == "runtime.NumGoroutine") = false) (hb : fn.body = some c) (W : Uaf P g) :
  Ya5 P ⟨ρ.f 6,[(false,[.mu 1]),(false,[.clo g [.px 0]])],[(true,[(.fz false,.fz)])],[]⟩ Ka0:=by
 intro vals w G ds ga cN hr;unfold Ka0 at hr;split at hr
 case h_2=>cases hr
 rename_i rs ks;rw[Zbn]at hr;obtain⟨l,hl,hr⟩:=hr;rw[Zbn]at hr;obtain⟨kl,qq,hr⟩:=hr;split at hr
 case isFalse=>cases hr
 rename_i hc;obtain⟨hlen,hko⟩:=hc;obtain rfl:=Option.some.inj hr;obtain⟨hk1,u5,hk3⟩:=Xaz hko;obtain⟨u,us,vs,rfl,⟨v,sA,rfl,⟨hv,fg⟩,rfl⟩,pg,u2,us2,vs2,rfl,⟨v2,vs3,rfl,⟨cb,rfl,s6⟩,rfl⟩,hsh2,eR⟩:=cN.params;simp only[Zbr,if_false]at pg hsh2;obtain rfl:v=u:=by simpa using pg
 obtain rfl:Value.func (.func g) #[] cb.toArray=u2:=by simpa using hsh2
 simp only[jQ]at eR;subst eR;obtain⟨pv,cbs,rfl,⟨hp1,-⟩,s6⟩:=s6;simp only[xP]at s6;subst s6;subst hp1;obtain⟨zh,hbo,⟨⟨kv,ox,-,oa,-⟩,-⟩,-⟩:=cN.boxes;rw[if_pos rfl]at hbo;have a7j:Rd (fun b=>G.own b=.frz) w kv (.rows 1 ks):=oa;obtain⟨Ak,ak,nk,ck,kvs,rfl,hnk,hck,hAk,-,y6,a3s⟩:=a7j.inv;have eb:(G.bx 0).add 0=G.bx 0:=if_pos rfl;rw[eb]at ox;have ph:Rp G.own w 0 [] 1 v (.rows 1 rs):=fg;obtain⟨A,a,n,c,cv,dm,hn,oX,hA,df,az,bb,cq⟩:=ph.sl1;obtain rfl:=Iad hl;obtain rfl:=Iad qq;rw[Zb3]at hn hnk;obtain⟨nm,qb,hfn⟩:=L.f6;refine .inl ⟨fU hfn qb rfl _ _,?_⟩
 rcases Nat.eq_zero_or_pos n with h0|ig
 ·subst h0
  obtain rfl:l=[]:=Ac5 hn;have h:=AnyF.slices_SortFunc_none (P:=P) (ρ:=ρ) { L with } A c (.func (.func g) #[] #[.pointer (some (G.bx 0))]) w;rw[dm];refine h.mono ?_
  rintro e w' ⟨rfl,rfl⟩
  exact Abs cN rfl (hv▸ph)
 ·obtain rfl:A=some a:=by
   rcases hA with h|⟨-,h⟩
   ·exact h
   ·omega
  obtain⟨fh,mC,cG⟩:=az rfl
  let α:={ x:Int // 0<=x/\x.toNat<kl.length }
  have hex:∀ i,i<n->∃ x:α,l[i]?=some x.1/\cv i 0=.int .i64 x.1:=by
   intro i hi;have eS:l[i]?=some (l[i]'(by omega)):=Zbq (by omega);have hr:=cq i [.int .i64 (l[i]'(by omega))] (by rw[Ace,eS];rfl) 0 _ rfl;refine⟨⟨l[i]'(by omega),hk1 _ (Bcu _)⟩,eS,?_⟩;generalize cv i 0=u at hr
   cases hr with
   |sc h=>cases h;rfl
  obtain⟨xs,qg,mS⟩:=Nah n hex
  haveI:Inhabited α:=⟨(hex 0 ig).choose⟩
  have vu:xs.map (fun x:α=>x.1)=l:=by
   apply Cch;intro i;rw[Ace]
   rcases Aca i n with hi|hi
   ·have hx:xs[i]?=some (xs[i]'(by omega)):=Zbq (by omega)
    rw[hx];exact (mS i _ hx).1.symm
   ·rw[Bcb (by omega),Bcb (by omega)]
    rfl
  have km:∀ x:α,∃ k,jE kl x.1=(k,0)/\0<=k/\k<=1000000000/\Ak=some ak/\G.own ak.block=.frz/\w.cell? (ak.add x.1.toNat)=some (.int .i64 k):=by
   intro x;have hlt:=x.2.2;have hg:kl[x.1.toNat]?=some (kl[x.1.toNat]'hlt):=Zbq hlt;have h1:=y6 x.1.toNat [.int .i64 (kl[x.1.toNat]'hlt)] (by rw[Ace,hg];rfl) 0 _ rfl;have h2:=a3s x.1.toNat [.int .i64 (kl[x.1.toNat]'hlt)] (by rw[Ace,hg];rfl) 0 _ rfl;have h3:=u5 _ (Bcu hlt);refine⟨kl[x.1.toNat]'hlt,by unfold jE;rw[Zbu,hg];rfl,h3.1,h3.2,hAk.resolve_left (by omega),h1.1,?_⟩;have h4:=h1.2;rw[Nat.mul_one,Ack]at h4;rw[h4];generalize kvs x.1.toNat 0=u at h2
   cases h2 with
   |sc h=>cases h;rfl
  have kt:=Pam (w:=w) (G:=G) L (α:=α) (fun x=>.int .i64 x.1) (fun x=>x.1) (fun n=>.int .i64 n) (jE kl) (fun x y=>IntKind.i64.wrap ((jE kl x.1).1-(jE kl y.1).1)) (fun x y=>?_) (g:=g) cN rfl (fun args w=>fU hg hname hb args w) hv [.pointer (some (G.bx 0))] rfl
   (fun gC off size hbl m os dk hs x y=>?_) (fun x=>.sc (.int _ _)) dm fh mC (fun k hk=>cG k (by omega)) oX (by omega) ig xs qg (fun i x hx=>?_) ?_
  ·rw[vu]at kt
   refine kt.mono ?_
   rintro e w' ⟨u,rfl,h⟩
   exact h
  ·obtain⟨kx,ex,nu,lv,-⟩:=km x
   obtain⟨ky,ey,xt,xf,-⟩:=km y;have e1:IntKind.i64.wrap ((jE kl x.1).1-(jE kl y.1).1)=kx-ky:=by rw[ex,ey];exact wrap_small (by dsimp only;omega) (by dsimp only;omega)
   have e2:ltOf (fun x y:α=>IntKind.i64.wrap ((jE kl x.1).1-(jE kl y.1).1)) x y=decide (kx-ky<0):=by
    unfold ltOf;simp only[e1]
   rw[e2,ex,ey];unfold ltQ;simp;omega
  ·obtain⟨kx,ex,nu,lv,hA,ej,hxc⟩:=km x
   obtain⟨ky,ey,xt,xf,-,-,hyc⟩:=km y
   have fu:∀ (b:Addr) (u:Value),G.own b.block≠.slc 0 []->w.cell? b=some u->(sortWorld (fun x:α=>Value.int .i64 x.1) w gC off m dk os).cell? b=some u:=by
    intro b u ho hc;refine (eU (Haa _ _ _ _ _ _ (Jak hc) ?_)).trans hc;intro e;rw[e]at ho;exact ho hbl
   show Calls P g #[.int .i64 x.1,.int .i64 y.1,.pointer (some (G.bx 0))] (sortWorld (fun x:α=>Value.int .i64 x.1) w gC off m dk os) fun e w'=>e=.returned (.int .i64 (IntKind.i64.wrap ((jE kl x.1).1-(jE kl y.1).1)))/\∃ q os',w'=grow ((sortWorld (fun x:α=>Value.int .i64 x.1) w gC off m dk os).drewN q) os'
   rw[ex,ey];refine W (G.bx 0) ak nk ck x.1 y.1 kx ky _ ?_ x.2.1 (by have:=x.2.2;omega) y.2.1 (by have:=y.2.2;omega) (fu _ _ (by rw[add_block,ej];simp) hxc) (fu _ _ (by rw[add_block,ej];simp) hyc);rw[<- hA];exact fu _ _ (by rw[hbo];simp) ox
  ·obtain⟨h1,h2⟩:=mS i x hx
   have:=bb i [.int .i64 x.1] (by rw[Ace,h1];rfl) 0 _ rfl;rw[Nat.mul_one,Ack,h2]at this;exact this
  ·rw[vu]
   exact hk3
theorem Zar (L : SlLaysF.n6 P ρ) {f g key : Nat} {fn : Func} {c : Code} {T : Nat -> Ent} {ti : Nat -> Option TI} {sigs : List (Nat × Sig)} (hf : ρ.f 6 = f) (hg : P.funcs[g]? = some fn) (hname : (fn.name == "runtime.NumGoroutine") = false) (hb : fn.body = some c) (W : Uaf P g)
  (hT:T key=.ext Ka0):Sag P T ti sigs key ⟨f,[(false,[.mu 1]),(false,[.clo g [.px 0]])],[(true,[(.fz false,.fz)])],[]⟩:=by
 subst hf;exact .inr ⟨_,hT,Fb1 L hg hname hb W⟩
end
section
open Go.Proofs Go.Shelf Go.RowKit Go.Lib Go.Sort
variable {P:Program} {ρ:Ren}
set_option maxHeartbeats 4000000 in
set_option maxRecDepth 1000000 in
theorem Taz (L:SlLaysE0.n45 P ρ){K:Nat}{i0:TypeInfo}{z:Value}(nq:P.info? (ρ.t 23)=some i0)(wi:i0.zero=some z)(na:i0.size=K)(vg:z.cells.size=K)(hK:0<K)(hzo:∀ u∈z.cells.toList,u.oneCell'=true)
  (z23:∀ w,(Go.sizeOf (ρ.t 23)).run P w=.ok K w) (gC off n cap i j:Nat) (w:World) (olds:List Value) (rz:olds.length=n*K) (wq:∀ k u,olds[k]?=some u->w.cell? ⟨gC,off+k,none⟩=some u) (ho1:∀ u∈olds,u.oneCell'=true)
  (cP:∀ k,k<cap*K->∃ u,w.cell? ⟨gC,off+k,none⟩=some u/\w.frozen? ⟨gC,off+k,none⟩=false) (oX:n<=cap) (hn:n<=4611686018427387904) (th:i<=j) (hj:j<=n) :
  Calls P (ρ.f 45) #[.slice (some ⟨gC,off,none⟩) n cap,.int .i64 i,.int .i64 j] w fun e w'=>e=.returned (.slice (some ⟨gC,off,none⟩) (n-(j-i)) cap) /\
   ((i=j/\w'=w)\/(i<j/\w'=(w.drew.setCells gC (off+i*K) (olds.drop (j*K))).setCells gC (off+(i+(n-j))*K) (Builtin.zeroCells z.cells (n-(i+(n-j)))).toList)):=by
 have mixed:=L.mixed;have t0:=L.t0;have a0:=L.a0;have z0:=L.z0;have v0:=L.v0;have t3:=L.t3;have a3:=L.a3;have z3:=L.z3;have v3:=L.v3;have t4:=L.t4;have a4:=L.a4;have z4:=L.z4;have v4:=L.v4;have t22:=L.t22;have a22:=L.a22;have z22:=L.z22;have v22:=L.v22
 by_cases heq:i=j
 ·subst heq
  have h0:Calls P (ρ.f 45) #[.slice (some ⟨gC,off,none⟩) n cap,.int .i64 i,.int .i64 i] w fun e w'=>e=.returned (.slice (some ⟨gC,off,none⟩) n cap)/\w'=w:=by
   clear wq ho1 cP rz;obtain⟨_,_,FG⟩:=L.f45
   go_enter FG,SlBodyN.n45_ntmps ρ
   go_wp2
   all_goals (go_ret;exact⟨rfl,rfl⟩)
  refine h0.mono ?_
  rintro e w' ⟨rfl,rfl⟩
  exact⟨by rw[Nat.sub_self,Nat.sub_zero],.inl ⟨rfl,rfl⟩⟩
 ·have hlt:i<j:=by omega
  obtain⟨news,mf⟩:∃ news,news=olds.drop (j*K):=⟨_,rfl⟩;have hlen:news.length=(n-j)*K:=by rw[mf,Ac7,rz,Nat.sub_mul]
  have hjc:cap≠j->j<cap:=by omega
  have hmul:∀ a b:Nat,a<=b->a*K<=b*K:=fun a b h=>Bcc K h
  obtain⟨A,hA,pZ⟩:∃ A:Addr,(if cap=j then (some (⟨gC,off,none⟩:Addr)) else some ⟨gC,off+j*K,none⟩)=some A/\Hid (∀ t u,news[t]?=some u->w.drew.cell? (A.add t)=some u):=by
   by_cases h:cap=j
   ·refine⟨⟨gC,off,none⟩,by simp[h],fun t u hu=>?_⟩
    have h0:news.length=0:=by rw[hlen,show n-j=0 by omega,Nat.zero_mul]
    rw[List.length_eq_zero_iff.1 h0]at hu;simp at hu
   ·refine⟨⟨gC,off+j*K,none⟩,by simp[h],fun t u hu=>?_⟩
    rw[mf,Acv]at hu;have:=wq _ u hu;rw[Addr.add_lit,show off+j*K+t=off+(j*K+t) by omega];exact this
  have s1:Hid (news.length=(n-j)*K):=hlen;have s2:Hid (∀ u∈news,u.oneCell'=true):=fun u hu=>ho1 u (Bc1 (mf▸hu))
  have nn:i*K+(n-j)*K<=cap*K:=by rw[<- Bce];exact hmul _ _ (by omega)
  have s3:Hid (∀ t,t<news.length->(w.drew.cell? ⟨gC,off+i*K+t,none⟩).isSome=true/\w.drew.frozen? ⟨gC,off+i*K+t,none⟩=false):=by
   intro t ht;rw[hlen]at ht;obtain⟨u,h1,h2⟩:=cP (i*K+t) (by omega);rw[Acb];exact⟨by show (w.cell? _).isSome=true;rw[h1];rfl,h2⟩
  obtain⟨W1,hW1⟩:∃ W1,W1=w.drew.setCells gC (off+i*K) news:=⟨_,rfl⟩
  have yo:∀ k,k<cap*K->∃ u,W1.cell? ⟨gC,off+k,none⟩=some u/\W1.frozen? ⟨gC,off+k,none⟩=false:=by
   intro k hk;obtain⟨u,h1,h2⟩:=cP k hk;rw[hW1];obtain⟨u',h3⟩:=jV (w:=w.drew) (B:=gC) (o:=off+i*K) (vs:=news) (b:=⟨gC,off+k,none⟩) (fun _=>rfl) (fun t ht=>(s3.out t ht).1) h1;exact⟨u',h3,by rw[World.frozen?_setCells];exact h2⟩
  generalize hZ:(Builtin.zeroCells z.cells (n-(i+(n-j)))).toList=Z;have hZl:Z.length=(n-(i+(n-j)))*K:=by rw[<- hZ];simp[Builtin.zeroCells,vg]
  have hZ1:∀ u∈Z,u.oneCell'=true:=by
   intro u hu;rw[<- hZ,Builtin.zeroCells,Array.mem_toList_iff,Array.mem_map]at hu;obtain⟨q,hq,rfl⟩:=hu;have hlt:q % z.cells.size<z.cells.size:=Nat.mod_lt _ (by omega);rw[getElem!_pos z.cells _ hlt];exact hzo _ (Array.getElem_mem_toList hlt)
  have hL:∀ ty,(Builtin.clear_ #[ρ.t 22] ty #[.slice (some ⟨gC,off+(i+(n-j))*K,none⟩) (n-(i+(n-j))) (cap-(i+(n-j)))]).run P W1=.ok (.tuple #[]) (W1.setCells gC (off+(i+(n-j))*K) Z):=by
   intro ty
   have cG:∀ t,t<Z.length->∃ u,W1.cell? ⟨gC,off+(i+(n-j))*K+t,none⟩=some u/\W1.frozen? ⟨gC,off+(i+(n-j))*K+t,none⟩=false:=fun t ht=>by
    have h1:(i+(n-j))*K+(n-(i+(n-j)))*K<=cap*K:=by rw[<- Bce];exact hmul _ _ (by omega)
    have:=yo ((i+(n-j))*K+t) (by omega);rwa[<- Acb]at this
   have aE:=run_storeCells_cells (P:=P) gC (off+(i+(n-j))*K) Z 0 W1 (fun t ht=>by obtain⟨u,h1,-⟩:=cG t ht;rw[Ack,h1];rfl) (fun t ht=>by rw[Ack];exact (cG t ht).choose_spec.2) hZ1;obtain⟨q,hq⟩:∃ q,n-(i+(n-j))=q+1:=⟨n-(i+(n-j))-1,by omega⟩;rw[hq]at hZ ⊢;simp only[Ack]at aE;simp[Builtin.clear_,run_underlying t22,lK nq wi,hZ,aE]
  have hW:Hid (W1=w.drew.setCells gC (off+i*K) news):=hW1;have hn':Hid (news=olds.drop (j*K)):=mf;have hic:i<=cap:=by omega
  have hjc:j<=cap:=by omega
  have hK0:Hid (0<K):=hK;clear hW1 mf hlen yo cP wq ho1 rz hmul nn hZ hZl hZ1 hK;obtain⟨_,_,FG⟩:=L.f45
  go_enter FG,SlBodyN.n45_ntmps ρ
  go_wp2_with fail
  go_region_law_o (refine step_append_room rfl (.tmp 22) (.tmp 25) (ρ.t 22) rfl (ρ.t 23) i0 K t22 nq na gC off i cap (by simp[Act.eval,Act.put]) A (n-j) (cap-j) news (by simp[Act.eval,Act.put]) s1.out pZ.out s2.out (by omega) s3.out ?_;rw[<- hW.out])
  go_wp2
  go_ret
  refine⟨by rw[show n-(j-i)=i+(n-j) by omega];rfl,.inr ⟨hlt,?_⟩⟩;rw[hW.out,hn'.out]
end
section
open Go.Proofs Go.Shelf
variable {P:Program} {ρ:Ren}
def Kbv (K:Nat):List D->Option (List D)
 |[.rows sz rs,.int .i64 i,.int .i64 j]=>if sz=K/\0<=i/\i<=j/\j<=rs.length/\rs.length<=4611686018427387904/\0<rs.length then some [.rows K (rs.take i.toNat++rs.drop j.toNat)] else none
 |_=>none
def Cbn (K i j:Nat):Ow->Ow
 |.slc 0 (k::p)=>if k / K<i then .slc 0 (k::p) else if k / K<j then .frz else .slc 0 ((k-(j-i)*K)::p)
 |o=>o
theorem Hbh {K i j r c:Nat}{p:List Nat}(hK:0<K)(hc:c<K)(h:r<i):Cbn K i j (.slc 0 ((r*K+c)::p))=.slc 0 ((r*K+c)::p):=by
 have e:(r*K+c) / K=r:=by rw[Cc0,Nat.mul_add_div hK,Cc4 hc,Ack]
 simp only[Cbn];rw[e,if_pos h]
theorem Cbm {K i j r c:Nat}{p:List Nat}(hK:0<K)(hc:c<K)(th:i<=j)(h:i<=r):Cbn K i j (.slc 0 (((r+(j-i))*K+c)::p))=.slc 0 ((r*K+c)::p):=by
 have e:((r+(j-i))*K+c) / K=r+(j-i):=by rw[Cc0,Nat.mul_add_div hK,Cc4 hc,Ack]
 simp only[Cbn];rw[e,if_neg (by omega),if_neg (by omega),Bce];congr 2;omega
theorem Cbl (L:SlLaysE0.n45 P ρ){K m:Nat}{i0:TypeInfo}{z:Value}(nq:P.info? (ρ.t 23)=some i0)(wi:i0.zero=some z)(na:i0.size=K)(vg:z.cells.size=K)(hK:0<K)(hzo:∀ u∈z.cells.toList,u.oneCell'=true)
  (z23:∀ w,(Go.sizeOf (ρ.t 23)).run P w=.ok K w):Ya5 P ⟨ρ.f 45,[(false,[.ow (m+1)]),(false,[.sc]),(false,[.sc])],[],[(false,[.ow (m+1)])]⟩ (Kbv K):=by
 intro vals w G ds ga cN hr;unfold Kbv at hr;split at hr
 case h_2=>cases hr
 rename_i sz rs i j;split at hr
 case isFalse=>cases hr
 rename_i hc;obtain⟨rfl,h0,th,hj,hbig,ig⟩:=hc;obtain rfl:=Option.some.inj hr;obtain⟨u,us,vs,rfl,⟨v,sA,rfl,⟨hv,fg⟩,rfl⟩,pg,u2,us2,vs2,rfl,⟨v2,vs3,rfl,k8,rfl⟩,hsh2,u3,us3,vs4,rfl,⟨v3,vs5,rfl,hs3,rfl⟩,hsh3,eR⟩:=cN.params;simp only[Zbr,if_false]at pg hsh2 hsh3;obtain rfl:v=u:=by simpa using pg
 obtain rfl:v2=u2:=by simpa using hsh2
 obtain rfl:v3=u3:=by simpa using hsh3
 simp only[jQ]at eR;subst eR;have a8q:Sc v2 (.int .i64 i):=k8;have a47:Sc v3 (.int .i64 j):=hs3;obtain rfl:=a8q.int_inv;obtain rfl:=a47.int_inv;have ph:Rp G.own w 0 [] (m+1) v (.rows sz rs):=fg;obtain⟨A,a,n,c,cv,dm,hn,oX,hA,df,az,bb,cq⟩:=ph.sl_inv
 obtain rfl:A=some a:=by
  rcases hA with h|⟨-,h⟩
  ·exact h
  ·omega
 obtain⟨fh,mC,cG⟩:=az rfl;have jr:=Wao fh;obtain⟨nm,qb,hfn⟩:=L.f45;refine .inl ⟨fU hfn qb rfl _ _,?_⟩
 have ea:(⟨a.block,a.off,none⟩:Addr)=a:=by
  cases a with
  | mk b o s =>
   obtain rfl:s=none:=fh;rfl
 have tA:=Dav df bb;have hL:(lT cv n sz).length=n*sz:=nY _ _ _
 have wu:∀ r,r<n->∃ row,rs[r]?=some row/\row.length=sz:=fun r hr=>by
  have h1:rs[r]?=some (rs[r]'(by omega)):=Zbq (by omega);exact⟨_,h1,df _ (Zb4 h1)⟩
 have lh:∀ u∈lT cv n sz,u.oneCell'=true:=by
  intro u hu;obtain⟨k,hk⟩:=List.mem_iff_getElem?.1 hu;obtain⟨k1,k2,k3,rfl⟩:=Ean hk;obtain⟨row,h1,h2⟩:=wu _ k1;have h3:row[k % sz]?=some (row[k % sz]'(by omega)):=Zbq (by omega);exact (cq _ _ h1 _ _ h3).one
 have vj:((i.toNat:Nat):Int)=i:=by omega
 have hej:((j.toNat:Nat):Int)=j:=by omega
 have hW:=Taz L nq wi na vg hK hzo z23 a.block a.off n c i.toNat j.toNat w (lT cv n sz) hL (fun k u hk=>by rw[<- jr];exact tA k u (hn.symm▸hk)) lh (fun k hk=>by rw[<- jr];exact cG k hk) oX (by omega) (by omega) (by omega);rw[ea,<- dm,vj,hej]at hW;refine hW.mono ?_
 rintro e w' ⟨rfl,hw⟩
 rcases hw with ⟨a6t,rfl⟩|⟨hlt,hw⟩
 ·
  refine⟨G,[_],rfl,Faj cN rfl,⟨_,_,_,rfl,⟨_,_,rfl,?_,rfl⟩,rfl,rfl⟩,trivial,trivial⟩;have e1:rs.take i.toNat++rs.drop j.toNat=rs:=by rw[<- a6t];exact List.take_append_drop _ _
  show Rp G.own w' 0 [] (m+1) (.slice (some a) (n-(j.toNat-i.toNat)) c) (.rows sz (rs.take i.toNat++rs.drop j.toNat))
  rw[e1,show n-(j.toNat-i.toNat)=n by omega,<- dm];exact ph
 ·generalize hI:i.toNat=I at *
  generalize hJ:j.toNat=J at *;have hJn:J<=n:=by omega
  generalize hZ:(Builtin.zeroCells z.cells (n-(I+(n-J)))).toList=Z at hw;have hZl:Z.length=(n-(I+(n-J)))*sz:=by rw[<- hZ];simp[Builtin.zeroCells,vg]
  have hmul:∀ a b:Nat,a<=b->a*sz<=b*sz:=fun a b h=>Bcc sz h
  have vA:((lT cv n sz).drop (J*sz)).length=(n-J)*sz:=by rw[Ac7,hL,Nat.sub_mul]
  generalize mf:(lT cv n sz).drop (J*sz)=news at hw vA;have nn:I*sz+(n-J)*sz<=c*sz:=by rw[<- Bce];exact hmul _ _ (by omega)
  have hroom2:(I+(n-J))*sz+(n-(I+(n-J)))*sz<=c*sz:=by rw[<- Bce];exact hmul _ _ (by omega)
  have qn:∀ k,k<c*sz->∃ u,w.cell? ⟨a.block,a.off+k,none⟩=some u/\w.frozen? ⟨a.block,a.off+k,none⟩=false:=fun k hk=>by rw[<- jr];exact cG k hk
  have a1z:∀ t,t<news.length->(w.drew.cell? ⟨a.block,a.off+I*sz+t,none⟩).isSome=true:=fun t ht=>by
   obtain⟨u,h1,-⟩:=qn (I*sz+t) (by omega);rw[<- Acb]at h1;show (w.cell? _).isSome=true
   rw[h1];rfl
  have vo:∀ k,k<c*sz->∃ u,(w.drew.setCells a.block (a.off+I*sz) news).cell? ⟨a.block,a.off+k,none⟩=some u/\(w.drew.setCells a.block (a.off+I*sz) news).frozen? ⟨a.block,a.off+k,none⟩=false:=by
   intro k hk;obtain⟨u,h1,h2⟩:=qn k hk;obtain⟨u',h3⟩:=jV (w:=w.drew) (B:=a.block) (o:=a.off+I*sz) (vs:=news) (b:=⟨a.block,a.off+k,none⟩) (fun _=>rfl) a1z h1;exact⟨u',h3,by rw[World.frozen?_setCells];exact h2⟩
  have a5m:∀ t,t<Z.length->((w.drew.setCells a.block (a.off+I*sz) news).cell? ⟨a.block,a.off+(I+(n-J))*sz+t,none⟩).isSome=true:=fun t ht=>by
   obtain⟨u,h1,-⟩:=vo ((I+(n-J))*sz+t) (by omega);rw[<- Acb]at h1;rw[h1];rfl
  have qz:∀ k,k<c*sz->∃ u,w'.cell? ⟨a.block,a.off+k,none⟩=some u/\w'.frozen? ⟨a.block,a.off+k,none⟩=false:=by
   intro k hk;obtain⟨u,h1,h2⟩:=vo k hk;rw[hw];obtain⟨u',h3⟩:=jV (B:=a.block) (o:=a.off+(I+(n-J))*sz) (vs:=Z) (b:=⟨a.block,a.off+k,none⟩) (fun _=>rfl) a5m h1;exact⟨u',h3,by rw[World.frozen?_setCells];exact h2⟩
  have a0l:∀ k u,k<I*sz->w.cell? ⟨a.block,a.off+k,none⟩=some u->w'.cell? ⟨a.block,a.off+k,none⟩=some u:=by
   intro k u hk h1;have:I*sz<=(I+(n-J))*sz:=hmul _ _ (by omega);rw[hw,World.cell?_setCells_out _ _ _ _ _ (fun _ _=>.inl (by dsimp only;omega)),World.cell?_setCells_out _ _ _ _ _ (fun _ _=>.inl (by dsimp only;omega))];exact h1
  have a3f:∀ t u,news[t]?=some u->w'.cell? ⟨a.block,a.off+I*sz+t,none⟩=some u:=by
   intro t u ht;have htl:=(List.getElem?_eq_some_iff.1 ht).1;have e1:(I+(n-J))*sz=I*sz+(n-J)*sz:=Bce _ _ _;rw[hw,World.cell?_setCells_out _ _ _ _ _ (fun _ _=>.inl (by dsimp only;omega)),World.cell?_setCells_in a.block news (a.off+I*sz) w.drew a1z t htl,<- ht,Zbq]
  have b7:∀ b,b≠a.block->w'.heap[b]?=w.heap[b]?:=fun b hb=>by
   rw[hw,dB _ _ _ _ _ hb,dB _ _ _ _ _ hb];rfl
  have p4:w'.heap.size=w.heap.size:=by rw[hw,setCells_size,setCells_size];rfl
  have ma:w'.os=w.os/\w'.tape=w.tape/\w'.output=w.output:=by
   obtain⟨q1,q2,q3⟩:=iK a.block Z (a.off+(I+(n-J))*sz) (w.drew.setCells a.block (a.off+I*sz) news);obtain⟨p1,p2,p3⟩:=iK a.block news (a.off+I*sz) w.drew;rw[hw];exact⟨q1.trans p1,q2.trans p2,q3.trans p3⟩
  have zp:∀ b,(∀ p,G.own b≠.slc 0 p)->Cbn sz I J (G.own b)=G.own b:=by
   intro b hb
   cases e:G.own b with
   | slc s p =>
    cases s with
    |zero=>exact absurd e (hb p)
    |succ s=>rfl
   |_=>rfl
  have xj:∀ b,G.own b=.frz->b<w.heap.size->Cbn sz I J (G.own b)=.frz/\w'.heap[b]?=w.heap[b]?:=fun b hb _=>⟨by rw[hb];rfl,b7 b fun e=>by rw[e,mC]at hb;cases hb⟩
  have pb:∀ {b k:Nat} {p:List Nat},G.own b=.slc 0 (k::p)->w'.heap[b]?=w.heap[b]?:=fun {b k p} hb=>b7 b fun e=>by rw[e,mC]at hb;injection hb with _ hb;cases hb
  refine⟨{ G with own:=fun b=>Cbn sz I J (G.own b) },[_],rfl,⟨ma.1,ma.2.1,ma.2.2,by rw[p4];exact Zb2 _,fun b hb ho=>?_,fun b q hb ho=>?_,fun b hb=>?_⟩,⟨_,_,_,rfl,⟨_,_,rfl,?_,rfl⟩,rfl,rfl⟩,trivial,trivial⟩
  ·change G.own b=_\/G.own b=_ at ho
   refine⟨b7 b fun e=>?_,zp b fun p e=>?_⟩
   ·rw[e,mC]at ho;rcases ho with h|h<;>cases h
   ·rw[e]at ho;rcases ho with h|h<;>cases h
  ·exact absurd (cN.cells b q hb ho).1 (Nat.not_lt_zero _)
  ·show Cbn sz I J (G.own b)=.frz
   rw[cN.fresh b (by omega)];rfl
  ·show Rp (fun b=>Cbn sz I J (G.own b)) w' 0 [] (m+1) (.slice (some a) (n-(J-I)) c) (.rows sz (rs.take I++rs.drop J))
   have fL:∀ r row,(rs.take I++rs.drop J)[r]?=some row->(r<I/\rs[r]?=some row)\/(I<=r/\rs[r+(J-I)]?=some row):=by
    intro r row hr;have lp:(rs.take I).length=I:=by rw[Aci];omega
    rcases Aca r I with h|h
    ·rw[List.getElem?_append_left (by omega),List.getElem?_take,if_pos h]at hr
     exact .inl ⟨h,hr⟩
    ·rw[List.getElem?_append_right (by omega),lp,Acv,show J+(r-I)=r+(J-I) by omega]at hr
     exact .inr ⟨h,hr⟩
   refine .sl (some a) a _ c sz _ (fun r q=>if r<I then cv r q else cv (r+(J-I)) q) ?_ (by omega) (.inl rfl) (fun row hr=>?_) (fun _=>⟨fh,?_,fun k hk=>?_⟩) (fun r row hr q d hq=>?_) (fun r row hr q d hq=>?_)
   ·rw[List.length_append,Aci,Ac7];omega
   ·rcases List.mem_append.1 hr with h|h
    ·exact df row (List.mem_of_mem_take h)
    ·exact df row (Bc1 h)
   ·rw[mC];rfl
   ·rw[jr];exact qz k hk
   ·rcases fL r row hr with ⟨h,h1⟩|⟨h,h1⟩
    ·rw[if_pos h]
     have hql:q<sz:=by rw[<- df row (Zb4 h1)];exact (List.getElem?_eq_some_iff.1 hq).1
     have h2:=bb r row h1 q d hq;rw[jr]at h2 ⊢;refine a0l _ _ ?_ h2;have:=hmul (r+1) I (by omega);rw[Bce]at this;omega
    ·rw[if_neg (by omega)]
     have hql:q<sz:=by rw[<- df row (Zb4 h1)];exact (List.getElem?_eq_some_iff.1 hq).1
     have qo:r+(J-I)<n:=by rw[<- hn];exact (List.getElem?_eq_some_iff.1 h1).1
     have h3:news[(r-I)*sz+q]?=some (cv (r+(J-I)) q):=by
      rw[<- mf,Acv,show J*sz+((r-I)*sz+q)=(r+(J-I))*sz+q by rw[<- Acb,<- Bce];congr 2;omega];exact yV cv qo hql
     have:=a3f _ _ h3;rw[show a.off+I*sz+((r-I)*sz+q)=a.off+(r*sz+q) by rw[Acb,<- Acb (I*sz),<- Bce];congr 3;omega,<- jr]at this;exact this
   ·rcases fL r row hr with ⟨h,h1⟩|⟨h,h1⟩
    ·rw[if_pos h]
     have hql:q<sz:=by rw[<- df row (Zb4 h1)];exact (List.getElem?_eq_some_iff.1 hq).1
     have:=(cq r row h1 q d hq).mono' (own':=fun b=>Cbn sz I J (G.own b)) (w':=w') (r':=0) (q:=[r*sz+q]) (q':=[r*sz+q]) xj [] (by simp) (fun b t hb=>⟨by rw[hb];exact Hbh hK hql h,pb hb⟩);simpa using this
    ·rw[if_neg (by omega)]
     have hql:q<sz:=by rw[<- df row (Zb4 h1)];exact (List.getElem?_eq_some_iff.1 hq).1
     have:=(cq _ row h1 q d hq).mono' (own':=fun b=>Cbn sz I J (G.own b)) (w':=w') (r':=0) (q:=[(r+(J-I))*sz+q]) (q':=[r*sz+q]) xj [] (by simp) (fun b t hb=>⟨by rw[hb];exact Cbm hK hql (by omega) h,pb hb⟩);simpa using this
def Uag (P:Program)(t:TypeId):Bool:=match P.info? t with
 | some i => match i.zero with
  |some z=>z.cells.toList.all fun u=>u.oneCell'
  |none=>true
 |none=>true
theorem Yaq (L:SlLaysE0.n45 P ρ){K m f key:Nat}{T:Nat->Ent}{ti:Nat->Option TI}{sigs:List (Nat×Sig)}(hf:ρ.f 45=f)(h:Ca6 P (ρ.t 23)=some K)(z23:∀ w,(Go.sizeOf (ρ.t 23)).run P w=.ok K w)
  (na:Uag P (ρ.t 23)=true) (hT:T key=.ext (Kbv K)) :
  Sag P T ti sigs key ⟨f,[(false,[.ow (m+1)]),(false,[.sc]),(false,[.sc])],[],[(false,[.ow (m+1)])]⟩:=by
 subst hf;unfold Ca6 at h;split at h
 ·rename_i i hi
  split at h
  ·rename_i z hz
   split at h
   ·rename_i h1
    cases h
    have h2:(z.cells.toList.all fun u=>u.oneCell')=true:=by
     unfold Uag at na;rw[hi]at na;dsimp only at na;rw[hz]at na;exact na
    rw[Acd]at h2;exact .inr ⟨_,hT,Cbl L hi hz rfl h1.1 h1.2 h2 z23⟩
   ·cases h
  ·cases h
 ·cases h
end
class Enc (α:Type) where
 sz:Nat
 enc:α->List D
 len:∀ a,(enc a).length=sz
instance:Enc Int:=⟨1,fun n=>[i64 n],fun _=>rfl⟩
instance:Enc Bool:=⟨1,fun b=>[.bool b],fun _=>rfl⟩
instance:Enc (List UInt8):=⟨1,fun s=>[.str s],fun _=>rfl⟩
def rL {α:Type}[Enc α](xs:List α):D:=.rows (Enc.sz α) (xs.map Enc.enc)
instance {α:Type} [Enc α]:Enc (List α):=⟨1,fun xs=>[rL xs],fun _=>rfl⟩
def InB {α:Type}(xs:List α)(k:Int):Prop:=0<=k/\k<xs.length
def atI {α:Type}[Inhabited α](xs:List α)(k:Int):α:=xs.getD k.toNat default
def iT {α:Type}(xs:List α)(k:Int)(a:α):List α:=xs.set k.toNat a
theorem aH {α:Type}{xs:List α}{i:Nat}:InB xs (i:Int)↔i<xs.length:=by unfold InB;omega
theorem Na9 {α:Type}[Inhabited α]{xs:List α}{i:Nat}:atI xs (i:Int)=xs.getD i default:=rfl
theorem aZ {α:Type}[Inhabited α]{xs:List α}{i:Nat}(h:i<xs.length):atI xs (i:Int)=xs[i]:=by
 rw[Na9,Zbu,Zbq h];rfl
theorem InB.lt {α:Type}{xs:List α}{k:Int}(h:InB xs k):k.toNat<xs.length:=by unfold InB at h;omega
def tick:Nat:=0
def Wbb:Nat:=0
def iN {γ:Type}(c:Bool)(a b:γ):γ:=match c with
 |true=>a
 |false=>b
theorem Yag {γ:Type}{a b:γ}:iN true a b=a:=rfl
theorem Tas {γ:Type}{a b:γ}:iN false a b=b:=rfl
@[congr] theorem Kbs {γ:Type} {c c':Bool} {a b:γ} (h:c=c') {dd:Nat} (hd:tick=dd):iN c a b=iN c' a b:=by rw[h]
theorem aC {γ:Type}{c:Bool}{a b r:γ}(h1:c=true->a=r)(h2:c=false->b=r):iN c a b=r:=by
 cases c with
 |true=>exact h1 rfl
 |false=>exact h2 rfl
section
variable {T:Nat->Ent} {β:Type}
@[congr] theorem Rb6 {t:Tm β} {ρ gf:List D} (h:ρ=gf) {dd:Nat} (hd:tick=dd):Er T t ρ=Er T t gf:=by rw[h]
@[congr] theorem Jbn {k:Tm β} {ρ gf:List D} {n:Nat} {a a':Option (List D)} (h:ρ=gf) (h2:a=a') {dd:Nat} (hd:tick=dd):stepT T k ρ n a=stepT T k gf n a':=by rw[h,h2]
@[congr] theorem Jbg {i:Nat} {k:Tm β} {ρ gf:List D} {r r':Option (Kind×List D)} (h:ρ=gf) (h2:r=r') {dd:Nat} (hd:tick=dd):nL T i k ρ r=nL T i k gf r':=by rw[h,h2]
@[congr] theorem Obb {p:aT} {xs xs':List D} (h:xs=xs') {dd:Nat} (hd:tick=dd):p.run xs=p.run xs':=by rw[h]
def nth:List D->Nat->D
 |[],_=>.undef
 |a::_,0=>a
 |_::r,n+1=>nth r n
theorem Sbs {a:D}{r:List D}:nth (a::r) 0=a:=rfl
theorem Sbr {a:D}{r:List D}{n:Nat}:nth (a::r) (n+1)=nth r n:=rfl
theorem Vai (r:List D)(n:Nat):r.getD n .undef=nth r n:=by
 induction r generalizing n with
 |nil=>rfl
 | cons a r ih => cases n with
  |zero=>rfl
  |succ n=>exact ih n
def vals (ρ:List D):List aK->List D
 |[]=>[]
 |.v i::r=>nth ρ i::vals ρ r
 |.c d::r=>d::vals ρ r
@[congr] theorem Lbj {ρ gf:List D} {xs:List aK} (h:ρ=gf) {dd:Nat} (hd:tick=dd):vals ρ xs=vals gf xs:=by rw[h]
theorem xS (ρ:List D)(xs:List aK):xs.map (·.val ρ)=vals ρ xs:=by
 induction xs with
 |nil=>rfl
 | cons x xs ih =>
  rw[Acg,ih]
  cases x with
  |v i=>show ρ.getD i .undef::_=_;rw[Vai];rfl
  |c d=>rfl
theorem Lbt {ρ:List D}:vals ρ []=[]:=rfl
theorem Lbs {ρ:List D}{i:Nat}{r:List aK}:vals ρ (.v i::r)=nth ρ i::vals ρ r:=rfl
theorem Lbu {ρ:List D}{d:D}{r:List aK}:vals ρ (.c d::r)=d::vals ρ r:=rfl
def Waw (ρ:List D):aK->D
 |.v i=>nth ρ i
 |.c d=>d
theorem Lbv {ρ:List D}{i:Nat}:Waw ρ (.v i)=nth ρ i:=rfl
theorem Lbw {ρ:List D}{d:D}:Waw ρ (.c d)=d:=rfl
theorem Mag (ρ:List D)(a:aK):a.val ρ=Waw ρ a:=by
 cases a with
 |v i=>exact Vai ρ i
 |c d=>rfl
@[congr] theorem Lbk {ρ gf:List D} {a:aK} (h:ρ=gf) {dd:Nat} (hd:tick=dd):Waw ρ a=Waw gf a:=by rw[h]
theorem Lbf (k:Kind)(xs:List aK)(e:β)(ρ:List D):Er T (.leaf k xs e) ρ=some (k,vals ρ xs):=by rw[Lbd,xS]
theorem Sb8 (p:aT)(xs:List aK)(n:Nat)(k:Tm β)(ρ:List D):Er T (.lt none p xs n k) ρ=stepT T k ρ n (p.run (vals ρ xs)):=by rw[Pba,xS]
theorem Lbg (f:Nat)(xs:List aK)(n:Nat)(os:List aK)(k:Tm β)(ρ:List D):Er T (.call none f xs n os k) ρ=stepT T k ρ n (Fun T f (vals ρ xs)):=by rw[Ibl,xS]
def Aat (w:Bool)(a b:Option (Kind×List D))(c:D):Option (Kind×List D):=if gdR c w=true then a else b
@[congr] theorem Kbq {w:Bool} {a b:Option (Kind×List D)} {c c':D} (h:c=c') {dd:Nat} (hd:tick=dd):Aat w a b c=Aat w a b c':=by rw[h]
theorem Kbo {a b:Option (Kind×List D)}{c:Bool}:Aat true a b (.bool c)=iN c a b:=by cases c<;>rfl
theorem Kbp {a b:Option (Kind×List D)}{c:Bool}:Aat false a b (.bool c)=iN c b a:=by cases c<;>rfl
theorem Kbn {w:Bool}{a b:Option (Kind×List D)}:Aat w a b .undef=b:=by simp[Aat,gdR]
theorem Pbc (a:aK)(w:Bool)(p:aT)(xs:List aK)(n:Nat)(k:Tm β)(ρ:List D) :
  Er T (.lt (some (a,w)) p xs n k) ρ=Aat w (stepT T k ρ n (p.run (vals ρ xs))) (Er T k (ρ++Zb6 n .undef)) (Waw ρ a):=by
 rw[Ob9,ltT,Aat,xS,Mag]
theorem Ibm (a:aK)(w:Bool)(f:Nat)(xs:List aK)(n:Nat)(os:List aK)(k:Tm β)(ρ:List D) :
  Er T (.call (some (a,w)) f xs n os k) ρ=Aat w (stepT T k ρ n (Fun T f (vals ρ xs))) (Er T k (ρ++(Zb6 (n-os.length) .undef++vals ρ os))) (Waw ρ a):=by
 rw[Ibk,Kbz,Aat,xS,xS,Mag]
def Sak {γ:Type}(a b:Option γ)(c:D):Option γ:=Vb7 c a b
@[congr] theorem Jbh {γ:Type} {a b:Option γ} {c c':D} (h:c=c') {dd:Nat} (hd:tick=dd):Sak a b c=Sak a b c':=by rw[h]
theorem Jbi {γ:Type}{a b:Option γ}{c:Bool}:Sak a b (.bool c)=iN c a b:=by cases c<;>rfl
theorem Pbd (c:aK)(t e:Tm β)(ρ:List D):Er T (.ite c t e) ρ=Sak (Er T t ρ) (Er T e ρ) (Waw ρ c):=by rw[Pbb,Sbw,Sak,Mag]
theorem Lbh (i:Nat)(t k:Tm β)(ρ:List D):Er T (.bind i t k) ρ=nL T i k ρ (Er T t ρ):=Lbe i t k ρ
theorem Waz {i:Nat}{k:Tm β}{ρ:List D}{c:Bool}{a b:Option (Kind×List D)}:nL T i k ρ (iN c a b)=iN c (nL T i k ρ a) (nL T i k ρ b):=by cases c<;>rfl
theorem Saj {i j:Nat}{k:Tm β}{ρ ds:List D}:nL T i k ρ (some (.yield j,ds))=if j=i then Er T k (ρ++ds) else some (.yield j,ds):=by
 by_cases h:j=i
 ·subst h;rw[Wax,if_pos rfl]
 ·rw[Fbw h,if_neg h]
noncomputable def fin (o:Option (Kind×List D)):Option (List D):=o.bind Vb1
theorem Gb5 {c:Bool}{a b:Option (Kind×List D)}:fin (iN c a b)=iN c (fin a) (fin b):=by cases c<;>rfl
theorem Kbt {ds:List D}:fin (some (.ret,ds))=some ds:=rfl
theorem aP {f:Nat}{t:Tm Unit}(h:T f=.tm t)(args:List D):Fun T f args=fin (Er T t args):=Sb7 h args
theorem Sb2 {ρ:List D}:ρ++[]=ρ:=List.append_nil ρ
theorem Sb3 {a:D}{r s:List D}:(a::r)++s=a::(r++s):=rfl
theorem Sb4 {s:List D}:[]++s=s:=rfl
theorem Jbm {k:Tm β}{ρ ds:List D}{n:Nat}:stepT T k ρ n (some ds)=if ds.length=n then Er T k (ρ++ds) else none:=rfl
end
section
variable {α:Type} [Enc α]
theorem Obg {xs:List α}:aT.len.run [rL xs]=some [i64 xs.length]:=by simp[rL,aT.run]
theorem Ibs {xs:List α}{k:Int}(h:InB xs k):aT.inb.run [rL xs,i64 k]=some []:=by
 unfold InB at h;simp only[rL,aT.run,Zb3];rw[if_pos ⟨h.1,h.2⟩]
def rowOf (off:Nat)(ks:List Bool)(r:List D):Option (List D):=if off+ks.length<=r.length/\Da4 ks (r.drop off)=true then some ((r.drop off).take ks.length) else none
theorem mQ [Inhabited α]{xs:List α}{k:Int}{sz off:Nat}{ks:List Bool}(hs:Enc.sz α=sz)(h:InB xs k):(aT.row sz off ks).run [rL xs,i64 k]=rowOf off ks (Enc.enc (atI xs k)):=by
 have h2:=h.lt;unfold InB at h;subst hs
 have e:xs[k.toNat]?=some (atI xs k):=by
  rw[Zbq h2,atI,Zbu,Zbq h2];rfl
 simp only[rL,aT.run,Ace,e,Acz];simp only[true_and];rw[if_pos h.1];rfl
theorem wB [Inhabited α]{xs:List α}{k:Int}{sz off n:Nat}{vs:List D}{a:α}(hs:Enc.sz α=sz)(hl:vs.length=n)(ho:off+n<=sz)(ha:Enc.enc a=(Enc.enc (atI xs k)).take off++vs++(Enc.enc (atI xs k)).drop (off+n))(h:InB xs k) :
  (aT.set sz off n).run (rL xs::i64 k::vs)=some [rL (iT xs k a)]:=by
 have h2:=h.lt;unfold InB at h;subst hs
 have e:xs[k.toNat]?=some (atI xs k):=by
  rw[Zbq h2,atI,Zbu,Zbq h2];rfl
 simp only[rL,aT.run,Ace,e,Acz];simp only[true_and];rw[if_pos h.1,if_pos ⟨by rw[Enc.len];exact ho,hl⟩,<- ha,iT,List.map_set]
theorem wC {b:Nat}{n:Int}{zero:List D}{a:α}(ha:Enc.enc a=zero)(h:0<=n)(h2:n.toNat*b<=eD):(aT.make b zero).run [i64 n]=some [rL (Zb6 n.toNat a)]:=by
 simp only[aT.run];rw[if_pos ⟨h,h2⟩,rL,List.map_replicate,ha,<- Enc.len a,ha]
theorem Pa3 {sz:Nat}{vs:List D}{a:α}(hs:Enc.sz α=sz)(ha:Enc.enc a=vs):(aT.mk sz 1).run vs=some [rL [a]]:=by
 subst hs;subst ha
 have:=Enc.len a;simp[rL,aT.run,chunk,this,List.take_of_length_le (Nat.le_of_eq this)]
theorem Bay {sz b:Nat}{fl:Bool}{xs ys:List α}(hs:Enc.sz α=sz)(hf:fl=true->∀ a:α,(Enc.enc a).all D.isSc=true)(h:(xs.length+ys.length)*b<=eD):(aT.app sz b fl).run [rL xs,rL ys]=some [rL (xs++ys)]:=by
 subst hs
 have cP:(!fl||(xs.map Enc.enc++ys.map Enc.enc).all fun r=>r.all D.isSc)=true:=by
  cases fl with
  |false=>rfl
  | true =>
   rw[Bc7,Bc8,<- Bcj,List.all_map,Acd];exact fun a _=>hf rfl a
 simp only[rL,aT.run,Zb3];rw[if_pos ⟨trivial,trivial,cP,h⟩,<- Bcj]
theorem wD {sz b:Nat}{fl:Bool}{ys:List α}(hs:Enc.sz α=sz)(hf:fl=true->∀ a:α,(Enc.enc a).all D.isSc=true)(h:ys.length*b<=eD):(aT.app sz b fl).run [.rows sz [],rL ys]=some [rL ys]:=by
 have:=Bay (xs:=[]) (ys:=ys) (b:=b) hs hf (by simpa using h);subst hs;exact this
theorem Bax {sz:Nat}{fl:Bool}{xs:List α}{lo hi:Int}(hs:Enc.sz α=sz)(hf:fl=true->∀ a:α,(Enc.enc a).all D.isSc=true)(h0:0<=lo)(h1:lo<=hi)(h2:hi<=xs.length):(aT.sub sz fl).run [rL xs,i64 lo,i64 hi]=some [rL ((xs.take hi.toNat).drop lo.toNat)]:=by
 subst hs
 have cP:(!fl||(xs.map Enc.enc).all fun r=>r.all D.isSc)=true:=by
  cases fl with
  |false=>rfl
  | true =>
   rw[Bc7,Bc8,List.all_map,Acd];exact fun a _=>hf rfl a
 simp only[rL,aT.run,Zb3];rw[if_pos ⟨trivial,cP,h0,h1,h2⟩,<- List.map_take,<- List.map_drop]
theorem Obh {xs:List α}:aT.emp.run [rL xs]=some [.bool xs.isEmpty]:=by simp[rL,aT.run]
theorem Sbp {x:α}{xs:List α}:aT.ne.run [rL (x::xs)]=some []:=by simp[rL,aT.run]
class Fits (α:Type) [Enc α] (m:Nat):Prop where
 fits:∀ a:α,(Enc.enc a).all (oZ m)=true
theorem Obi {m:Nat}[Fits α m]{xs:List α}:(aT.dep (m+1)).run [rL xs]=some []:=by
 have:oZ (m+1) (rL xs)=true:=by
  unfold rL;simp only[oZ,List.all_map,Acd];intro a _;exact Fits.fits a
 simp only[aT.run,this,if_true]
end
instance {m:Nat}:Fits Int m:=⟨fun a=>by cases m<;>rfl⟩
instance {m:Nat}:Fits Bool m:=⟨fun a=>by cases m<;>rfl⟩
instance {m:Nat}:Fits (List UInt8) m:=⟨fun a=>by cases m<;>rfl⟩
theorem wY {α:Type}[Enc α]{m:Nat}[Fits α m](xs:List α):oZ (m+1) (rL xs)=true:=by
 unfold rL;simp only[oZ,List.all_map,Acd];intro a _;exact Fits.fits a
instance {α:Type} [Enc α] {m:Nat} [Fits α m]:Fits (List α) (m+1):=⟨fun xs=>by
 show [rL xs].all (oZ (m+1))=true
 simp[wY]⟩
theorem Fb6 {a b:Int}:aT.min.run [i64 a,i64 b]=some [i64 (min a b)]:=by
 simp only[aT.run,Nav,Obm,if_true,Zbv,Acz];congr 3;by_cases h:b<a
 ·rw[if_pos (by simpa using h)];omega
 ·rw[if_neg (by simpa using h)];omega
theorem Fb8 {a b:Int}:aT.max.run [i64 a,i64 b]=some [i64 (max a b)]:=by
 simp only[aT.run,Nav,Obm,if_true,Zbv,Acz];congr 3;by_cases h:b>a
 ·rw[if_pos (by simpa using h)];omega
 ·rw[if_neg (by simpa using h)];omega
theorem Ua9 {a b:Int}(h1:-9223372036854775808<=a*b)(h2:a*b<=9223372036854775807):(aT.bin .mul).run [i64 a,i64 b]=some [i64 (a*b)]:=by simp[aT.run,Oam,Aan,wrap_i64 h1 h2]
theorem Wa1 {a b:Int}(ha:-9223372036854775808<=a)(ha':a<=9223372036854775807)(hb:0<b):-9223372036854775808<=a.tdiv b/\a.tdiv b<=9223372036854775807:=by
 rcases Int.le_total 0 a with h|h
 ·have h1:=Int.tdiv_nonneg h (Int.le_of_lt hb)
  have h2:=Int.tdiv_le_self b h;omega
 ·have h1:(-a).tdiv b=-(a.tdiv b):=Int.neg_tdiv ..
  have h2:=Int.tdiv_nonneg (show 0<=-a by omega) (Int.le_of_lt hb);have h3:=Int.tdiv_le_self b (show 0<=-a by omega);omega
theorem Fb5 {a b:Int}(ha:0<=a)(ha':a<=9223372036854775807)(hb:0<b):(aT.bin .quo).run [i64 a,i64 b]=some [i64 (a / b)]:=by
 have h:=Wa1 (by omega) ha' hb;have de:¬ b=0:=by omega
 rw[<- Int.tdiv_eq_ediv_of_nonneg ha];simp only[aT.run,Oam,Aan,if_true,if_neg de,Acz,wrap_i64 h.1 h.2]
theorem Fb4 {a b:Int}(ha:0<=a)(hb:0<b):(aT.bin .rem).run [i64 a,i64 b]=some [i64 (a % b)]:=by
 have de:¬ b=0:=by omega
 simp only[aT.run,Oam,Aan,if_true,if_neg de,Acz,Int.tmod_eq_emod_of_nonneg ha]
theorem Rad:∀ xs ys:List Int,xs.length=ys.length->Sac (Zb6 xs.length 0) (xs.map i64) (ys.map i64)=some (decide (xs=ys))
 |[],[],_=>rfl
 | x :: xs, y :: ys, h => by
  have ih:=Rad xs ys (by simpa using h);simp only[Zb1,List.replicate_succ,Acg,Sac,eqD,if_true,Zbv,ih,List.cons.injEq,Bool.decide_and];by_cases e:x=y
  ·simp[e]
  ·simp[e]
theorem Va9 {p:Prop}[Decidable p](xs ys:List Int)(h:xs.length=ys.length)(hp:p↔xs=ys):(Sac (Zb6 xs.length 0) (xs.map i64) (ys.map i64)).map (fun b=>[D.bool b])=some [.bool (decide p)]:=by
 rw[Rad xs ys h,Acz,decide_eq_decide.2 hp]
theorem Oby (i:Nat):((i+1:Nat):Int)=(i:Int)+1:=rfl
theorem SA:(∀ {T β} (k:Kind) (xs:List aK) (e:β) (ρ:List D),Er T (.leaf k xs e) ρ=some (k,vals ρ xs)) /\
  (∀ {T} {β:Type} (p:aT) (xs:List aK) (n:Nat) (k:Tm β) (ρ:List D),Er T (.lt none p xs n k) ρ=stepT T k ρ n (p.run (vals ρ xs))) /\
  (∀ {T} {β:Type} (f:Nat) (xs:List aK) (n:Nat) (os:List aK) (k:Tm β) (ρ:List D),Er T (.call none f xs n os k) ρ=stepT T k ρ n (Fun T f (vals ρ xs))) /\
  (∀ {T} {β:Type} (c:aK) (t e:Tm β) (ρ:List D),Er T (.ite c t e) ρ=Sak (Er T t ρ) (Er T e ρ) (Waw ρ c)) /\
  (∀ {T} {β:Type} (i:Nat) (t k:Tm β) (ρ:List D),Er T (.bind i t k) ρ=nL T i k ρ (Er T t ρ)) /\
  (∀ {T} {β:Type} (a:aK) (w:Bool) (p:aT) (xs:List aK) (n:Nat) (k:Tm β) (ρ:List D),
   Er T (.lt (some (a,w)) p xs n k) ρ=Aat w (stepT T k ρ n (p.run (vals ρ xs))) (Er T k (ρ++Zb6 n .undef)) (Waw ρ a)) /\
  (∀ {T} {β:Type} (a:aK) (w:Bool) (f:Nat) (xs:List aK) (n:Nat) (os:List aK) (k:Tm β) (ρ:List D),
   Er T (.call (some (a,w)) f xs n os k) ρ=Aat w (stepT T k ρ n (Fun T f (vals ρ xs))) (Er T k (ρ++(Zb6 (n-os.length) .undef++vals ρ os))) (Waw ρ a)) :=
 ⟨Lbf,Sb8,Lbg,Pbd,Lbh,Pbc,Ibm⟩
theorem SB:(tick=Wbb)/\(∀ {γ:Type} {c:Bool} {a b:γ},iN (!c) a b=iN c b a)/\(∀ {a b:Option (Kind×List D)} {c:Bool},Aat true a b (.bool c)=iN c a b)/\(∀ {a b:Option (Kind×List D)} {c:Bool},Aat false a b (.bool c)=iN c b a) /\
  (∀ {w:Bool} {a b:Option (Kind×List D)},Aat w a b .undef=b)/\(∀ {γ:Type} {a b:Option γ} {c:Bool},Sak a b (.bool c)=iN c a b) /\
  (∀ {T} {β:Type} {i:Nat} {k:Tm β} {ρ:List D} {c:Bool} {a b:Option (Kind×List D)},nL T i k ρ (iN c a b)=iN c (nL T i k ρ a) (nL T i k ρ b)) /\
  (∀ {T} {β:Type} {i j:Nat} {k:Tm β} {ρ ds:List D},nL T i k ρ (some (.yield j,ds))=if j=i then Er T k (ρ++ds) else some (.yield j,ds)) /\
  (∀ {T} {β:Type} {i:Nat} {k:Tm β} {ρ ds:List D},nL T i k ρ (some (.ret,ds))=some (.ret,ds))/\(∀ {T} {β:Type} {i:Nat} {k:Tm β} {ρ ds:List D},nL T i k ρ (some (.cont,ds))=some (.cont,ds)) /\
  (∀ {c:Bool} {a b:Option (Kind×List D)},fin (iN c a b)=iN c (fin a) (fin b))/\(∀ {ds:List D},fin (some (.ret,ds))=some ds) /\
  (∀ {γ:Type} {a b:γ},iN true a b=a)/\(∀ {γ:Type} {a b:γ},iN false a b=b) :=
 ⟨rfl,by intro γ c a b;cases c<;>rfl,Kbo,Kbp,Kbn,Jbi,Waz,Saj,Zaf,Wa0,Gb5,Kbt,Yag,Tas⟩
theorem SC:(∀ {a:D} {r:List D},nth (a::r) 0=a)/\(∀ {a:D} {r:List D} {n:Nat},nth (a::r) (n+1)=nth r n) /\
  (∀ {ρ:List D},vals ρ []=[])/\(∀ {ρ:List D} {i:Nat} {r:List aK},vals ρ (.v i::r)=nth ρ i::vals ρ r)/\(∀ {ρ:List D} {d:D} {r:List aK},vals ρ (.c d::r)=d::vals ρ r) /\
  (∀ {ρ:List D} {i:Nat},Waw ρ (.v i)=nth ρ i)/\(∀ {ρ:List D} {d:D},Waw ρ (.c d)=d) /\
  (∀ {ρ:List D},ρ++[]=ρ)/\(∀ {a:D} {r s:List D},(a::r)++s=a::(r++s))/\(∀ {s:List D},[]++s=s) /\
  (∀ {T} {β:Type} {k:Tm β} {ρ ds:List D} {n:Nat},stepT T k ρ n (some ds)=if ds.length=n then Er T k (ρ++ds) else none) /\
  (∀ {α:Type} {a:α} {l:List α},(a::l).length=l.length+1)/\(∀ {α:Type},([]:List α).length=0)/\(∀ {α:Type} {x:α} {n:Nat},Zb6 (n+1) x=x::Zb6 n x)/\(∀ {α:Type} {x:α},Zb6 0 x=[]) :=
 ⟨Sbs,Sbr,Lbt,Lbs,Lbu,Lbv,Lbw,Sb2,Sb3,Sb4,Jbm,Zb1,List.length_nil,List.replicate_succ,List.replicate_zero⟩
theorem SP:(∀ {a b:Int},(aT.bin .lss).run [i64 a,i64 b]=some [.bool (decide (a<b))])/\(∀ {a b:Int},(aT.bin .gtr).run [i64 a,i64 b]=some [.bool (decide (b<a))]) /\
  (∀ {a b:Int},(aT.bin .leq).run [i64 a,i64 b]=some [.bool (decide (a<=b))])/\(∀ {a b:Int},(aT.bin .geq).run [i64 a,i64 b]=some [.bool (decide (b<=a))]) /\
  (∀ {a b:Int},(aT.bin .neq).run [i64 a,i64 b]=some [.bool (!(a==b))])/\(∀ {a b:Int},(aT.bin .eql).run [i64 a,i64 b]=some [.bool (a==b)]) /\
  (∀ {b:Bool},aT.not.run [.bool b]=some [.bool (!b)])/\(∀ {c:Bool} {a b:D},aT.pick.run [.bool c,a,b]=some [iN c a b])/\(∀ {a b:Bool},(aT.eqb true).run [.bool a,.bool b]=some [.bool (!(a==b))])/\(∀ {a b:Bool},(aT.eqb false).run [.bool a,.bool b]=some [.bool (a==b)]) /\
  (∀ {d:D},aT.id.run [d]=some [d])/\(∀ {α:Type} [Enc α] {xs:List α},aT.len.run [rL xs]=some [i64 xs.length]) /\
  (∀ {α:Type} [Enc α] {xs:List α} {k:Int},InB xs k->aT.inb.run [rL xs,i64 k]=some []) /\
  (∀ {a b:Int},aT.min.run [i64 a,i64 b]=some [i64 (min a b)])/\(∀ {a b:Int},aT.max.run [i64 a,i64 b]=some [i64 (max a b)]) /\
  (∀ {α:Type} [Enc α] {m:Nat} [Fits α m] {xs:List α},(aT.dep (m+1)).run [rL xs]=some []) :=
 ⟨Jbs,Jbu,Jbt,Jbv,Jbr,Jbw,Jbq,by intro c a b;cases c<;>rfl,Jbx,rfl,Oba,Obg,Ibs,Fb6,Fb8,Obi⟩
set_option maxRecDepth 4000
structure rF where
 kind:Int
 id:Int
 src:Int
 dst:Int
 amt:Int
 deriving DecidableEq
instance:Inhabited rF:=⟨⟨0,0,0,0,0⟩⟩
instance:Enc rF:=⟨5,fun x=>[i64 x.kind,i64 x.id,i64 x.src,i64 x.dst,i64 x.amt],fun _=>rfl⟩
instance {m:Nat}:Fits rF m:=⟨fun x=>by cases m<;>rfl⟩
structure fJ where
 seq:Int
 deps:(List Int)
 deriving DecidableEq
instance:Inhabited fJ:=⟨⟨0,[]⟩⟩
instance:Enc fJ:=⟨2,fun x=>[i64 x.seq,rL x.deps],fun _=>rfl⟩
theorem Cbf (x:fJ):Enc.enc x=[i64 x.seq,rL x.deps]:=rfl
instance {m:Nat}:Fits fJ (m+1):=⟨fun x=>by
 rw[Cbf];simp only[Bc2,Cct,Bct,Zbo];refine⟨?_,?_⟩
 all_goals first|rfl|exact wY _⟩
structure bT where
 ballot:Int
 vote:Int
 state:Int
 cmd:rF
 attr:fJ
 deriving DecidableEq
instance:Inhabited bT:=⟨⟨0,0,0,default,default⟩⟩
instance:Enc bT:=⟨10,fun x=>[i64 x.ballot,i64 x.vote,i64 x.state,i64 x.cmd.kind,i64 x.cmd.id,i64 x.cmd.src,i64 x.cmd.dst,i64 x.cmd.amt,i64 x.attr.seq,rL x.attr.deps],fun _=>rfl⟩
theorem Hbb (x:bT):Enc.enc x=[i64 x.ballot,i64 x.vote,i64 x.state,i64 x.cmd.kind,i64 x.cmd.id,i64 x.cmd.src,i64 x.cmd.dst,i64 x.cmd.amt,i64 x.attr.seq,rL x.attr.deps]:=rfl
instance {m:Nat}:Fits bT (m+1):=⟨fun x=>by
 rw[Hbb];simp only[Bc2,Cct,Bct,Zbo];refine⟨?_,?_,?_,?_,?_,?_,?_,?_,?_,?_⟩
 all_goals first|rfl|exact wY _⟩
structure aL where
 n:Int
 rows:(List (List bT))
 deriving DecidableEq
instance:Inhabited aL:=⟨⟨0,[]⟩⟩
instance:Enc aL:=⟨2,fun x=>[i64 x.n,rL x.rows],fun _=>rfl⟩
theorem Yao (x:aL):Enc.enc x=[i64 x.n,rL x.rows]:=rfl
instance {m:Nat}:Fits aL (m+3):=⟨fun x=>by
 rw[Yao];simp only[Bc2,Cct,Bct,Zbo];refine⟨?_,?_⟩
 all_goals first|rfl|exact wY _⟩
structure gU where
 rep:Int
 no:Int
 ballot:Int
 phase:Int
 cmd:rF
 first:fJ
 attr:fJ
 same:Bool
 who:(List Int)
 seen:(List bT)
 deriving DecidableEq
instance:Inhabited gU:=⟨⟨0,0,0,0,default,default,default,false,[],[]⟩⟩
instance:Enc gU:=⟨16,fun x=>[i64 x.rep,i64 x.no,i64 x.ballot,i64 x.phase,i64 x.cmd.kind,i64 x.cmd.id,i64 x.cmd.src,i64 x.cmd.dst,i64 x.cmd.amt,i64 x.first.seq,rL x.first.deps,i64 x.attr.seq,rL x.attr.deps,.bool x.same,rL x.who,rL x.seen],fun _=>rfl⟩
theorem Cbe (x:gU):Enc.enc x=[i64 x.rep,i64 x.no,i64 x.ballot,i64 x.phase,i64 x.cmd.kind,i64 x.cmd.id,i64 x.cmd.src,i64 x.cmd.dst,i64 x.cmd.amt,i64 x.first.seq,rL x.first.deps,i64 x.attr.seq,rL x.attr.deps,.bool x.same,rL x.who,rL x.seen]:=rfl
instance {m:Nat}:Fits gU (m+2):=⟨fun x=>by
 rw[Cbe];simp only[Bc2,Cct,Bct,Zbo];refine⟨?_,?_,?_,?_,?_,?_,?_,?_,?_,?_,?_,?_,?_,?_,?_,?_⟩
 all_goals first|rfl|exact wY _⟩
structure nZ where
 me:Int
 table:aL
 leads:(List gU)
 deriving DecidableEq
instance:Inhabited nZ:=⟨⟨0,default,[]⟩⟩
instance:Enc nZ:=⟨4,fun x=>[i64 x.me,i64 x.table.n,rL x.table.rows,rL x.leads],fun _=>rfl⟩
theorem Hbc (x:nZ):Enc.enc x=[i64 x.me,i64 x.table.n,rL x.table.rows,rL x.leads]:=rfl
instance {m:Nat}:Fits nZ (m+3):=⟨fun x=>by
 rw[Hbc];simp only[Bc2,Cct,Bct,Zbo];refine⟨?_,?_,?_,?_⟩
 all_goals first|rfl|exact wY _⟩
structure rJ where
 kind:Int
 src:Int
 dst:Int
 rep:Int
 no:Int
 ballot:Int
 vote:Int
 state:Int
 cmd:rF
 attr:fJ
 deriving DecidableEq
instance:Inhabited rJ:=⟨⟨0,0,0,0,0,0,0,0,default,default⟩⟩
instance:Enc rJ:=⟨15,fun x=>[i64 x.kind,i64 x.src,i64 x.dst,i64 x.rep,i64 x.no,i64 x.ballot,i64 x.vote,i64 x.state,i64 x.cmd.kind,i64 x.cmd.id,i64 x.cmd.src,i64 x.cmd.dst,i64 x.cmd.amt,i64 x.attr.seq,rL x.attr.deps],fun _=>rfl⟩
theorem Hbe (x:rJ):Enc.enc x=[i64 x.kind,i64 x.src,i64 x.dst,i64 x.rep,i64 x.no,i64 x.ballot,i64 x.vote,i64 x.state,i64 x.cmd.kind,i64 x.cmd.id,i64 x.cmd.src,i64 x.cmd.dst,i64 x.cmd.amt,i64 x.attr.seq,rL x.attr.deps]:=rfl
instance {m:Nat}:Fits rJ (m+1):=⟨fun x=>by
 rw[Hbe];simp only[Bc2,Cct,Bct,Zbo];refine⟨?_,?_,?_,?_,?_,?_,?_,?_,?_,?_,?_,?_,?_,?_,?_⟩
 all_goals first|rfl|exact wY _⟩
structure dL where
 rep:Int
 no:Int
 cmd:rF
 deriving DecidableEq
instance:Inhabited dL:=⟨⟨0,0,default⟩⟩
instance:Enc dL:=⟨7,fun x=>[i64 x.rep,i64 x.no,i64 x.cmd.kind,i64 x.cmd.id,i64 x.cmd.src,i64 x.cmd.dst,i64 x.cmd.amt],fun _=>rfl⟩
instance {m:Nat}:Fits dL m:=⟨fun x=>by cases m<;>rfl⟩
structure Ear where
 reps:(List nZ)
 bag:(List rJ)
 asked:(List dL)
 deriving DecidableEq
instance:Inhabited Ear:=⟨⟨[],[],[]⟩⟩
instance:Enc Ear:=⟨3,fun x=>[rL x.reps,rL x.bag,rL x.asked],fun _=>rfl⟩
theorem Hbd (x:Ear):Enc.enc x=[rL x.reps,rL x.bag,rL x.asked]:=rfl
instance {m:Nat}:Fits Ear (m+4):=⟨fun x=>by
 rw[Hbd];simp only[Bc2,Cct,Bct,Zbo];refine⟨?_,?_,?_⟩
 all_goals first|rfl|exact wY _⟩
structure xL where
 code:Int
 sum:Int
 deriving DecidableEq
instance:Inhabited xL:=⟨⟨0,0⟩⟩
instance:Enc xL:=⟨2,fun x=>[i64 x.code,i64 x.sum],fun _=>rfl⟩
instance {m:Nat}:Fits xL m:=⟨fun x=>by cases m<;>rfl⟩
structure bS where
 rep:Int
 no:Int
 cmd:rF
 told:xL
 deriving DecidableEq
instance:Inhabited bS:=⟨⟨0,0,default,default⟩⟩
instance:Enc bS:=⟨9,fun x=>[i64 x.rep,i64 x.no,i64 x.cmd.kind,i64 x.cmd.id,i64 x.cmd.src,i64 x.cmd.dst,i64 x.cmd.amt,i64 x.told.code,i64 x.told.sum],fun _=>rfl⟩
instance {m:Nat}:Fits bS m:=⟨fun x=>by cases m<;>rfl⟩
theorem Ob0:(∀ x:rF,rF.mk x.kind x.id x.src x.dst x.amt=x) /\
  (∀ x:fJ,fJ.mk x.seq x.deps=x) /\
  (∀ x:bT,bT.mk x.ballot x.vote x.state x.cmd x.attr=x) /\
  (∀ x:aL,aL.mk x.n x.rows=x) /\
  (∀ x:gU,gU.mk x.rep x.no x.ballot x.phase x.cmd x.first x.attr x.same x.who x.seen=x) /\
  (∀ x:nZ,nZ.mk x.me x.table x.leads=x) /\
  (∀ x:rJ,rJ.mk x.kind x.src x.dst x.rep x.no x.ballot x.vote x.state x.cmd x.attr=x) /\
  (∀ x:dL,dL.mk x.rep x.no x.cmd=x) /\
  (∀ x:Ear,Ear.mk x.reps x.bag x.asked=x) /\
  (∀ x:xL,xL.mk x.code x.sum=x) /\
  (∀ x:bS,bS.mk x.rep x.no x.cmd x.told=x) :=
 ⟨fun _=>rfl,
  fun _=>rfl,
  fun _=>rfl,
  fun _=>rfl,
  fun _=>rfl,
  fun _=>rfl,
  fun _=>rfl,
  fun _=>rfl,
  fun _=>rfl,
  fun _=>rfl,
  fun _=>rfl⟩
theorem aM:(∀ {xs:List Int} {k:Int},InB xs k->(aT.row 1 0 [true]).run [rL xs,i64 k]=some [i64 (atI xs k)]) /\
  (∀ {xs:List (List UInt8)} {k:Int},InB xs k->(aT.row 1 0 [true]).run [rL xs,i64 k]=some [.str (atI xs k)]) /\
  (∀ {xs:List (List Int)} {k:Int},InB xs k->(aT.row 1 0 [false]).run [rL xs,i64 k]=some [rL (atI xs k)]) /\
  (∀ {xs:List (List bT)} {k:Int},InB xs k->(aT.row 1 0 [false]).run [rL xs,i64 k]=some [rL (atI xs k)]) /\
  (∀ {xs:List (List (List Int))} {k:Int},InB xs k->(aT.row 1 0 [false]).run [rL xs,i64 k]=some [rL (atI xs k)]) /\
  (∀ {xs:List rF} {k:Int},InB xs k->(aT.row 5 0 [true,true,true,true,true]).run [rL xs,i64 k]=some [i64 (atI xs k).kind,i64 (atI xs k).id,i64 (atI xs k).src,i64 (atI xs k).dst,i64 (atI xs k).amt]) /\
  (∀ {xs:List bT} {k:Int},InB xs k->(aT.row 10 0 [true,true,true,true,true,true,true,true,true,false]).run [rL xs,i64 k]=some [i64 (atI xs k).ballot,i64 (atI xs k).vote,i64 (atI xs k).state,i64 (atI xs k).cmd.kind,i64 (atI xs k).cmd.id,i64 (atI xs k).cmd.src,i64 (atI xs k).cmd.dst,i64 (atI xs k).cmd.amt,i64 (atI xs k).attr.seq,rL (atI xs k).attr.deps]) /\
  (∀ {xs:List gU} {k:Int},InB xs k->(aT.row 16 0 [true,true,true,true,true,true,true,true,true,true,false,true,false,true,false,false]).run [rL xs,i64 k]=some [i64 (atI xs k).rep,i64 (atI xs k).no,i64 (atI xs k).ballot,i64 (atI xs k).phase,i64 (atI xs k).cmd.kind,i64 (atI xs k).cmd.id,i64 (atI xs k).cmd.src,i64 (atI xs k).cmd.dst,i64 (atI xs k).cmd.amt,i64 (atI xs k).first.seq,rL (atI xs k).first.deps,i64 (atI xs k).attr.seq,rL (atI xs k).attr.deps,.bool (atI xs k).same,rL (atI xs k).who,rL (atI xs k).seen]) /\
  (∀ {xs:List gU} {k:Int},InB xs k->(aT.row 16 0 [true]).run [rL xs,i64 k]=some [i64 (atI xs k).rep]) /\
  (∀ {xs:List gU} {k:Int},InB xs k->(aT.row 16 1 [true]).run [rL xs,i64 k]=some [i64 (atI xs k).no]) /\
  (∀ {xs:List nZ} {k:Int},InB xs k->(aT.row 4 0 [true,true,false,false]).run [rL xs,i64 k]=some [i64 (atI xs k).me,i64 (atI xs k).table.n,rL (atI xs k).table.rows,rL (atI xs k).leads]) /\
  (∀ {xs:List rJ} {k:Int},InB xs k->(aT.row 15 0 [true,true,true,true,true,true,true,true,true,true,true,true,true,true,false]).run [rL xs,i64 k]=some [i64 (atI xs k).kind,i64 (atI xs k).src,i64 (atI xs k).dst,i64 (atI xs k).rep,i64 (atI xs k).no,i64 (atI xs k).ballot,i64 (atI xs k).vote,i64 (atI xs k).state,i64 (atI xs k).cmd.kind,i64 (atI xs k).cmd.id,i64 (atI xs k).cmd.src,i64 (atI xs k).cmd.dst,i64 (atI xs k).cmd.amt,i64 (atI xs k).attr.seq,rL (atI xs k).attr.deps]) /\
  (∀ {xs:List dL} {k:Int},InB xs k->(aT.row 7 0 [true,true,true,true,true,true,true]).run [rL xs,i64 k]=some [i64 (atI xs k).rep,i64 (atI xs k).no,i64 (atI xs k).cmd.kind,i64 (atI xs k).cmd.id,i64 (atI xs k).cmd.src,i64 (atI xs k).cmd.dst,i64 (atI xs k).cmd.amt]) /\
  (∀ {xs:List xL} {k:Int},InB xs k->(aT.row 2 0 [true,true]).run [rL xs,i64 k]=some [i64 (atI xs k).code,i64 (atI xs k).sum]) /\
  (∀ {xs:List bS} {k:Int},InB xs k->(aT.row 9 0 [true,true,true,true,true,true,true,true,true]).run [rL xs,i64 k]=some [i64 (atI xs k).rep,i64 (atI xs k).no,i64 (atI xs k).cmd.kind,i64 (atI xs k).cmd.id,i64 (atI xs k).cmd.src,i64 (atI xs k).cmd.dst,i64 (atI xs k).cmd.amt,i64 (atI xs k).told.code,i64 (atI xs k).told.sum]) /\
  (∀ {xs:List bS} {k:Int},InB xs k->(aT.row 9 7 [true,true]).run [rL xs,i64 k]=some [i64 (atI xs k).told.code,i64 (atI xs k).told.sum]) :=
 ⟨fun h=>(mQ rfl h),
  fun h=>(mQ rfl h),
  fun h=>(mQ rfl h),
  fun h=>(mQ rfl h),
  fun h=>(mQ rfl h),
  fun h=>(mQ rfl h),
  fun h=>(mQ rfl h),
  fun h=>(mQ rfl h),
  fun h=>(mQ rfl h),
  fun h=>(mQ rfl h),
  fun h=>(mQ rfl h),
  fun h=>(mQ rfl h),
  fun h=>(mQ rfl h),
  fun h=>(mQ rfl h),
  fun h=>(mQ rfl h),
  fun h=>(mQ rfl h)⟩
theorem Dad:(∀ {xs:List Int} {k:Int} {v:Int},InB xs k->(aT.set 1 0 1).run [rL xs,i64 k,i64 v]=some [rL (iT xs k v)]) /\
  (∀ {xs:List (List UInt8)} {k:Int} {v:(List UInt8)},InB xs k->(aT.set 1 0 1).run [rL xs,i64 k,.str v]=some [rL (iT xs k v)]) /\
  (∀ {xs:List (List Int)} {k:Int} {v:(List Int)},InB xs k->(aT.set 1 0 1).run [rL xs,i64 k,rL v]=some [rL (iT xs k v)]) /\
  (∀ {xs:List (List bT)} {k:Int} {v:(List bT)},InB xs k->(aT.set 1 0 1).run [rL xs,i64 k,rL v]=some [rL (iT xs k v)]) /\
  (∀ {xs:List (List (List Int))} {k:Int} {v:(List (List Int))},InB xs k->(aT.set 1 0 1).run [rL xs,i64 k,rL v]=some [rL (iT xs k v)]) /\
  (∀ {xs:List bT} {k:Int} {e9 iw gv bo cC cm cr cn cV:Int} {cF:(List Int)},InB xs k->(aT.set 10 0 10).run [rL xs,i64 k,i64 e9,i64 iw,i64 gv,i64 bo,i64 cC,i64 cm,i64 cr,i64 cn,i64 cV,rL cF]=some [rL (iT xs k ⟨e9,iw,gv,⟨bo,cC,cm,cr,cn⟩,⟨cV,cF⟩⟩)]) /\
  (∀ {xs:List gU} {k:Int} {iu mq e9 rm bo cC cm cr cn kr:Int} {kd:(List Int)} {cV:Int} {cF:(List Int)} {ui:Bool} {xy:(List Int)} {tR:(List bT)},InB xs k->(aT.set 16 0 16).run [rL xs,i64 k,i64 iu,i64 mq,i64 e9,i64 rm,i64 bo,i64 cC,i64 cm,i64 cr,i64 cn,i64 kr,rL kd,i64 cV,rL cF,.bool ui,rL xy,rL tR]=some [rL (iT xs k ⟨iu,mq,e9,rm,⟨bo,cC,cm,cr,cn⟩,⟨kr,kd⟩,⟨cV,cF⟩,ui,xy,tR⟩)]) /\
  (∀ {xs:List nZ} {k:Int} {a2p ny:Int} {ke:(List (List bT))} {qT:(List gU)},InB xs k->(aT.set 4 0 4).run [rL xs,i64 k,i64 a2p,i64 ny,rL ke,rL qT]=some [rL (iT xs k ⟨a2p,⟨ny,ke⟩,qT⟩)]) /\
  (∀ {xs:List rJ} {k:Int} {lO po pc iu mq e9 iw gv bo cC cm cr cn cV:Int} {cF:(List Int)},InB xs k->(aT.set 15 0 15).run [rL xs,i64 k,i64 lO,i64 po,i64 pc,i64 iu,i64 mq,i64 e9,i64 iw,i64 gv,i64 bo,i64 cC,i64 cm,i64 cr,i64 cn,i64 cV,rL cF]=some [rL (iT xs k ⟨lO,po,pc,iu,mq,e9,iw,gv,⟨bo,cC,cm,cr,cn⟩,⟨cV,cF⟩⟩)]) /\
  (∀ {xs:List dL} {k:Int} {iu mq bo cC cm cr cn:Int},InB xs k->(aT.set 7 0 7).run [rL xs,i64 k,i64 iu,i64 mq,i64 bo,i64 cC,i64 cm,i64 cr,i64 cn]=some [rL (iT xs k ⟨iu,mq,⟨bo,cC,cm,cr,cn⟩⟩)]) :=
 ⟨fun h=>(wB rfl rfl (by decide) rfl h),
  fun h=>(wB rfl rfl (by decide) rfl h),
  fun h=>(wB rfl rfl (by decide) rfl h),
  fun h=>(wB rfl rfl (by decide) rfl h),
  fun h=>(wB rfl rfl (by decide) rfl h),
  fun h=>(wB rfl rfl (by decide) rfl h),
  fun h=>(wB rfl rfl (by decide) rfl h),
  fun h=>(wB rfl rfl (by decide) rfl h),
  fun h=>(wB rfl rfl (by decide) rfl h),
  fun h=>(wB rfl rfl (by decide) rfl h)⟩
theorem oC:(∀ {v0:Int},(aT.mk 1 1).run [i64 v0]=some [rL [v0]]) /\
  (∀ {v0 v1:Int},(aT.mk 1 2).run [i64 v0,i64 v1]=some [rL [v0,v1]]) /\
  aT.ne.run []=none /\
  aT.ne.run []=none /\
  aT.ne.run []=none /\
  aT.ne.run []=none /\
  aT.ne.run []=none /\
  aT.ne.run []=none /\
  (∀ {v0:(List UInt8)},(aT.mk 1 1).run [.str v0]=some [rL [v0]]) /\
  (∀ {v0 v1:(List UInt8)},(aT.mk 1 2).run [.str v0,.str v1]=some [rL [v0,v1]]) /\
  aT.ne.run []=none /\
  aT.ne.run []=none /\
  aT.ne.run []=none /\
  aT.ne.run []=none /\
  aT.ne.run []=none /\
  aT.ne.run []=none /\
  (∀ {v0:(List Int)},(aT.mk 1 1).run [rL v0]=some [rL [v0]]) /\
  (∀ {v0:(List bT)},(aT.mk 1 1).run [rL v0]=some [rL [v0]]) /\
  (∀ {v0:(List (List Int))},(aT.mk 1 1).run [rL v0]=some [rL [v0]]) /\
  (∀ {lO a15 po pc yg:Int},(aT.mk 5 1).run [i64 lO,i64 a15,i64 po,i64 pc,i64 yg]=some [rL [(⟨lO,a15,po,pc,yg⟩:rF)]]) /\
  (∀ {e9 iw gv bo cC cm cr cn cV:Int} {cF:(List Int)},(aT.mk 10 1).run [i64 e9,i64 iw,i64 gv,i64 bo,i64 cC,i64 cm,i64 cr,i64 cn,i64 cV,rL cF]=some [rL [(⟨e9,iw,gv,⟨bo,cC,cm,cr,cn⟩,⟨cV,cF⟩⟩:bT)]]) /\
  (∀ {v_n:Int} {sE:(List (List bT))},(aT.mk 2 1).run [i64 v_n,rL sE]=some [rL [(⟨v_n,sE⟩:aL)]]) /\
  aT.ne.run []=none /\
  aT.ne.run []=none /\
  aT.ne.run []=none /\
  aT.ne.run []=none /\
  (∀ {ug xe:Int},(aT.mk 2 1).run [i64 ug,i64 xe]=some [rL [(⟨ug,xe⟩:xL)]]) /\
  (∀ {iu mq bo cC cm cr cn ku mw:Int},(aT.mk 9 1).run [i64 iu,i64 mq,i64 bo,i64 cC,i64 cm,i64 cr,i64 cn,i64 ku,i64 mw]=some [rL [(⟨iu,mq,⟨bo,cC,cm,cr,cn⟩,⟨ku,mw⟩⟩:bS)]]) :=
 ⟨rfl,
  rfl,
  rfl,
  rfl,
  rfl,
  rfl,
  rfl,
  rfl,
  rfl,
  rfl,
  rfl,
  rfl,
  rfl,
  rfl,
  rfl,
  rfl,
  rfl,
  rfl,
  rfl,
  (Pa3 rfl rfl),
  (Pa3 rfl rfl),
  (Pa3 rfl rfl),
  rfl,
  rfl,
  rfl,
  rfl,
  (Pa3 rfl rfl),
  (Pa3 rfl rfl)⟩
theorem xN:(∀ {n:Int},0<=n->n<=100000000000->(aT.make 8 [(.int .i64 0)]).run [i64 n]=some [rL (Zb6 n.toNat (0:Int))]) /\
  aT.ne.run []=none /\
  aT.ne.run []=none /\
  (∀ {n:Int},0<=n->n<=100000000000->(aT.make 24 [(.rows 10 [])]).run [i64 n]=some [rL (Zb6 n.toNat ([]:(List bT)))]) /\
  aT.ne.run []=none /\
  aT.ne.run []=none /\
  (∀ {n:Int},0<=n->n<=100000000000->(aT.make 96 [(.int .i64 0),(.int .i64 0),(.int .i64 0),(.int .i64 0),(.int .i64 0),(.int .i64 0),(.int .i64 0),(.int .i64 0),(.int .i64 0),(.rows 1 [])]).run [i64 n]=some [rL (Zb6 n.toNat (default:bT))]) /\
  aT.ne.run []=none /\
  (∀ {n:Int},0<=n->n<=100000000000->(aT.make 192 [(.int .i64 0),(.int .i64 0),(.int .i64 0),(.int .i64 0),(.int .i64 0),(.int .i64 0),(.int .i64 0),(.int .i64 0),(.int .i64 0),(.int .i64 0),(.rows 1 []),(.int .i64 0),(.rows 1 []),(.bool false),(.rows 1 []),(.rows 10 [])]).run [i64 n]=some [rL (Zb6 n.toNat (default:gU))]) /\
  (∀ {n:Int},0<=n->n<=100000000000->(aT.make 64 [(.int .i64 0),(.int .i64 0),(.rows 1 []),(.rows 16 [])]).run [i64 n]=some [rL (Zb6 n.toNat (default:nZ))]) /\
  (∀ {n:Int},0<=n->n<=100000000000->(aT.make 136 [(.int .i64 0),(.int .i64 0),(.int .i64 0),(.int .i64 0),(.int .i64 0),(.int .i64 0),(.int .i64 0),(.int .i64 0),(.int .i64 0),(.int .i64 0),(.int .i64 0),(.int .i64 0),(.int .i64 0),(.int .i64 0),(.rows 1 [])]).run [i64 n]=some [rL (Zb6 n.toNat (default:rJ))]) /\
  (∀ {n:Int},0<=n->n<=100000000000->(aT.make 56 [(.int .i64 0),(.int .i64 0),(.int .i64 0),(.int .i64 0),(.int .i64 0),(.int .i64 0),(.int .i64 0)]).run [i64 n]=some [rL (Zb6 n.toNat (default:dL))]) :=
 ⟨fun h h2=>(wC rfl h (by unfold eD;omega)),
  rfl,
  rfl,
  fun h h2=>(wC rfl h (by unfold eD;omega)),
  rfl,
  rfl,
  fun h h2=>(wC rfl h (by unfold eD;omega)),
  rfl,
  fun h h2=>(wC rfl h (by unfold eD;omega)),
  fun h h2=>(wC rfl h (by unfold eD;omega)),
  fun h h2=>(wC rfl h (by unfold eD;omega)),
  fun h h2=>(wC rfl h (by unfold eD;omega))⟩
theorem fK:(∀ {xs ys:List Int},xs.length+ys.length<=100000000000->(aT.app 1 8 true).run [rL xs,rL ys]=some [rL (xs++ys)]) /\
  (∀ {ys:List Int},ys.length<=100000000000->(aT.app 1 8 true).run [.rows 1 [],rL ys]=some [rL ys]) /\
  (∀ {xs ys:List (List Int)},xs.length+ys.length<=100000000000->(aT.app 1 24 false).run [rL xs,rL ys]=some [rL (xs++ys)]) /\
  (∀ {ys:List (List Int)},ys.length<=100000000000->(aT.app 1 24 false).run [.rows 1 [],rL ys]=some [rL ys]) /\
  (∀ {xs ys:List (List bT)},xs.length+ys.length<=100000000000->(aT.app 1 24 false).run [rL xs,rL ys]=some [rL (xs++ys)]) /\
  (∀ {ys:List (List bT)},ys.length<=100000000000->(aT.app 1 24 false).run [.rows 1 [],rL ys]=some [rL ys]) /\
  (∀ {xs ys:List (List (List Int))},xs.length+ys.length<=100000000000->(aT.app 1 24 false).run [rL xs,rL ys]=some [rL (xs++ys)]) /\
  (∀ {ys:List (List (List Int))},ys.length<=100000000000->(aT.app 1 24 false).run [.rows 1 [],rL ys]=some [rL ys]) /\
  (∀ {xs ys:List rF},xs.length+ys.length<=100000000000->(aT.app 5 40 true).run [rL xs,rL ys]=some [rL (xs++ys)]) /\
  (∀ {ys:List rF},ys.length<=100000000000->(aT.app 5 40 true).run [.rows 5 [],rL ys]=some [rL ys]) /\
  (∀ {xs ys:List bT},xs.length+ys.length<=100000000000->(aT.app 10 96 false).run [rL xs,rL ys]=some [rL (xs++ys)]) /\
  (∀ {ys:List bT},ys.length<=100000000000->(aT.app 10 96 false).run [.rows 10 [],rL ys]=some [rL ys]) /\
  (∀ {xs ys:List xL},xs.length+ys.length<=100000000000->(aT.app 2 16 true).run [rL xs,rL ys]=some [rL (xs++ys)]) /\
  (∀ {ys:List xL},ys.length<=100000000000->(aT.app 2 16 true).run [.rows 2 [],rL ys]=some [rL ys]) /\
  (∀ {xs ys:List bS},xs.length+ys.length<=100000000000->(aT.app 9 72 true).run [rL xs,rL ys]=some [rL (xs++ys)]) /\
  (∀ {ys:List bS},ys.length<=100000000000->(aT.app 9 72 true).run [.rows 9 [],rL ys]=some [rL ys]) :=
 ⟨fun h=>(Bay rfl (fun _ _=>rfl) (by unfold eD;omega)),
  fun h=>(wD rfl (fun _ _=>rfl) (by unfold eD;omega)),
  fun h=>(Bay rfl (fun h=>by cases h) (by unfold eD;omega)),
  fun h=>(wD rfl (fun h=>by cases h) (by unfold eD;omega)),
  fun h=>(Bay rfl (fun h=>by cases h) (by unfold eD;omega)),
  fun h=>(wD rfl (fun h=>by cases h) (by unfold eD;omega)),
  fun h=>(Bay rfl (fun h=>by cases h) (by unfold eD;omega)),
  fun h=>(wD rfl (fun h=>by cases h) (by unfold eD;omega)),
  fun h=>(Bay rfl (fun _ _=>rfl) (by unfold eD;omega)),
  fun h=>(wD rfl (fun _ _=>rfl) (by unfold eD;omega)),
  fun h=>(Bay rfl (fun h=>by cases h) (by unfold eD;omega)),
  fun h=>(wD rfl (fun h=>by cases h) (by unfold eD;omega)),
  fun h=>(Bay rfl (fun _ _=>rfl) (by unfold eD;omega)),
  fun h=>(wD rfl (fun _ _=>rfl) (by unfold eD;omega)),
  fun h=>(Bay rfl (fun _ _=>rfl) (by unfold eD;omega)),
  fun h=>(wD rfl (fun _ _=>rfl) (by unfold eD;omega))⟩
theorem Jau:(∀ {xs:List Int} {lo hi:Int},0<=lo->lo<=hi->hi<=xs.length->(aT.sub 1 true).run [rL xs,i64 lo,i64 hi]=some [rL ((xs.take hi.toNat).drop lo.toNat)]) /\
  (∀ {xs:List Int} {lo hi:Int},0<=lo->lo<=hi->hi<=xs.length->(aT.sub 1 false).run [rL xs,i64 lo,i64 hi]=some [rL ((xs.take hi.toNat).drop lo.toNat)]) /\
  (∀ {xs:List (List UInt8)} {lo hi:Int},0<=lo->lo<=hi->hi<=xs.length->(aT.sub 1 true).run [rL xs,i64 lo,i64 hi]=some [rL ((xs.take hi.toNat).drop lo.toNat)]) /\
  (∀ {xs:List (List UInt8)} {lo hi:Int},0<=lo->lo<=hi->hi<=xs.length->(aT.sub 1 false).run [rL xs,i64 lo,i64 hi]=some [rL ((xs.take hi.toNat).drop lo.toNat)]) /\
  (∀ {xs:List (List Int)} {lo hi:Int},0<=lo->lo<=hi->hi<=xs.length->(aT.sub 1 false).run [rL xs,i64 lo,i64 hi]=some [rL ((xs.take hi.toNat).drop lo.toNat)]) /\
  (∀ {xs:List (List bT)} {lo hi:Int},0<=lo->lo<=hi->hi<=xs.length->(aT.sub 1 false).run [rL xs,i64 lo,i64 hi]=some [rL ((xs.take hi.toNat).drop lo.toNat)]) /\
  (∀ {xs:List (List (List Int))} {lo hi:Int},0<=lo->lo<=hi->hi<=xs.length->(aT.sub 1 false).run [rL xs,i64 lo,i64 hi]=some [rL ((xs.take hi.toNat).drop lo.toNat)]) /\
  aT.ne.run []=none /\
  aT.ne.run []=none /\
  aT.ne.run []=none /\
  aT.ne.run []=none /\
  aT.ne.run []=none /\
  (∀ {xs:List nZ} {lo hi:Int},0<=lo->lo<=hi->hi<=xs.length->(aT.sub 4 false).run [rL xs,i64 lo,i64 hi]=some [rL ((xs.take hi.toNat).drop lo.toNat)]) /\
  aT.ne.run []=none /\
  aT.ne.run []=none /\
  (∀ {xs:List dL} {lo hi:Int},0<=lo->lo<=hi->hi<=xs.length->(aT.sub 7 false).run [rL xs,i64 lo,i64 hi]=some [rL ((xs.take hi.toNat).drop lo.toNat)]) :=
 ⟨fun h0 h1 h2=>(Bax rfl (fun _ _=>rfl) h0 h1 h2),
  fun h0 h1 h2=>(Bax rfl (fun h=>by cases h) h0 h1 h2),
  fun h0 h1 h2=>(Bax rfl (fun _ _=>rfl) h0 h1 h2),
  fun h0 h1 h2=>(Bax rfl (fun h=>by cases h) h0 h1 h2),
  fun h0 h1 h2=>(Bax rfl (fun h=>by cases h) h0 h1 h2),
  fun h0 h1 h2=>(Bax rfl (fun h=>by cases h) h0 h1 h2),
  fun h0 h1 h2=>(Bax rfl (fun h=>by cases h) h0 h1 h2),
  rfl,
  rfl,
  rfl,
  rfl,
  rfl,
  fun h0 h1 h2=>(Bax rfl (fun h=>by cases h) h0 h1 h2),
  rfl,
  rfl,
  fun h0 h1 h2=>(Bax rfl (fun h=>by cases h) h0 h1 h2)⟩
theorem Aa5:(∀ {n9 wt qw ru qx n4 wx rl rr ri:Int},(aT.eqs [0,0,0,0,0]).run [i64 n9,i64 wt,i64 qw,i64 ru,i64 qx,i64 n4,i64 wx,i64 rl,i64 rr,i64 ri]=some [.bool (decide ((⟨n9,wt,qw,ru,qx⟩:rF)=⟨n4,wx,rl,rr,ri⟩))]) /\
  (∀ {oq qt og rq:Int},(aT.eqs [0,0]).run [i64 oq,i64 qt,i64 og,i64 rq]=some [.bool (decide ((⟨oq,qt⟩:xL)=⟨og,rq⟩))]) :=
 ⟨(fun {n9 wt qw ru qx n4 wx rl rr ri}=>Va9 [n9,wt,qw,ru,qx] [n4,wx,rl,rr,ri] rfl (by simp[rF.mk.injEq])),
  (fun {oq qt og rq}=>Va9 [oq,qt] [og,rq] rfl (by simp[xL.mk.injEq]))⟩
section
variable {T:Nat->Ent} {β:Type} {α:Type} [Inhabited α]
inductive Rd1 (σ:Type) where
 |go (s:σ)
 |out (r:Kind×List D)
def Aau {σ:Type}(f:Nat->α->σ->Rd1 σ):Nat->List α->σ->Rd1 σ
 |_,[],s=>.go s
 | i, x :: xs, s => match f i x s with
  |.go s'=>Aau f (i+1) xs s'
  |.out r=>.out r
def Wb6 {σ:Type}(vs:Int->σ->List D)(i:Int):Rd1 σ->Kind×List D
 |.go s=>(.cont,vs (i+1) s)
 |.out r=>r
theorem Kbc {σ:Type}{body:Tm β}{ρ:List D}{init:List aK}(xs:List α)(vs:Int->σ->List D)(s0:σ)(f:Nat->α->σ->Rd1 σ)(inv:Nat->σ->Prop)(fin:σ->Kind×List D)
  (h0:init.map (·.val ρ)=vs 0 s0) (hi:inv 0 s0)
  (h1:∀ (i:Nat) s,i<xs.length->inv i s->Er T body (ρ++vs i s)=some (Wb6 vs i (f i (atI xs i) s))/\(∀ s',f i (atI xs i) s=.go s'->inv (i+1) s')/\∀ r,f i (atI xs i) s=.out r->r.1≠.cont)
  (h2:∀ s,inv xs.length s->Er T body (ρ++vs xs.length s)=some (fin s)/\(fin s).1≠.cont) :
  ∃ r,Er T (.loop init body) ρ=some r/\((∃ s,Aau f 0 xs s0=.go s/\inv xs.length s/\r=fin s)\/Aau f 0 xs s0=.out r):=by
 have key:=Qad (T:=T) (body:=body) (ρ:=ρ) (γ:=Nat×σ) (fun c=>xs.length-c.1) (fun c=>c.1<=xs.length/\inv c.1 c.2/\Aau f c.1 (xs.drop c.1) c.2=Aau f 0 xs s0) (fun c=>vs (c.1:Int) c.2)
  (fun r=>(∃ s,Aau f 0 xs s0=.go s/\inv xs.length s/\r=fin s)\/Aau f 0 xs s0=.out r)
  (fun ⟨i,s⟩ ⟨hle,hv,hf⟩=>by
   simp only at hle hv hf ⊢
   rcases Aca i xs.length with hlt|lB
   ·obtain⟨h3,h4,h5⟩:=h1 i s hlt hv
    have hd:xs.drop i=atI xs i::xs.drop (i+1):=by
     rw[List.drop_eq_getElem_cons hlt,aZ hlt]
    rw[hd,Aau]at hf;refine⟨_,h3,?_⟩
    cases e:f i (atI xs i) s with
    | go s' =>
     rw[e]at hf;exact .inl ⟨rfl,(i+1,s'),⟨by simp only;omega,h4 s' e,hf⟩,by simp only;omega,rfl⟩
    | out r =>
     rw[e]at hf;exact .inr ⟨h5 r e,.inr hf.symm⟩
   ·obtain rfl:i=xs.length:=by omega
    obtain⟨h3,h4⟩:=h2 s hv;rw[List.drop_length,Aau]at hf;exact⟨_,h3,.inr ⟨h4,.inl ⟨s,hf.symm,hv,rfl⟩⟩⟩)
  xs.length (0,s0) (by simp) ⟨by simp,hi,by simp⟩ init h0
 exact key
theorem Han {body:Tm β}{ρ:List D}(j:Nat)(n:Nat)(p:Nat->Bool)(r:List D)
  (h1:∀ i:Nat,i<n->p i=true->Er T body (ρ++[i64 i])=some (.cont,[i64 ((i:Int)+1)]))
  (h2:∀ i:Nat,i<n->p i=false->Er T body (ρ++[i64 i])=some (.ret,r))
  (h3:Er T body (ρ++[i64 n])=some (.yield j,[])) :
  Er T (.loop [.c (i64 0)] body) ρ=iN (nU p n) (some (.yield j,[])) (some (.ret,r)):=by
 have key:=Qad (T:=T) (body:=body) (ρ:=ρ) (fun i=>n-i) (fun i=>i<=n/\∀ j,j<i->p j=true) (fun i=>[i64 (i:Nat)])
  (fun q=>(∀ j,j<n->p j=true)/\q=(.yield j,[])\/(∃ j,j<n/\p j=false)/\q=(.ret,r))
  (fun i ⟨hi,cP⟩=>by
   rcases Aca i n with hlt|lB
   ·cases e:p i with
    | true => exact ⟨_, h1 i hlt e, .inl ⟨rfl, i + 1, ⟨by omega, fun j hj => by
      rcases Aca j i with h|h
      ·exact cP j h
      ·obtain rfl:j=i:=by omega
       exact e⟩,by omega,rfl⟩⟩
    |false=>exact⟨_,h2 i hlt e,.inr ⟨by simp,.inr ⟨⟨i,hlt,e⟩,rfl⟩⟩⟩
   ·obtain rfl:i=n:=by omega
    exact⟨_,h3,.inr ⟨by simp,.inl ⟨cP,rfl⟩⟩⟩)
  n 0 (by omega) ⟨by omega,fun j hj=>by omega⟩ [.c (i64 0)] (by simp[aK.val])
 obtain⟨q,h4,h5⟩:=key;rw[h4]
 rcases h5 with ⟨h6,rfl⟩|⟨h6,rfl⟩
 ·rw[iX.2 h6];rfl
 ·rw[Eaq.2 h6];rfl
theorem Wan (xs:List α)(p:α->Bool):nU (fun i=>p (atI xs i)) xs.length=xs.all p:=by
 cases e:xs.all p with
 | true =>
  rw[Acd]at e;rw[iX];intro i hi;rw[aZ hi];exact e _ (Bcu hi)
 | false =>
  rw[List.all_eq_false]at e;obtain⟨x,hx,hp⟩:=e;obtain⟨i,hi,rfl⟩:=List.getElem_of_mem hx;exact Eaq.2 ⟨i,hi,by rw[aZ hi];simpa using hp⟩
theorem uP [DecidableEq α]{xs ys:List α}(hl:xs.length=ys.length):nU (fun i=>decide (atI xs i=atI ys i)) xs.length=decide (xs=ys):=by
 by_cases e:xs=ys
 ·subst e
  rw[decide_eq_true rfl,iX];exact fun i _=>decide_eq_true rfl
 ·rw[decide_eq_false e]
  cases h:nU (fun i=>decide (atI xs i=atI ys i)) xs.length with
  |false=>rfl
  | true =>
   rw[iX]at h;refine absurd (List.ext_getElem hl fun i h1 h2=>?_) e;have:=of_decide_eq_true (h i h1);rwa[aZ h1,aZ h2]at this
theorem Caw {xs ys:List α}[DecidableEq α](h:¬ xs.length=ys.length):decide (xs=ys)=false:=decide_eq_false fun e=>h (by rw[e])
theorem Vb9 {body:Tm β}{ρ:List D}(j:Nat)(xs:List α)(p:α->Bool)(r:List D)
  (h1:∀ i:Nat,i<xs.length->InB xs (i:Int)->decide ((i:Int)<xs.length)=true->p (atI xs i)=true->Er T body (ρ++[i64 i])=some (.cont,[i64 ((i:Int)+1)]))
  (h2:∀ i:Nat,i<xs.length->InB xs (i:Int)->decide ((i:Int)<xs.length)=true->p (atI xs i)=false->Er T body (ρ++[i64 i])=some (.ret,r))
  (h3:decide ((xs.length:Int)<xs.length)=false->Er T body (ρ++[i64 xs.length])=some (.yield j,[])) :
  Er T (.loop [.c (i64 0)] body) ρ=iN (xs.all p) (some (.yield j,[])) (some (.ret,r)):=by
 rw[Han j xs.length (fun i=>p (atI xs i)) r (fun i hi hp=>h1 i hi (aH.2 hi) (by simp;omega) hp) (fun i hi hp=>h2 i hi (aH.2 hi) (by simp;omega) hp) (h3 (by simp)),Wan]
omit [Inhabited α] in
theorem Par {body:Tm β}{ρ:List D}(j:Nat)(n:Nat)(p:Nat->Bool)(r:List D)
  (h1:∀ i:Nat,i<n->decide ((i:Int)<n)=true->Er T body (ρ++[i64 i])=iN (p i) (some (.cont,[i64 ((i:Int)+1)])) (some (.ret,r)))
  (h3:decide ((n:Int)<n)=false->Er T body (ρ++[i64 n])=some (.yield j,[])) :
  Er T (.loop [.c (i64 0)] body) ρ=iN (nU p n) (some (.yield j,[])) (some (.ret,r)) :=
 Han j n p r (fun i hi hp=>by rw[h1 i hi (by simp;omega),hp];rfl) (fun i hi hp=>by rw[h1 i hi (by simp;omega),hp];rfl) (h3 (by simp))
theorem Jba {body:Tm β}{ρ:List D}(j:Nat)(xs:List α)(p:α->Bool)(r:List D)
  (h1:∀ i:Nat,i<xs.length->InB xs (i:Int)->decide ((i:Int)<xs.length)=true->atI xs (i:Int)∈xs->Er T body (ρ++[i64 i])=iN (p (atI xs i)) (some (.cont,[i64 ((i:Int)+1)])) (some (.ret,r)))
  (h3:decide ((xs.length:Int)<xs.length)=false->Er T body (ρ++[i64 xs.length])=some (.yield j,[])) :
  Er T (.loop [.c (i64 0)] body) ρ=iN (xs.all p) (some (.yield j,[])) (some (.ret,r)) :=
 Vb9 j xs p r (fun i hi hb hl hp=>by rw[h1 i hi hb hl (by rw[aZ hi];exact Bcu hi),hp];rfl) (fun i hi hb hl hp=>by rw[h1 i hi hb hl (by rw[aZ hi];exact Bcu hi),hp];rfl) h3
def ixF (p:α->Bool)(xs:List α):Int:=match xs.findIdx? p with
 |some i=>i
 |none=>-1
omit [Inhabited α] in
theorem dJ (p:α->Bool)(xs:List α):decide (0<=ixF p xs)=xs.any p:=by
 unfold ixF
 cases h:xs.findIdx? p with
 | none =>
  rw[List.findIdx?_eq_none_iff]at h
  have:xs.any p=false:=by
   rw[List.any_eq_false];exact fun x hx=>by simp[h x hx]
  rw[this];rfl
 | some i =>
  have:xs.any p=true:=by
   rw[List.findIdx?_eq_some_iff_getElem]at h;obtain⟨hi,hp,-⟩:=h;rw[List.any_eq_true];exact⟨_,Bcu hi,hp⟩
  rw[this];simp
theorem Aav {body:Tm β}{ρ:List D}(j:Nat)(xs:List α)(p:α->Bool)(rf:Int->List D)
  (h1:∀ i:Nat,i<xs.length->InB xs (i:Int)->decide ((i:Int)<xs.length)=true->p (atI xs i)=true->Er T body (ρ++[i64 i])=some (.ret,rf i))
  (h2:∀ i:Nat,i<xs.length->InB xs (i:Int)->decide ((i:Int)<xs.length)=true->p (atI xs i)=false->Er T body (ρ++[i64 i])=some (.cont,[i64 ((i:Int)+1)]))
  (h3:decide ((xs.length:Int)<xs.length)=false->Er T body (ρ++[i64 xs.length])=some (.yield j,[])) :
  Er T (.loop [.c (i64 0)] body) ρ=iN (xs.any p) (some (.ret,rf (ixF p xs))) (some (.yield j,[])):=by
 have cP:∀ (i:Nat) (ys:List α),Aau (fun (i:Nat) x (_:Unit)=>if p x then Rd1.out (.ret,rf i) else .go ()) i ys ()=match ys.findIdx? p with|some k=>.out (.ret,rf ((i+k:Nat):Int))|none=>.go ():=by
  intro i ys
  induction ys generalizing i with
  |nil=>rfl
  | cons y ys ih =>
   rw[Aau,List.findIdx?_cons]
   cases p y with
   |true=>simp
   | false =>
    simp only[Zbr,if_false];rw[ih (i+1)]
    cases ys.findIdx? p with
    |none=>rfl
    |some k=>simp only[Acz];congr 4;omega
 obtain⟨q,h4,h5⟩:=Kbc (T:=T) (body:=body) (ρ:=ρ) (init:=[.c (i64 0)]) xs (fun i (_:Unit)=>[i64 i]) () (fun i x _=>if p x then .out (.ret,rf i) else .go ()) (fun _ _=>True) (fun _=>(.yield j,[])) rfl trivial
  (fun i _ hi _=>by
   cases e:p (atI xs i) with
   |true=>exact⟨by rw[h1 i hi (aH.2 hi) (by simp;omega) e];rfl,fun _ _=>trivial,fun r h=>by simp at h;rw[<- h];simp⟩
   |false=>exact⟨by rw[h2 i hi (aH.2 hi) (by simp;omega) e];rfl,fun _ _=>trivial,fun r h=>by simp at h⟩)
  (fun _ _=>⟨h3 (by simp),by simp⟩)
 rw[h4,<- dJ];rw[cP]at h5;unfold ixF
 cases e:xs.findIdx? p with
 | none =>
  rw[e]at h5
  rcases h5 with ⟨s,-,-,rfl⟩|h5
  ·rfl
  ·simp at h5
 | some k =>
  rw[e]at h5
  rcases h5 with ⟨s,h5,-⟩|h5
  ·simp at h5
  ·simp only[Nat.zero_add,Rd1.out.injEq]at h5
   rw[<- h5];simp[iN]
theorem at_mem {xs:List α}{i:Nat}(h:i<xs.length):atI xs (i:Int)∈xs:=by rw[aZ h];exact Bcu h
omit [Inhabited α] in
theorem iL {body:Tm β}{ρ:List D}{init:List aK}(n:Nat)(vs:Nat->List D)(r:Kind×List D)(h0:init.map (·.val ρ)=vs 0)(hr:r.1≠.cont)
  (h1:∀ i:Nat,i<n->decide ((i:Int)<n)=true->Er T body (ρ++vs i)=some (.cont,vs (i+1)))
  (h2:decide ((n:Int)<n)=false->Er T body (ρ++vs n)=some r):Er T (.loop init body) ρ=some r:=by
 obtain⟨q,h3,rfl⟩:=Qad (T:=T) (body:=body) (ρ:=ρ) (fun i=>n-i) (fun i=>i<=n) vs (fun q=>q=r)
  (fun i hi=>by
   rcases Aca i n with hlt|lB
   ·exact⟨_,h1 i hlt (by simp;omega),.inl ⟨rfl,i+1,by omega,by omega,rfl⟩⟩
   ·obtain rfl:i=n:=by omega
    exact⟨_,h2 (by simp),.inr ⟨hr,rfl⟩⟩) n 0 (by omega) (by omega) init h0
 exact h3
omit [Inhabited α] in
theorem Kam {γ:Type}{body:Tm β}{ρ:List D}{init:List aK}(r:Kind×List D)(m:γ->Nat)(inv:γ->Prop)(vs:γ->List D)(c0:γ)(h0:init.map (·.val ρ)=vs c0)(hi:inv c0)(hr:r.1≠.cont)
  (h:∀ c,inv c->(∃ c',Er T body (ρ++vs c)=some (.cont,vs c')/\inv c'/\m c'<m c)\/Er T body (ρ++vs c)=some r):Er T (.loop init body) ρ=some r:=by
 obtain⟨q,h1,rfl⟩:=Qad (T:=T) (body:=body) (ρ:=ρ) m inv vs (fun q=>q=r)
  (fun c hc=>by
   rcases h c hc with ⟨c',h2,h3,h4⟩|h2
   ·exact⟨_,h2,.inl ⟨rfl,c',h3,h4,rfl⟩⟩
   ·exact⟨_,h2,.inr ⟨hr,rfl⟩⟩) (m c0) c0 (Zb2 _) hi init h0
 exact h1
theorem Bb0 {σ:Type}{body:Tm β}{ρ:List D}{init:List aK}(j:Nat)(xs:List α)(vs:Int->σ->List D)(s0:σ)(f:σ->α->σ)(inv:Nat->σ->Prop)(out:σ->List D)
  (h0:init.map (·.val ρ)=vs 0 s0) (hi:inv 0 s0)
  (h1:∀ (i:Nat) s,i<xs.length->InB xs (i:Int)->decide ((i:Int)<xs.length)=true->inv i s->Er T body (ρ++vs i s)=some (.cont,vs ((i:Int)+1) (f s (atI xs i)))/\inv (i+1) (f s (atI xs i)))
  (h2:∀ s,decide ((xs.length:Int)<xs.length)=false->inv xs.length s->Er T body (ρ++vs xs.length s)=some (.yield j,out s)) :
  Er T (.loop init body) ρ=some (.yield j,out (xs.foldl f s0))/\inv xs.length (xs.foldl f s0):=by
 have cP:∀ i xs s,Aau (fun (_:Nat) (x:α) s=>Rd1.go (f s x)) i xs s=.go (xs.foldl f s):=by
  intro i xs
  induction xs generalizing i with
  |nil=>exact fun _=>rfl
  |cons x xs ih=>exact fun s=>ih (i+1) _
 obtain⟨q,h4,h5⟩:=Kbc (T:=T) (body:=body) (ρ:=ρ) (init:=init) xs vs s0 (fun _ x s=>.go (f s x)) inv (fun s=>(.yield j,out s)) h0 hi
  (fun i s hl hv=>by
   obtain⟨h5,h6⟩:=h1 i s hl (aH.2 hl) (by simp;omega) hv;exact⟨h5,fun s' h=>by simp only[Rd1.go.injEq]at h;rw[<- h];exact h6,fun r h=>by cases h⟩)
  (fun s hv=>⟨h2 s (by simp) hv,by simp⟩)
 rw[cP]at h5
 rcases h5 with ⟨s,h5,h6,rfl⟩|h5
 ·simp only[Rd1.go.injEq]at h5
  subst h5;exact⟨h4,h6⟩
 ·cases h5
end
theorem take_at {α:Type}[Inhabited α]{xs:List α}{i:Nat}(h:i<xs.length):xs.take i++[atI xs (i:Int)]=xs.take (i+1):=by rw[List.take_succ_eq_append_getElem h,aZ h]
theorem Zay {α:Type}[Inhabited α]{xs:List α}{k:Int}(h:InB xs k):iT xs k (atI xs k)=xs:=by
 have h2:=h.lt;unfold iT atI;rw[Zbu,Zbq h2];exact List.set_getElem_self h2
def Xa7 {α:Type}[Enc α](xs:List (List α))(k:Int):D:=.rows 1 ((xs.map Enc.enc).set k.toNat [.hole])
theorem War:(∀ {α:Type} [Enc α] {xs:List (List α)} {k:Int},InB xs k->(aT.set 1 0 1).run [rL xs,i64 k,.hole]=some [Xa7 xs k])/\(∀ {α:Type} [Enc α] {xs:List (List α)} {k j:Int},InB xs j->aT.inb.run [Xa7 xs k,i64 j]=some []) /\
  (∀ {α:Type} [Enc α] {xs:List (List α)} {k:Int} {l:List α},InB xs k->(aT.set 1 0 1).run [Xa7 xs k,i64 k,rL l]=some [rL (iT xs k l)]):=by
 refine⟨?_,?_,?_⟩
 ·intro α _ xs k h
  have h2:=h.lt;unfold InB at h;have e:(xs.map Enc.enc)[k.toNat]?=some [rL xs[k.toNat]]:=by rw[Ace,Zbq h2];rfl
  show (if _ then _ else _)=_
  rw[if_pos ⟨rfl,h.1⟩,e];rfl
 ·intro α _ xs k j h
  unfold InB at h;show (if _ then _ else _)=_
  rw[if_pos ⟨h.1,by simpa using h.2⟩]
 ·intro α _ xs k l h
  have h2:=h.lt;unfold InB at h;have e:((xs.map Enc.enc).set k.toNat [.hole])[k.toNat]?=some [.hole]:=by rw[List.getElem?_set_self (by simpa using h2)]
  show (if _ then _ else _)=_
  rw[if_pos ⟨rfl,h.1⟩,e];show some _=_
  simp only[rL,iT,List.map_set,List.set_set];rfl
theorem SQ:(∀ {a b:Int},-9223372036854775808<=a+b->a+b<=9223372036854775807->(aT.bin .add).run [i64 a,i64 b]=some [i64 (a+b)]) /\
  (∀ {a b:Int},-9223372036854775808<=a-b->a-b<=9223372036854775807->(aT.bin .sub).run [i64 a,i64 b]=some [i64 (a-b)]) /\
  (∀ {a b:Int},0<=a->a<=9223372036854775807->0<b->(aT.bin .quo).run [i64 a,i64 b]=some [i64 (a / b)])/\(∀ {a b:Int},0<=a->0<b->(aT.bin .rem).run [i64 a,i64 b]=some [i64 (a % b)]) :=
 ⟨Jbz,Sa3,Fb5,Fb4⟩
theorem Dac:(∀ {α:Type} [Inhabited α] {xs:List α} {k:Int} {a:α},InB xs k->atI (iT xs k a) k=a)/\(∀ {α:Type} {xs:List α} {k:Int} {a b:α},iT (iT xs k a) k b=iT xs k b) /\
  (∀ {α:Type} {xs:List α} {j k:Int} {a:α},InB (iT xs j a) k=InB xs k)/\(∀ {α:Type} {xs:List α} {j:Int} {a:α},(iT xs j a).length=xs.length):=by
 refine⟨?_,?_,?_,?_⟩
 ·intro α _ xs k a h
  have:=h.lt;rw[iT,atI,Zbu,List.getElem?_set_self this];rfl
 ·intro α xs k a b
  rw[iT,iT,iT,List.set_set]
 ·intro α xs j k a
  unfold InB iT;rw[Cce]
 ·intro α xs j a
  exact Cce ..
def szL {α:Type}(f:α->Nat)(xs:List α):Nat:=xs.length+(xs.map f).sum
def szR (l:Int)(n:Nat):Int:=if (n:Int)<=l then l-n else -1
theorem Uas {α:Type}{f:α->Nat}{x:α}{xs:List α}:szL f (x::xs)=1+f x+szL f xs:=by simp[szL];omega
theorem gL {α:Type}{f:α->Nat}:∀ {xs:List α} {x:α},x∈xs->1+f x<=szL f xs
 |[],x,h=>by cases h
 | y :: ys, x, h => by
  rw[Uas]
  rcases List.mem_cons.1 h with rfl|h
  ·omega
  ·have:=gL (f:=f) h
   omega
theorem fI {α:Type}{xs:List α}:szL (fun _=>0) xs=xs.length:=by
 have:∀ xs:List α,(xs.map fun _=>0).sum=0:=fun xs=>by
  induction xs with
  |nil=>rfl
  |cons x xs ih=>simp only[Acg,List.sum_cons,ih]
 rw[szL,this];rfl
theorem gY {α:Type}{f:α->Nat}{xs:List α}:xs.length<=szL f xs:=by unfold szL;omega
section
variable {T:Nat->Ent} {β:Type} {α:Type} [Inhabited α]
theorem Oa0 {body:Tm β}{ρ:List D}{a:aK}(xs:List α)(f:α->Nat)(l:Int)(h0:a.val ρ=i64 l)(hl:0<=l)(fm:l<=1048576)
  (h1:∀ (i:Nat) (m:Int),i<xs.length->InB xs (i:Int)->decide ((i:Int)<xs.length)=true->0<=m->m<=1048576->(f (atI xs i):Int)<=m->szR m (f (atI xs i))=m-f (atI xs i)->decide (m-(f (atI xs i):Int)<0)=false->Er T body (ρ++[i64 m,i64 i])=some (.cont,[i64 (m-f (atI xs i)),i64 ((i:Int)+1)]))
  (h2:∀ (i:Nat) (m:Int),i<xs.length->InB xs (i:Int)->decide ((i:Int)<xs.length)=true->0<=m->m<=1048576->m<f (atI xs i)->szR m (f (atI xs i))=-1->decide ((-1:Int)<0)=true->Er T body (ρ++[i64 m,i64 i])=some (.ret,[i64 (-1)]))
  (h3:∀ m:Int,decide ((xs.length:Int)<xs.length)=false->Er T body (ρ++[i64 m,i64 xs.length])=some (.yield 1,[i64 m])) :
  Er T (.loop [a,.c (i64 0)] body) ρ=iN (decide (((xs.map f).sum:Int)<=l)) (some (.yield 1,[i64 (l-(xs.map f).sum)])) (some (.ret,[i64 (-1)])):=by
 have cP:∀ (ys:List α) (i:Nat) (m:Int),0<=m->Aau (fun (_:Nat) x (m:Int)=>if (f x:Int)<=m then Rd1.go (m-f x) else .out (.ret,[i64 (-1)])) i ys m=if ((ys.map f).sum:Int)<=m then .go (m-(ys.map f).sum) else .out (.ret,[i64 (-1)]):=by
  intro ys
  induction ys with
  | nil =>
   intro i m hm;simp only[Aau,List.map_nil,List.sum_nil];rw[if_pos (by simpa using hm)];simp
  | cons y ys ih =>
   intro i m hm;simp only[Aau,Acg,List.sum_cons];by_cases h:(f y:Int)<=m
   ·rw[if_pos h]
    simp only;rw[ih (i+1) _ (by omega)];by_cases h4:((ys.map f).sum:Int)<=m-f y
    ·rw[if_pos h4,if_pos (by omega)]
     congr 1;omega
    ·rw[if_neg h4,if_neg (by omega)]
   ·rw[if_neg h]
    simp only;rw[if_neg (by omega)]
 obtain⟨q,h4,h5⟩:=Kbc (T:=T) (body:=body) (ρ:=ρ) (init:=[a,.c (i64 0)]) xs (fun i (m:Int)=>[i64 m,i64 i]) l (fun _ x m=>if (f x:Int)<=m then .go (m-f x) else .out (.ret,[i64 (-1)])) (fun _ m=>0<=m/\m<=1048576) (fun m=>(.yield 1,[i64 m])) (by show [a.val ρ,_]=_;rw[h0];rfl) ⟨hl,fm⟩
  (fun i m hi hm=>by
   by_cases e:(f (atI xs i):Int)<=m
   ·rw[if_pos e]
    refine⟨h1 i m hi (aH.2 hi) (by simp;omega) hm.1 hm.2 e (by rw[szR,if_pos e]) (by simp;omega),fun s' h=>?_,fun r h=>by cases h⟩;simp only[Rd1.go.injEq]at h;omega
   ·rw[if_neg e]
    refine⟨h2 i m hi (aH.2 hi) (by simp;omega) hm.1 hm.2 (by omega) (by rw[szR,if_neg e]) rfl,fun s' h=>by simp at h,fun r h=>?_⟩;simp only[Rd1.out.injEq]at h;rw[<- h];simp)
  (fun m hm=>⟨h3 m (by simp),by simp⟩)
 rw[h4];rw[cP xs 0 l hl]at h5;by_cases h:((xs.map f).sum:Int)<=l
 ·rw[if_pos h]at h5
  rw[decide_eq_true h]
  rcases h5 with ⟨s,h5,-,rfl⟩|h5
  ·simp only[Rd1.go.injEq]at h5
   rw[<- h5];rfl
  ·cases h5
 ·rw[if_neg h]at h5
  rw[decide_eq_false h]
  rcases h5 with ⟨s,h5,-⟩|h5
  ·cases h5
  ·simp only[Rd1.out.injEq]at h5
   rw[<- h5];rfl
theorem Ga5 {body:Tm β}{ρ:List D}{a:aK}[Enc α](xs:List α)(h0:a.val ρ=rL (Zb6 xs.length (default:α)))
  (h1:∀ (i:Nat) (ys:List α),i<xs.length->InB xs (i:Int)->InB ys (i:Int)->decide ((i:Int)<xs.length)=true->Er T body (ρ++[rL ys,i64 i])=some (.cont,[rL (iT ys i (atI xs i)),i64 ((i:Int)+1)]))
  (h2:∀ ys:List α,decide ((xs.length:Int)<xs.length)=false->Er T body (ρ++[rL ys,i64 xs.length])=some (.yield 1,[rL ys])) :
  Er T (.loop [a,.c (i64 0)] body) ρ=some (.yield 1,[rL xs]):=by
 have key:=Qad (T:=T) (body:=body) (ρ:=ρ) (fun i=>xs.length-i) (fun i=>i<=xs.length) (fun i=>[rL (upto default xs i),i64 (i:Nat)]) (fun q=>q=(.yield 1,[rL xs]))
  (fun i hi=>by
   rcases Aca i xs.length with hlt|lB
   ·refine⟨_,h1 i (upto default xs i) hlt (aH.2 hlt) (aH.2 (by rw[Uak _ _ hi];exact hlt)) (by simp;omega),.inl ⟨rfl,i+1,by omega,by omega,?_⟩⟩
    have:iT (upto default xs i) (i:Int) (atI xs i)=upto default xs (i+1):=by
     rw[iT];exact Uaj default xs (by rw[aZ hlt];exact Zbq hlt)
    rw[this];simp
   ·obtain rfl:i=xs.length:=by omega
    refine⟨_,h2 _ (by simp),.inr ⟨by simp,?_⟩⟩;rw[Ual])
  xs.length 0 (by omega) (by omega) [a,.c (i64 0)] (by show [a.val ρ,_]=_;rw[h0,Oap];rfl)
 obtain⟨q,h4,rfl⟩:=key;exact h4
def ctL {α:Type}(c:α->Nat)(xs:List α):Nat:=(xs.map c).sum
end
theorem sO {α:Type}{c f:α->Nat}{m:Nat}(hm:1<=m)(h:∀ x,c x<=m+m*f x):∀ xs:List α,ctL c xs<=m*szL f xs
 |[]=>by simp[ctL]
 | x :: xs => by
  have ih:=sO hm h xs;have h1:=h x;rw[Uas];simp only[ctL,Acg,List.sum_cons]at ih ⊢;rw[Nat.mul_add,Nat.mul_add];omega
theorem lt0 {k:Int}(h:0<=k):decide (k<0)=false:=by simp;omega
theorem Vb5:decide ((-1:Int)<0)=true:=rfl
theorem Fa9 {α:Type}[Enc α]{gm:List Ty}{bytes:Nat}{P:α->Prop}{d:D}(hs:gm.length=Enc.sz α)(hd:∀ ds,WTs gm ds->∃ a:α,ds=Enc.enc a/\P a)(h:WT (.sl bytes gm) d):∃ xs:List α,d=rL xs/\xs.length*bytes<=reachBytes/\∀ x∈xs,P x:=by
 simp only[WT]at h;obtain⟨rs,rfl,h1,h2⟩:=h
 have key:∀ rs:List (List D),(∀ r∈rs,WTs gm r)->∃ xs:List α,rs=xs.map Enc.enc/\∀ x∈xs,P x:=by
  intro rs
  induction rs with
  |nil=>exact fun _=>⟨[],rfl,by simp⟩
  | cons r rs ih =>
   intro h;obtain⟨xs,hx,hp⟩:=ih fun r hr=>h r (List.mem_cons_of_mem _ hr)
   obtain⟨a,ha,hpa⟩:=hd r (h r List.mem_cons_self);exact⟨a::xs,by rw[hx,ha];rfl,by simpa using ⟨hpa,hp⟩⟩
 obtain⟨xs,rfl,hp⟩:=key rs h2;exact⟨xs,by rw[hs];rfl,by simpa using h1,hp⟩
theorem dA {d:D}(h:WT (.int .i64) d):∃ n:Int,d=i64 n/\-9223372036854775808<=n/\n<=9223372036854775807:=by
 obtain⟨n,rfl,h1,h2⟩:=h;exact⟨n,rfl,h1,h2⟩
theorem Kb6 {d:D}(h:WT .bool d):∃ b:Bool,d=.bool b:=h
theorem iU {n b:Nat}(h:n*b<=reachBytes)(hb:0<b):n<=reachBytes:=Acn (Nat.le_mul_of_pos_right n hb) h
end Go.Proofs.YtcbkmmhkccnamaaGreat.Rf
