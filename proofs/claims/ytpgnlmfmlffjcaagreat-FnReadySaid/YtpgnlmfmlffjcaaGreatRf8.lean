/- Terms for the program's functions, and that they are right: part 8 of 10. -/
import Derived.Test.YtpgnlmfmlffjcaaGreatRf7
import Derived.Shelf.SlicesE.Clone
import Derived.Laws.CopyOwn
import Derived.LoopN
import Derived.WalkKit
import Derived.RegionTactic
import Derived.ChangeAlike
import Derived.Lib.Bytealg
import Derived.Lib.SplitLaws
import Derived.LaidLaws
import Derived.Lay
import Derived.Shelf.Strings.OnBuilder
import Derived.Shelf.Strconv.Itoa3
import Derived.Lib.AppendIntMem
import Derived.Lib.LaidTab
import Derived.Shelf.Lay
import Derived.Shelf.SlSortCmp.NoneTotal
import Derived.Shelf.SlicesE.Delete
open Bool renaming and_eq_true → Sbu, false_eq_true → Sbv, or_eq_true → Uba, not_true → Ub0, and_true → Ub8, false_or → Vbu
open List renaming length_cons → Sbw, getElem?_eq_getElem → Sb0, replicate → Sb1, getD_eq_getElem?_getD → Sb4, length_map → Sb5, length_take → Tbc, mem_of_getElem? → Tbg, map_cons → Tbn, getElem?_map → Tbo, all_eq_true → Tbp, length_drop → Tbx, map_append → Tby, getElem?_drop → Tb5, eq_nil_of_length_eq_zero → Ubh, getElem?_eq_none → Ubk, getElem_mem → Ub4, mem_of_mem_drop → Vbe, ext_getElem? → Vbv, all_cons → Vb9
open Nat renaming le_refl → Sb7, lt_or_ge → Tbi, add_assoc → Tbl, le_trans → Tbr, add_zero → Tbs, mul_le_mul_right → Ubl, add_mul → Ubm, zero_le → Ubo, mul_comm → Wbh, div_eq_of_lt → Wbj
open Option renaming bind_eq_some_iff → Sbt, bind_some → Sb6, map_eq_some_iff → Tbd, map_some → Ubd
set_option linter.unusedSimpArgs false
set_option linter.unusedVariables false
set_option linter.unnecessarySimpa false
set_option linter.unusedSectionVars false
namespace Go.Proofs.YtpgnlmfmlffjcaaGreat.Rf
set_option linter.unusedVariables false
set_option linter.unusedSimpArgs false
open Go.Proofs Go.Shelf Go.RowKit Go.Lib
section
variable {P:Program} {ρ:Ren}
set_option maxHeartbeats 2000000 in
set_option maxRecDepth 100000 in
theorem Xat (L:SlLaysE0.n41 P ρ)(i0:TypeInfo)(z:Value)(size bytes:Nat)(hi:P.info? (ρ.t 23)=some i0)(hz0:i0.zero=some z)(hz1:i0.size=size)(hz2:i0.bytes=bytes)(hzs:z.cells.size=size)(hsz:0<size)
  (z23:∀ w,(Go.sizeOf (ρ.t 23)).run P w=.ok size w) (a:Addr) (c:Nat) (w:World) :
  Calls P (ρ.f 41) #[.slice (some a) 0 c] w fun e w'=>∃ v',e=.returned v'/\w'.ownsRow w.heap.size (ρ.t 23) size v' 0 []/\Below w.heap.size w w':=by
 have mixed:=L.mixed;have t4:=L.t4;have a4:=L.a4;have z4:=L.z4;have v4:=L.v4;have t22:=L.t22;have a22:=L.a22;have z22:=L.z22;have v22:=L.v22
 have q22:∀ (w:World) (a:Option Addr) (n c n' c':Nat),(binOp .eql (ρ.t 22) (.slice a n c) (.slice none n' c')).run P w=.ok (.bool a.isNone) w:=fun w a n c n' c'=>Lib.run_eql_slice_nil w _ _ a n c n' c' L.t22
 have u22:∀ w,Sem.run P (underlying (ρ.t 22)) w=.ok (TypeDesc.slice (ρ.t 23)) w:=run_underlying t22
 obtain⟨_,_,FG⟩:=L.f41
 go_enter FG,SlBodyN.n41_ntmps ρ
 go_wp2_with (at_builtin;refine wpList_append_own _ rfl _ _ (ρ.t 22) rfl w.heap.size (ρ.t 23) i0 z size bytes t22 hi hz0 hz1 hz2 hzs hsz _ _ _ rfl (World.ownsRow_made w #[] 0 (Sb7 _) (Ubo _) (by simp)) a 0 c [] rfl ?qc1 ?qc2 ?qc3 ?qc4 ?qc5 ?qc6 ?_)
 case qc1=>simp
 case qc2=>intro j u hj;simp at hj
 case qc3=>intro u hu;cases hu
 case qc4=>exact Ubo _
 case qc5=>simp
 case qc6=>simp
 intro v' w1 hown hgrow hnil
 go_wp2
 go_ret
 exact⟨v',rfl,by simpa using hown,((Below.refl _ w).alloc (Sb7 _) _).grown hgrow (by simp) (by intro k hk;simp[Value.ownBlock]at hk;omega)⟩
theorem Jac {s:Sig}{G:Gh}{w:World}{vals:List Value}{ds:List D}(h:Gbq s vals w G ds)(hb:s.boxes=[]):rH (vK s G w) G w :=
 ⟨rfl,rfl,rfl,Sb7 _,fun b _ _=>⟨rfl,rfl⟩,fun b j hj he=>by
  obtain⟨h1,-⟩:=h.cells b j hj he
  rw[hb]at h1
  exact absurd h1 (Nat.not_lt_zero _),h.fresh⟩
theorem zJ {s:Sig}{G:Gh}{w w':World}{vals:List Value}{ds:List D}{own':Nat->Ow}(h:Gbq s vals w G ds)(hb:s.boxes=[])(hbel:Below w.heap.size w w')(h1:∀ b,b<w.heap.size->own' b=G.own b)(h2:∀ b,w'.heap.size<=b->own' b=.frz) :
  rH (vK s G w) { G with own:=own' } w' :=
 ⟨hbel.os,hbel.tape,hbel.output,hbel.size,fun b hlt _=>⟨hbel.block b hlt,h1 b hlt⟩,fun b j hj he=>by
  obtain⟨h1,-⟩:=h.cells b j hj he
  rw[hb]at h1
  exact absurd h1 (Nat.not_lt_zero _),h2⟩
theorem Ibi (L:SlLaysE0.n41 P ρ){i0:TypeInfo}{z:Value}{size bytes m key:Nat}{T1:Nat->Ent}(hi:P.info? (ρ.t 23)=some i0)(hz0:i0.zero=some z)(hz1:i0.size=size)(hz2:i0.bytes=bytes)(hzs:z.cells.size=size)(hsz:0<size)
  (z23:∀ w,(Go.sizeOf (ρ.t 23)).run P w=.ok size w) (hK:∀ n,qM P T1 n key ⟨ρ.f 41,[(false,[.fz false])],[],[(false,[.ow (m+1)])]⟩) :
  Cb3 P ⟨ρ.f 41,[(false,[.fz false])],[],[(false,[.ow (m+1)])]⟩ (fun ds=>match ds with
   |[.rows _ []]=>some [.rows size []]
   |ds=>Fun T1 key ds):=by
 intro vals w G ds ds' hpre he
 by_cases hds:∃ sz,ds=[.rows sz []]
 ·obtain⟨sz,rfl⟩:=hds
  simp only[Option.some.injEq]at he
  subst he
  obtain⟨u,us,vs,rfl,⟨v,vs',rfl,⟨hrd,-⟩,rfl⟩,hsh,hnil⟩:=hpre.params
  simp only[Sbv,if_false]at hsh
  obtain rfl:v=u:=by simpa using hsh
  simp only[mZ]at hnil
  subst hnil
  have hrd':Rd (fun b=>G.own b=.frz) w v (.rows sz []):=hrd
  obtain⟨A,a,n,c,vs,rfl,hn,hc,-,-⟩:=hrd'.inv
  obtain rfl:n=0:=hn.symm
  obtain⟨nm,hnm,hfn⟩:=L.f41
  refine .inl ⟨jF hfn hnm rfl _ _,?_⟩
  cases A with
  | none =>
   refine Calls.mono (AnyE.slices_Clone_nil L 0 c w) fun e w' ⟨h1,h2⟩=>?_
   subst h1;subst h2
   refine⟨G,[.slice none 0 0],rfl,Jac hpre rfl,⟨_,_,_,rfl,⟨_,_,rfl,?_,rfl⟩,rfl,rfl⟩,trivial,trivial⟩
   exact .sl none ⟨0,0,none⟩ 0 0 _ [] (fun _ _=>undef) rfl (Sb7 _) (.inr ⟨rfl,rfl⟩) (by simp) (fun e=>by cases e) (by simp) (by simp)
  | some a' =>
   refine Calls.mono (Xat L i0 z size bytes hi hz0 hz1 hz2 hzs hsz z23 a' c w) fun e w' ⟨v',h1,h2,h3⟩=>?_
   subst h1
   rcases h2.2 with ⟨rfl,-⟩|⟨g,cap,cur,rfl,hg,hcell,-,-,hcur,-⟩
   ·refine⟨{ G with own:=G.own },[.slice none 0 0],rfl,zJ hpre rfl h3 (fun _ _=>rfl) (fun b hb=>hpre.fresh b (Tbr h3.size hb)),⟨_,_,_,rfl,⟨_,_,rfl,?_,rfl⟩,rfl,rfl⟩,trivial,trivial⟩
    exact .sl none ⟨0,0,none⟩ 0 0 _ [] (fun _ _=>undef) rfl (Sb7 _) (.inr ⟨rfl,rfl⟩) (by simp) (fun e=>by cases e) (by simp) (by simp)
   ·have hlt:g<w'.heap.size:=(Array.getElem?_eq_some_iff.1 hcell).1
    refine⟨{ G with own:=fun b=>if b=g then .slc 0 [] else G.own b },[.slice (some ⟨g,0,none⟩) 0 cap],rfl,zJ hpre rfl h3 (fun b hb=>if_neg (by omega)) (fun b hb=>?_),⟨_,_,_,rfl,⟨_,_,rfl,?_,rfl⟩,rfl,rfl⟩,trivial,trivial⟩
    ·show (if b=g then _ else _)=_
     rw[if_neg (by omega)]
     exact hpre.fresh b (Tbr h3.size hb)
    ·refine .sl (some ⟨g,0,none⟩) ⟨g,0,none⟩ 0 cap _ [] (fun _ _=>undef) rfl (Ubo _) (.inl rfl) (by simp) (fun _=>⟨rfl,if_pos rfl,fun k hk=>?_⟩) (by simp) (by simp)
     have hk':k<cur.size:=by omega
     refine⟨cur[k],?_,?_⟩
     ·have hb:((⟨g,0,none⟩:Addr).add k).block=g:=add_block _ _
      have ho:((⟨g,0,none⟩:Addr).add k)=⟨g,k,none⟩:=by unfold Addr.add;split<;>simp_all
      rw[ho]
      simp[World.cell?,hcell,hk']
     ·have ho:((⟨g,0,none⟩:Addr).add k)=⟨g,k,none⟩:=by unfold Addr.add;split<;>simp_all
      rw[ho]
      simp[World.frozen?,hcell]
 ·have he':Fun T1 key ds=some ds':=by
   dsimp only at he
   split at he
   ·rename_i sz
    exact absurd ⟨sz,rfl⟩ hds
   ·exact he
  obtain⟨n,hn⟩:=wH.1 he'
  exact hK n vals w G ds ds' hpre hn
def Ga4 (P:Program)(t:TypeId):Option Nat:=match P.info? t with
 | some i => match i.zero with
  |some z=>if z.cells.size=i.size/\0<i.size then some i.size else none
  |none=>none
 |none=>none
noncomputable def Bbg (size:Nat)(T1:Nat->Ent)(key:Nat):List D->Option (List D):=fun ds=>match ds with
 |[.rows _ []]=>some [.rows size []]
 |ds=>Fun T1 key ds
theorem Maw (L:SlLaysE0.n41 P ρ){size m key f:Nat}{T T1:Nat->Ent}{ti:Nat->Option TI}{sigs:List (Nat×Sig)}(hf:ρ.f 41=f)(h:Ga4 P (ρ.t 23)=some size)(z23:∀ w,(Go.sizeOf (ρ.t 23)).run P w=.ok size w)
  (hK:∀ n,qM P T1 n key ⟨f,[(false,[.fz false])],[],[(false,[.ow (m+1)])]⟩) (hT:T key=.ext (Bbg size T1 key)) :
  Nae P T ti sigs key ⟨f,[(false,[.fz false])],[],[(false,[.ow (m+1)])]⟩:=by
 subst hf
 unfold Ga4 at h
 split at h
 ·rename_i i hi
  split at h
  ·rename_i z hz
   split at h
   ·rename_i h1
    cases h
    exact .inr ⟨_,hT,Ibi L hi hz rfl rfl h1.1 h1.2 z23 hK⟩
   ·cases h
  ·cases h
 ·cases h
end
end Go.Proofs.YtpgnlmfmlffjcaaGreat.Rf

namespace Go.Proofs.YtpgnlmfmlffjcaaGreat.Rf
set_option linter.unusedVariables false
set_option linter.unusedSimpArgs false
open Go.RowKit
section
variable {P:Program}
def Oba:List D->Option (List D)
 |[.rows 1 [[.int .i64 a]],.int .i64 4]=>some [.rows 1 [[.int .i64 a],[.int .i64 a],[.int .i64 a],[.int .i64 a]]]
 |_=>none
theorem Hbi {ds ds':List D}(h:Oba ds=some ds'):∃ a,ds=[.rows 1 [[.int .i64 a]],.int .i64 4]/\ds'=[.rows 1 [[.int .i64 a],[.int .i64 a],[.int .i64 a],[.int .i64 a]]]:=by
 unfold Oba at h
 split at h
 ·exact⟨_,rfl,(Option.some.inj h).symm⟩
 ·cases h
def Rav (P:Program)(f:Nat):Prop :=
 ∀ (a:Addr) (c:Nat) (x:Int) (w:World),w.cell? a=some (.int .i64 x)->Calls P f #[.slice (some a) 1 c,.int .i64 4] w fun e w' =>
  ∃ g cap t,e=.returned (.slice (some ⟨g,0,none⟩) 4 cap)/\w.heap.size<=g/\4<=cap/\cap<=4/\w'.heap[g]?=some (.cells #[.int .i64 x,.int .i64 x,.int .i64 x,.int .i64 x] t (0,0))/\Below w.heap.size w w'
theorem Db7 (b o k:Nat):(⟨b,o,none⟩:Addr).add k=⟨b,o+k,none⟩:=by unfold Addr.add;split<;>simp_all
theorem Ta1 (S I:Nat)(w:World)(a:Addr)(c:Nat)(x:Int)(hu:P.underlying S=some (.slice I))(hs:(P.info? I).map (·.size)=some 1)(hc:w.cell? a=some (.int .i64 x)) :
  ∃ W1,W1.heap[w.heap.size]?=some (.cells #[.int .i64 x,.int .i64 0,.int .i64 0,.int .i64 0] I (0,0))/\Below w.heap.size w W1 /\
   (Builtin.copy_ #[S,S] I #[.slice (some ⟨w.heap.size,0,none⟩) 4 4,.slice (some a) 1 c]).run P (w.alloc (.cells #[.int .i64 0,.int .i64 0,.int .i64 0,.int .i64 0] I))=.ok (goInt 1) W1:=by
 have hg:(w.alloc (.cells #[.int .i64 0,.int .i64 0,.int .i64 0,.int .i64 0] I)).heap[w.heap.size]?=some (.cells #[.int .i64 0,.int .i64 0,.int .i64 0,.int .i64 0] I (0,0)):=by show (w.heap.push _)[w.heap.size]?=_;exact Array.getElem?_push_size
 have ha:a.add 0=a:=by unfold Addr.add;cases a with|mk b o s=>cases s<;>simp
 have h:=run_copy_row P (w.alloc (.cells #[.int .i64 0,.int .i64 0,.int .i64 0,.int .i64 0] I)) S S I I w.heap.size 0 4 4 a 1 c _ I [.int .i64 x] hu hs hg rfl
  (fun j v hj=>by
   have:j=0:=by have:=(List.getElem?_eq_some_iff.1 hj).1;simpa using this
   subst this
   obtain rfl:Value.int .i64 x=v:=by simpa using hj
   rw[ha];exact Lib.cell?_alloc_some _ hc) (by simp) (by simp[Value.oneCell'])
 exact⟨_,setRow_heap _ _ _ _ _ _ hg,((Below.refl _ w).alloc (Sb7 _) _).trans (below_setRow (Below.refl _ _) (Sb7 _) _),h⟩
theorem Ta0 (S I:Nat)(w W:World)(x:Int)(hu:P.underlying S=some (.slice I))(hs:(P.info? I).map (·.size)=some 1)(hg:W.heap[w.heap.size]?=some (.cells #[.int .i64 x,.int .i64 0,.int .i64 0,.int .i64 0] I (0,0)))(hb:Below w.heap.size w W) :
  ∃ W2,W2.heap[w.heap.size]?=some (.cells #[.int .i64 x,.int .i64 x,.int .i64 0,.int .i64 0] I (0,0))/\Below w.heap.size w W2 /\
   (Builtin.copy_ #[S,S] I #[.slice (some ⟨w.heap.size,1,none⟩) 3 3,.slice (some ⟨w.heap.size,0,none⟩) 1 4]).run P W.drew=.ok (goInt 1) W2:=by
 have hg':W.drew.heap[w.heap.size]?=some (.cells #[.int .i64 x,.int .i64 0,.int .i64 0,.int .i64 0] I (0,0)):=hg
 have h:=run_copy_row P W.drew S S I I w.heap.size 1 3 3 ⟨w.heap.size,0,none⟩ 1 4 _ I [.int .i64 x] hu hs hg' rfl
  (fun j v hj=>by
   have:j=0:=by have:=(List.getElem?_eq_some_iff.1 hj).1;simpa using this
   subst this
   obtain rfl:Value.int .i64 x=v:=by simpa using hj
   rw[Db7];simp[World.cell?,hg']) (by simp) (by simp[Value.oneCell'])
 exact⟨_,setRow_heap _ _ _ _ _ _ hg',hb.drew.trans (below_setRow (Below.refl _ _) (Sb7 _) _),h⟩
theorem Taz (S I:Nat)(w W:World)(x:Int)(hu:P.underlying S=some (.slice I))(hs:(P.info? I).map (·.size)=some 1)(hg:W.heap[w.heap.size]?=some (.cells #[.int .i64 x,.int .i64 x,.int .i64 0,.int .i64 0] I (0,0)))(hb:Below w.heap.size w W) :
  ∃ W2,W2.heap[w.heap.size]?=some (.cells #[.int .i64 x,.int .i64 x,.int .i64 x,.int .i64 x] I (0,0))/\Below w.heap.size w W2 /\
   (Builtin.copy_ #[S,S] I #[.slice (some ⟨w.heap.size,2,none⟩) 2 2,.slice (some ⟨w.heap.size,0,none⟩) 2 4]).run P W.drew=.ok (goInt 2) W2:=by
 have hg':W.drew.heap[w.heap.size]?=some (.cells #[.int .i64 x,.int .i64 x,.int .i64 0,.int .i64 0] I (0,0)):=hg
 have h:=run_copy_row P W.drew S S I I w.heap.size 2 2 2 ⟨w.heap.size,0,none⟩ 2 4 _ I [.int .i64 x,.int .i64 x] hu hs hg' rfl
  (fun j v hj=>by
   have:j=0\/j=1:=by have:=(List.getElem?_eq_some_iff.1 hj).1;simp at this;omega
   rcases this with rfl|rfl <;>
   ·obtain rfl:Value.int .i64 x=v:=by simpa using hj
    rw[Db7];simp[World.cell?,hg']) (by simp) (by simp[Value.oneCell'])
 exact⟨_,setRow_heap _ _ _ _ _ _ hg',hb.drew.trans (below_setRow (Below.refl _ _) (Sb7 _) _),h⟩
theorem Ob6 {f : Nat} {fn : Func} {c : Code} (hf : P.funcs[f]? = some fn) (hname : (fn.name == "runtime.NumGoroutine") = false) (hb : fn.body = some c) (W : Rav P f) :
  Cb3 P ⟨f,[(false,[.fz false]),(false,[.sc])],[],[(false,[.ow 99])]⟩ Oba:=by
 intro vals w G ds ds' hpre he
 obtain⟨x,rfl,rfl⟩:=Hbi he
 obtain⟨u,us,vs,rfl,⟨v,vs',rfl,⟨hrd,-⟩,rfl⟩,hsh,u2,us2,vs2,rfl,⟨v2,vs3,rfl,hsc,rfl⟩,hsh2,hnil⟩:=hpre.params
 simp only[Sbv,if_false]at hsh hsh2
 obtain rfl:v=u:=by simpa using hsh
 obtain rfl:v2=u2:=by simpa using hsh2
 simp only[mZ]at hnil
 subst hnil
 have hrd':Rd (fun b=>G.own b=.frz) w v (.rows 1 [[.int .i64 x]]):=hrd
 obtain⟨A,a,n,cc,vs,rfl,hn,hc,hA,-,hcell,hrec⟩:=hrd'.inv
 obtain rfl:1=n:=hn
 obtain rfl:A=some a:=by
  rcases hA with h|h
  ·cases h
  ·exact h
 have hsc':Sc v2 (.int .i64 4):=hsc
 obtain rfl:v2=.int .i64 4:=by cases hsc';rfl
 have h0:=(hcell 0 [.int .i64 x] rfl 0 (.int .i64 x) rfl).2
 have h1:=hrec 0 [.int .i64 x] rfl 0 (.int .i64 x) rfl
 have hv:vs 0 0=.int .i64 x:=by
  generalize vs 0 0=v at h1
  cases h1 with
  |sc h=>cases h;rfl
 have ha:a.add (0*1+0)=a:=by unfold Addr.add;cases a with|mk b o s=>cases s<;>simp
 rw[hv,ha]at h0
 refine .inl ⟨jF hf hname hb _ _,?_⟩
 refine Calls.mono (W a cc x w h0) fun e w' ⟨g,cap,t,h2,hg,hcap,hcap2,hheap,hbel⟩=>?_
 subst h2
 have hlt:g<w'.heap.size:=(Array.getElem?_eq_some_iff.1 hheap).1
 have hadd:∀ k,((⟨g,0,none⟩:Addr).add k)=⟨g,k,none⟩:=fun k=>by unfold Addr.add;split<;>simp_all
 refine⟨{ G with own:=fun b=>if b=g then .slc 0 [] else G.own b },[.slice (some ⟨g,0,none⟩) 4 cap],rfl,zJ hpre rfl hbel (fun b hb=>if_neg (by omega)) (fun b hb=>?_),⟨_,_,_,rfl,⟨_,_,rfl,?_,rfl⟩,rfl,rfl⟩,trivial,trivial⟩
 ·show (if b=g then _ else _)=_
  rw[if_neg (by omega)]
  exact hpre.fresh b (Tbr hbel.size hb)
 ·refine .sl (some ⟨g,0,none⟩) ⟨g,0,none⟩ 4 cap 1 [[.int .i64 x],[.int .i64 x],[.int .i64 x],[.int .i64 x]] (fun _ _=>.int .i64 x) rfl hcap (.inl rfl) (by simp) (fun _=>⟨rfl,if_pos rfl,fun k hk=>?_⟩) ?_ ?_
  ·refine⟨.int .i64 x,?_,?_⟩
   ·have:k=0\/k=1\/k=2\/k=3:=by omega
    rw[hadd]
    rcases this with rfl|rfl|rfl|rfl<;>simp[World.cell?,hheap]
   ·rw[hadd];simp[World.frozen?,hheap]
  ·intro i row hi j d hj
   have hi4:i<4:=by
    have:=(List.getElem?_eq_some_iff.1 hi).1
    simpa using this
   have hrow:row=[.int .i64 x]:=by
    have:i=0\/i=1\/i=2\/i=3:=by omega
    rcases this with rfl|rfl|rfl|rfl<;>simpa using hi.symm
   subst hrow
   have hj0:j=0:=by
    have:=(List.getElem?_eq_some_iff.1 hj).1
    simpa using this
   subst hj0
   rw[hadd]
   have:i=0\/i=1\/i=2\/i=3:=by omega
   rcases this with rfl|rfl|rfl|rfl<;>simp[World.cell?,hheap]
  ·intro i row hi j d hj
   have hi4:i<4:=by
    have:=(List.getElem?_eq_some_iff.1 hi).1
    simpa using this
   have hrow:row=[.int .i64 x]:=by
    have:i=0\/i=1\/i=2\/i=3:=by omega
    rcases this with rfl|rfl|rfl|rfl<;>simpa using hi.symm
   subst hrow
   have hj0:j=0:=by
    have:=(List.getElem?_eq_some_iff.1 hj).1
    simpa using this
   subst hj0
   obtain rfl:D.int .i64 x=d:=by simpa using hj
   exact .sc (.int _ _)
theorem Db6 {f key : Nat} {fn : Func} {c : Code} {T : Nat -> Ent} {ti : Nat -> Option TI} {sigs : List (Nat × Sig)} (hf : P.funcs[f]? = some fn) (hname : (fn.name == "runtime.NumGoroutine") = false) (hb : fn.body = some c) (W : Rav P f) (hT : T key = .ext Oba) :
  Nae P T ti sigs key ⟨f,[(false,[.fz false]),(false,[.sc])],[],[(false,[.ow 99])]⟩ :=
 .inr ⟨_,hT,Ob6 hf hname hb W⟩
end
end Go.Proofs.YtpgnlmfmlffjcaaGreat.Rf

namespace Go.Proofs.YtpgnlmfmlffjcaaGreat.Rf
set_option linter.unusedVariables false
set_option linter.unusedSimpArgs false
section
variable {P:Program}
end
end Go.Proofs.YtpgnlmfmlffjcaaGreat.Rf

namespace Go.Proofs.YtpgnlmfmlffjcaaGreat.Rf
set_option linter.unusedVariables false
set_option linter.unusedSimpArgs false
end Go.Proofs.YtpgnlmfmlffjcaaGreat.Rf

namespace Go.Proofs.YtpgnlmfmlffjcaaGreat.Rf
set_option linter.unusedVariables false
set_option linter.unusedSimpArgs false
open Go.Proofs Go.Shelf Go.RowKit Go.Lib
section
variable {P:Program} {ρ:Ren}
end
end Go.Proofs.YtpgnlmfmlffjcaaGreat.Rf

namespace Go.Proofs.YtpgnlmfmlffjcaaGreat.Rf
set_option linter.unusedVariables false
set_option linter.unusedSimpArgs false
def ltQ (p q:Int×Int):Bool:=decide (p.1<q.1)||(p.1==q.1&&decide (p.2<q.2))
theorem Qah {p q:Int×Int}:ltQ p q=true↔p.1<q.1\/(p.1=q.1/\p.2<q.2):=by
 unfold ltQ
 simp only[Uba,Sbu,decide_eq_true_eq,beq_iff_eq]
theorem xI {p q:Int×Int}:ltQ p q=false↔q.1<p.1\/(p.1=q.1/\q.2<=p.2):=by
 rw[<- Bool.not_eq_true,Qah]
 omega
theorem Abu {p q:Int×Int}(h:ltQ p q=false)(h':ltQ q p=false):p=q:=by
 rw[xI]at h h'
 apply Prod.ext<;>omega
def Mb8 {β:Type}(k:β->Int×Int)(x:β):List β->List β
 |[]=>[x]
 |y::r=>if ltQ (k x) (k y) then x::y::r else y::Mb8 k x r
def lC {β:Type}(k:β->Int×Int):List β->List β
 |[]=>[]
 |x::r=>Mb8 k x (lC k r)
theorem Law {β:Type}(k:β->Int×Int)(x:β):∀ l:List β,(Mb8 k x l).Perm (x::l)
 |[]=>.refl _
 | y :: r => by
  unfold Mb8
  split
  ·exact .refl _
  ·exact ((Law k x r).cons y).trans (.swap x y r)
theorem jZ {β:Type}(k:β->Int×Int):∀ l:List β,(lC k l).Perm l
 |[]=>.refl _
 |x::r=>(Law k x _).trans ((jZ k r).cons x)
def wN {β:Type}(k:β->Int×Int)(l:List β):Prop:=l.Pairwise fun x y=>ltQ (k y) (k x)=false
theorem Lav {β:Type}(k:β->Int×Int)(x:β):∀ {l:List β},wN k l->wN k (Mb8 k x l)
 |[],_=>by unfold Mb8 wN;simp
 | y :: r, h => by
  obtain⟨h1,h2⟩:=List.pairwise_cons.1 h
  unfold Mb8
  split
  ·rename_i hx
   refine List.pairwise_cons.2 ⟨fun z hz=>?_,h⟩
   rw[Qah]at hx
   rcases List.mem_cons.1 hz with rfl|hz
   ·rw[xI];omega
   ·have:=h1 z hz
    rw[xI]at this ⊢
    omega
  ·rename_i hx
   refine List.pairwise_cons.2 ⟨fun z hz=>?_,Lav k x h2⟩
   rcases List.mem_cons.1 ((Law k x r).mem_iff.1 hz) with rfl|hz
   ·simpa using hx
   ·exact h1 z hz
theorem Aau {β:Type}(k:β->Int×Int):∀ l:List β,wN k (lC k l)
 |[]=>List.Pairwise.nil
 |x::r=>Lav k x (Aau k r)
theorem Iaz {β:Type}(k:β->Int×Int){l l':List β}(hp:l'.Perm l)(hs:wN k l')(hi:∀ x∈l,∀ y∈l,k x=k y->x=y):l'=lC k l :=
 List.Perm.eq_of_pairwise (le:=fun x y=>ltQ (k y) (k x)=false) (fun a b ha hb h1 h2=>hi a (hp.mem_iff.1 ha) b ((jZ k l).mem_iff.1 hb) (Abu h2 h1)) hs (Aau k l) (hp.trans (jZ k l).symm)
def Aal (p q:Int×Int):Int:=if ltQ p q then -1 else if ltQ q p then 1 else 0
theorem Nbn {p q:Int×Int}:decide (Aal p q<0)=ltQ p q:=by
 unfold Aal
 cases h:ltQ p q with
 |true=>rfl
 | false =>
  simp only[Sbv,if_false]
  split<;>rfl
def Laf (p:Int×Int):D:=.rows 1 [[.int .i64 p.1],[.int .i64 p.2]]
def Oav:List (List D)->Option (List (Int×Int))
 |[]=>some []
 |[.rows 1 [[.int .i64 a],[.int .i64 b]]]::r=>(Oav r).map ((a,b)::·)
 |_=>none
theorem Oau:∀ {rs:List (List D)} {l:List (Int×Int)},Oav rs=some l->rs=l.map fun p=>[Laf p]
 |[],l,h=>by obtain rfl:=Option.some.inj h;rfl
 | r :: rs, l, h => by
  unfold Oav at h
  split at h
  ·rename_i he;cases he
  ·rename_i a b r' he
   obtain⟨rfl,rfl⟩:=List.cons.inj he
   rw[Tbd]at h
   obtain⟨l',h1,rfl⟩:=h
   rw[Oau h1]
   rfl
  ·cases h
theorem Oat:∀ l:List (Int×Int),Oav (l.map fun p=>[Laf p])=some l
 |[]=>rfl
 | p :: r => by
  show (Oav (r.map fun p=>[Laf p])).map ((p.1,p.2)::·)=_
  rw[Oat r]
  rfl
def Nav:List (List D)->Option (List Int)
 |[]=>some []
 |[.int .i64 a]::r=>(Nav r).map (a::·)
 |_=>none
theorem Lau:∀ {rs:List (List D)} {l:List Int},Nav rs=some l->rs=l.map fun p=>[D.int .i64 p]
 |[],l,h=>by obtain rfl:=Option.some.inj h;rfl
 | r :: rs, l, h => by
  unfold Nav at h
  split at h
  ·rename_i he;cases he
  ·rename_i a r' he
   obtain⟨rfl,rfl⟩:=List.cons.inj he
   rw[Tbd]at h
   obtain⟨l',h1,rfl⟩:=h
   rw[Lau h1]
   rfl
  ·cases h
theorem Ual:∀ l:List Int,Nav (l.map fun p=>[D.int .i64 p])=some l
 |[]=>rfl
 | p :: r => by
  show (Nav (r.map fun p=>[D.int .i64 p])).map (p::·)=_
  rw[Ual r]
  rfl
def Aaw:Nat:=1000000
def Aav:List D->Option (List D)
 |[.rows 1 rs]=>(Oav rs).bind fun l=>if l.length<=Aaw then some [.rows 1 ((lC id l).map fun p=>[Laf p])] else none
 |_=>none
def jK (kl:List Int)(n:Int):Int×Int:=(kl.getD n.toNat 0,0)
def Dak (l kl:List Int):Bool:=(l.all fun n=>decide (0<=n)&&decide (n.toNat<kl.length))&&(kl.all fun k=>decide (0<=k)&&decide (k<=1000000000))&&(l.all fun n=>l.all fun m=>!(jK kl n==jK kl m)||n==m)
def Dae:List D->Option (List D)
 |[.rows 1 rs,.rows 1 ks]=>(Nav rs).bind fun l=>(Nav ks).bind fun kl=>if l.length<=Aaw/\Dak l kl=true then some [.rows 1 ((lC (jK kl) l).map fun p=>[D.int .i64 p])] else none
 |_=>none
section
open Go.Proofs Go.Shelf Go.Sort
variable {P:Program} {ρ:Ren} {own:Nat->Ow} {w:World}
theorem Rp.zero1 {r:Nat}{p:List Nat}{v:Value}{d:D}(h:Rp own w r p 0 v d):Rd (fun b=>own b=.frz) w v d:=by
 cases h with
 |sc h=>exact .sc h
 |hole v h1=>exact .hole v h1
 |fz h=>exact h
theorem Eag {ds:List D}{bx:Nat->Addr}:∀ {b i q:Nat} {bs:List (Bool×List (BS×BO))},(bs.all (·.1))=true->qK own w ds bx b i q bs
 |b,i,q,[],_=>trivial
 | b, i, q, (ro, cs) :: bs, h => by
  simp only[Vb9,Sbu]at h
  simp only[qK]
  rw[if_pos h.1]
  exact Eag h.2
theorem Kat {α:Type}[Inhabited α](enc:α->Value)(blk off m:Nat)(dk:Array α)(os:Array Obj){b:Nat}(hb:b<w.heap.size)(hne:b≠blk):(sortWorld enc w blk off m dk os).heap[b]?=w.heap[b]?:=by
 unfold sortWorld
 rw[heap_grow_old _ _ (by simpa using hb)]
 simp[putRow,mapBlock,Array.getElem?_modify,Ne.symm hne]
theorem Dbn {α:Type}[Inhabited α](enc:α->Value)(blk off m:Nat)(dk:Array α)(os:Array Obj):w.heap.size<=(sortWorld enc w blk off m dk os).heap.size:=by
 unfold sortWorld
 rw[size_grow]
 simp
theorem Mbz {α:Type}{lt:α->α->Prop}:∀ {l:List α},(∀ i j (hi:i<l.length) (hj:j<l.length),i<j->lt l[i] l[j])->l.Pairwise lt:=fun h=>List.pairwise_iff_getElem.2 fun i j hi hj hij=>h i j hi hj hij
theorem Bbj {a:Addr}(h:a.spot=none)(k:Nat):a.add k=⟨a.block,a.off+k,none⟩:=by
 cases a with
 | mk b o s =>
  obtain rfl:s=none:=h
  unfold Addr.add
  split
  ·rename_i h0;subst h0;rfl
  ·rfl
theorem Saz (L:SlLaysF.n6 P ρ){α β:Type}[Inhabited α](enc:α->Value)(b:α->β)(datβ:β->D)(kβ:β->Int×Int)(cf:α->α->Int)(hcf:∀ x y,ltOf cf x y=ltQ (kβ (b x)) (kβ (b y)))
  {g:Nat} {cs:List LS} {bxs:List (Bool×List (BS×BO))} {vals:List Value} {G:Gh} {ds:List D} (hpre:Gbq ⟨ρ.f 6,[(false,[.mu 1]),(false,[.clo g cs])],bxs,[]⟩ vals w G ds)
  (hro:(bxs.all (·.1))=true) (eg:∀ args w,(callFunc g args).run P w=.ok (.enter g args) w)
  {v:Value} (hv:v=G.hdr 0) (cb:List Value) (hvals:vals=[v,.func (.func g) #[] cb.toArray])
  (hcmp:∀ blk off size,G.own blk=.slc 0 []->CmpLays1 P g cb.toArray enc cf blk off size w) (hdat:∀ x,Rd (fun b=>G.own b=.frz) w (enc x) (datβ (b x)))
  {a:Addr} {n c:Nat} (ev:v=.slice (some a) n c) (hspot:a.spot=none) (hown:G.own a.block=.slc 0 []) (hcells:∀ k,k<c->∃ u,w.cell? (a.add k)=some u/\w.frozen? (a.add k)=false)
  (hnc:n<=c) (hn:n<=Aaw) (hpos:0<n) (xs:List α) (hxl:xs.length=n) (hxs:∀ i x,xs[i]?=some x->w.cell? (a.add i)=some (enc x)) (hinj:∀ x∈xs.map b,∀ y∈xs.map b,kβ x=kβ y->x=y) :
  Calls P (ρ.f 6) vals.toArray w fun e w'=>∃ u,e=.returned u/\Ra3 ⟨ρ.f 6,[(false,[.mu 1]),(false,[.clo g cs])],bxs,[]⟩ (vK ⟨ρ.f 6,[(false,[.mu 1]),(false,[.clo g cs])],bxs,[]⟩ G w) G.bx u w' [.rows 1 ((lC kβ (xs.map b)).map fun p=>[datβ p])]:=by
 have hadd:=Bbj hspot
 have h1:OneCell enc:=fun x=>(hdat x).one
 have hblk:a.block<w.heap.size:=by
  obtain⟨u,hu,-⟩:=hcells 0 (by omega)
  have:=Ma0 hu
  rwa[add_block]at this
 have hsz:xs.toArray.size=n:=by simpa using hxl
 have hH:Holds enc w a.block a.off xs.toArray:=by
  intro j hj
  rw[hsz]at hj
  have hjx:j<xs.length:=by omega
  have hx:=hxs j xs[j] (by rw[Sb0 hjx])
  obtain⟨u,hu,hf⟩:=hcells j (by omega)
  rw[hadd]at hx hf
  refine⟨?_,hf⟩
  rw[hx,getElem!_pos xs.toArray j (by simpa using hjx)]
  simp
 have hO:SWO (ltOf cf):=by
  refine⟨fun x=>?_,fun x y z h h'=>?_,fun x y z h h'=>?_⟩
  ·rw[hcf,xI];omega
  ·rw[hcf,Qah]at *;omega
  ·rw[hcf,xI]at *;omega
 have hS:=Any.slices_SortFunc L enc h1 cf hO g cb.toArray a.block a.off c xs.toArray w eg (hcmp _ _ _ hown) hH hblk (by rw[hsz];unfold Aaw at hn;omega)
 have ea:(⟨a.block,a.off,none⟩:Addr)=a:=by
  cases a with
  | mk b o s =>
   obtain rfl:s=none:=hspot
   rfl
 rw[hsz,ea,<- ev]at hS
 rw[hvals]
 refine hS.mono ?_
 rintro e w' ⟨rfl,d',m,os,hP,hSo,rfl⟩
 refine⟨_,rfl,?_⟩
 obtain⟨hds,-,hperm⟩:=hP
 rw[hsz]at hds
 have e1:d'.extract 0 n=d':=by rw[<- hds];exact Array.extract_size
 have e2:xs.toArray.extract 0 n=xs.toArray:=by rw[<- hsz];exact Array.extract_size
 rw[e1,e2]at hperm
 have hsorted:d'.toList.map b=lC kβ (xs.map b):=by
  refine Iaz kβ (by simpa using hperm.map b) ?_ hinj
  refine Mbz fun i j hi hj hij=>?_
  have hi':i<d'.size:=by simpa using hi
  have hj':j<d'.size:=by simpa using hj
  have:=hSo i j (Ubo _) hij (by omega)
  rw[hcf,getElem!_pos d' i hi',getElem!_pos d' j hj']at this
  simpa using this
 have hlen:(lC kβ (xs.map b)).length=n:=by rw[(jZ kβ _).length_eq,Sb5,hxl]
 have hH':Holds enc (sortWorld enc w a.block a.off m d' os) a.block a.off d':=by
  unfold sortWorld
  refine holds_grow _ _ _ _ _ _ (by simpa using hblk) (holds_putRow enc _ _ _ xs.toArray d' hH (by rw[hsz,hds]))
 refine⟨{ G with own:=fun b=>if b=a.block then .slc 1 [] else G.own b },[],rfl,?_,rfl,⟨?_,trivial⟩,Eag hro⟩
 ·refine⟨rfl,rfl,rfl,Dbn enc _ _ _ _ _,fun b hb ho=>?_,fun b j hb ho=>?_,fun b hb=>?_⟩
  ·have hne:b≠a.block:=by rintro rfl;change G.own a.block=_\/G.own a.block=_ at ho;rw[hown]at ho;rcases ho with h|h<;>cases h
   exact⟨Kat enc _ _ _ _ _ hb hne,if_neg hne⟩
  ·have hne:b≠a.block:=by rintro rfl;change G.own a.block=_ at ho;rw[hown]at ho;cases ho
   obtain⟨-,c0,e0,fr,hc0⟩:=hpre.cells b j hb ho
   refine⟨(if_neg hne).trans ho,c0,c0,e0,fr,hc0,(Kat enc _ _ _ _ _ hb hne).trans hc0,rfl,fun _ _=>rfl⟩
  ·have h0:=Tbr (Dbn enc a.block a.off m d' os) hb
   show (if b=a.block then _ else _)=_
   rw[if_neg (by omega)]
   exact hpre.fresh b h0
 ·show Rp _ _ _ _ _ (G.hdr 0) _
  rw[<- hv,ev]
  have hat:∀ i p,(lC kβ (xs.map b))[i]?=some p->∃ x,d'[i]?=some x/\b x=p/\i<d'.size:=by
   intro i p hi
   rw[<- hsorted,Tbo,Tbd]at hi
   obtain⟨x,hx,rfl⟩:=hi
   rw[Array.getElem?_toList]at hx
   exact⟨x,hx,rfl,(Array.getElem?_eq_some_iff.1 hx).1⟩
  refine .sl (some a) a n c 1 _ (fun i _=>enc d'[i]!) (by rw[Sb5,hlen]) hnc (.inl rfl) (by simp) (fun _=>⟨hspot,if_pos rfl,fun k hk=>?_⟩) (fun i row hi j d hj=>?_) (fun i row hi j d hj=>?_)
  ·rw[Nat.mul_one]at hk
   rcases Tbi k n with hkn|hkn
   ·obtain⟨h3,h4⟩:=hH' k (by omega)
    rw[hadd]
    exact⟨_,h3,h4⟩
   ·obtain⟨u,hu,hf⟩:=hcells k hk
    rw[hadd]at hu hf ⊢
    refine⟨u,?_,?_⟩
    ·unfold sortWorld
     rw[cell?_grow _ _ _ (by simpa using hblk),cell?_putRow_other _ _ _ _ _ _ (.inr (.inr (by simp only[hds];omega)))]
     exact hu
    ·unfold sortWorld
     rw[frozen?_grow _ _ _ (by simpa using hblk),frozen?_putRow]
     exact hf
  ·rw[Tbo,Tbd]at hi
   obtain⟨p,hp,rfl⟩:=hi
   obtain⟨x,hx,-,hlt⟩:=hat i p hp
   cases j with
   |succ j=>simp at hj
   | zero =>
    rw[Nat.mul_one,Tbs,hadd]
    exact (hH' i hlt).1
  ·rw[Tbo,Tbd]at hi
   obtain⟨p,hp,rfl⟩:=hi
   obtain⟨x,hx,hb,hlt⟩:=hat i p hp
   cases j with
   |succ j=>simp at hj
   | zero =>
    simp only[List.getElem?_cons_zero,Option.some.injEq]at hj
    subst hj
    have ex:d'[i]! = x:=by
     rw[getElem!_pos d' i hlt]
     exact (Array.getElem?_eq_some_iff.1 hx).2
    rw[ex,<- hb]
    refine .fz ((hdat x).mono' fun b hb hlt=>?_)
    have hne:b≠a.block:=by rintro rfl;rw[hown]at hb;cases hb
    exact⟨(if_neg hne).trans hb,Kat enc _ _ _ _ _ hlt hne⟩
end
section
open Go.Proofs Go.Shelf Go.Sort
variable {P:Program} {ρ:Ren} {own:Nat->Ow} {w:World}
theorem Ebm {f g:Nat}{cs:List LS}{bxs:List (Bool×List (BS×BO))}{vals:List Value}{G:Gh}{ds:List D}(hpre:Gbq ⟨f,[(false,[.mu 1]),(false,[.clo g cs])],bxs,[]⟩ vals w G ds)
  (hro:(bxs.all (·.1))=true) {d:D} (h:Rp G.own w 0 [] 1 (G.hdr 0) d) :
  Ra3 ⟨f,[(false,[.mu 1]),(false,[.clo g cs])],bxs,[]⟩ (vK ⟨f,[(false,[.mu 1]),(false,[.clo g cs])],bxs,[]⟩ G w) G.bx (.tuple #[]) w [d]:=by
 let own1:Nat->Ow:=fun b=>match G.own b with
  |.slc s p=>if s=0 then (if p.length<1 then .slc 1 p else .frz) else .slc s p
  |o=>o
 refine⟨{ G with own:=own1 },[],rfl,⟨rfl,rfl,rfl,Sb7 _,fun b hb ho=>⟨rfl,?_⟩,fun b j hb ho=>?_,fun b hb=>?_⟩,rfl,⟨?_,trivial⟩,Eag hro⟩
 ·change G.own b=_\/G.own b=_ at ho
  show own1 b=G.own b
  rcases ho with ho|ho<;>simp only[own1,ho]
 ·change G.own b=_ at ho
  obtain⟨-,c0,e0,fr,hc0⟩:=hpre.cells b j hb ho
  refine⟨?_,c0,c0,e0,fr,hc0,hc0,rfl,fun _ _=>rfl⟩
  show own1 b=_
  simp only[own1,ho]
 ·show own1 b=_
  simp only[own1,hpre.fresh b hb]
 ·show Rp own1 w 1 [] 1 (G.hdr 0) d
  refine h.move (fun b hb _=>⟨by simp only[own1,hb],rfl⟩) [] 1 (Sb7 _) fun b t hb=>⟨?_,rfl⟩
  simp only[List.nil_append]at hb ⊢
  simp only[own1,hb,if_true]
def Hae (P:Program)(g:Nat):Prop :=
 ∀ (a b:Addr) (ca cb:Nat) (x y:Int×Int) (w:World),w.cell? a=some (.int .i64 x.1)->w.cell? (a.add 1)=some (.int .i64 x.2)->w.cell? b=some (.int .i64 y.1)->w.cell? (b.add 1)=some (.int .i64 y.2) ->
  Calls P g #[.slice (some a) 2 ca,.slice (some b) 2 cb] w fun e w'=>e=.returned (.int .i64 (Aal x y))/\∃ q os,w'=grow (w.drewN q) os
def Bbm (own:Nat->Ow)(w:World)(v:Value)(p:Int×Int):Prop :=
 ∃ a c,v=.slice (some a) 2 c/\2<=c/\own a.block=.frz/\w.cell? a=some (.int .i64 p.1)/\w.cell? (a.add 1)=some (.int .i64 p.2)
theorem Eb3 {v:Value}{p:Int×Int}(h:Rd (fun b=>own b=.frz) w v (Laf p)):Bbm own w v p:=by
 obtain⟨A,a,n,c,vs,rfl,hn,hc,hA,hsz,hcell,hrec⟩:=h.inv
 obtain rfl:n=2:=hn.symm
 obtain rfl:A=some a:=hA.resolve_left (by omega)
 obtain⟨h1,h2⟩:=hcell 0 _ rfl 0 _ rfl
 obtain⟨-,h3⟩:=hcell 1 _ rfl 0 _ rfl
 have h4:=hrec 0 _ rfl 0 _ rfl
 have h5:=hrec 1 _ rfl 0 _ rfl
 have e0:a.add 0=a:=if_pos rfl
 simp only[Nat.zero_mul,Tbs,Nat.one_mul,e0]at h2 h3
 generalize vs 0 0=u0 at h2 h4
 generalize vs 1 0=u1 at h3 h5
 obtain rfl:u0=.int .i64 p.1:=by cases h4 with|sc h=>cases h;rfl
 obtain rfl:u1=.int .i64 p.2:=by cases h5 with|sc h=>cases h;rfl
 exact⟨a,c,rfl,hc,h1,h2,h3⟩
theorem Bbm.rd {v:Value}{p:Int×Int}(h:Bbm own w v p):Rd (fun b=>own b=.frz) w v (Laf p):=by
 obtain⟨a,c,rfl,hc,ho,h1,h2⟩:=h
 have e0:a.add 0=a:=if_pos rfl
 refine .rows (some a) a 2 c 1 _ (fun i _=>if i=0 then .int .i64 p.1 else .int .i64 p.2) rfl hc (.inr rfl) (by simp) (fun i r hi j d hj=>?_) (fun i r hi j d hj=>?_)
 ·match i,j with
  |0,0=>exact⟨ho,by simpa[e0] using h1⟩
  |1,0=>exact⟨ho,by simpa using h2⟩
  |0,j+1=>simp at hi;subst hi;simp at hj
  |1,j+1=>simp at hi;subst hi;simp at hj
  |i+2,_=>simp at hi
 ·match i,j with
  |0,0=>simp at hi;subst hi;simp at hj;subst hj;exact .sc (.int _ _)
  |1,0=>simp at hi;subst hi;simp at hj;subst hj;exact .sc (.int _ _)
  |0,j+1=>simp at hi;subst hi;simp at hj
  |1,j+1=>simp at hi;subst hi;simp at hj
  |i+2,_=>simp at hi
theorem Rp.sl1 {v:Value}{sz:Nat}{rs:List (List D)}(h:Rp own w 0 [] 1 v (.rows sz rs)):∃ (A:Option Addr) (a:Addr) (n c:Nat) (vs:Nat->Nat->Value),v=.slice A n c/\rs.length=n/\n<=c/\(A=some a\/(A=none/\c=0))/\(∀ r∈rs,r.length=sz) /\
  (A=some a->a.spot=none/\own a.block=.slc 0 []/\∀ k,k<c*sz->∃ u,w.cell? (a.add k)=some u/\w.frozen? (a.add k)=false) /\
  (∀ i row,rs[i]?=some row->∀ j d,row[j]?=some d->w.cell? (a.add (i*sz+j))=some (vs i j))/\∀ i row,rs[i]?=some row->∀ j d,row[j]?=some d->Rd (fun b=>own b=.frz) w (vs i j) d:=by
 obtain⟨A,a,n,c,vs,e1,e2,e3,e4,e5,e6,e7,e8⟩:=h.sl_inv
 exact⟨A,a,n,c,vs,e1,e2,e3,e4,e5,e6,e7,fun i row hi j d hj=>(e8 i row hi j d hj).zero1⟩
theorem Gb7 (L : SlLaysF.n6 P ρ) {g : Nat} {fn : Func} {c : Code} (hg : P.funcs[g]? = some fn) (hname : (fn.name == "runtime.NumGoroutine") = false) (hb : fn.body = some c) (W : Hae P g) :
  Cb3 P ⟨ρ.f 6,[(false,[.mu 1]),(false,[.clo g []])],[],[]⟩ Aav:=by
 intro vals w G ds ds' hpre hr
 unfold Aav at hr
 split at hr
 case h_2=>cases hr
 rename_i rs
 rw[Sbt]at hr
 obtain⟨l,hl,hr⟩:=hr
 split at hr
 case isFalse=>cases hr
 rename_i hlen
 obtain rfl:=Option.some.inj hr
 obtain⟨u,us,vs,rfl,⟨v,vs',rfl,⟨hv,hrp⟩,rfl⟩,hsh,u2,us2,vs2,rfl,⟨v2,vs3,rfl,⟨cb,rfl,hcb⟩,rfl⟩,hsh2,hnil⟩:=hpre.params
 simp only[Sbv,if_false]at hsh hsh2
 obtain rfl:v=u:=by simpa using hsh
 obtain rfl:Value.func (.func g) #[] cb.toArray=u2:=by simpa using hsh2
 simp only[mZ]at hnil
 subst hnil
 simp only[Ba7]at hcb
 subst hcb
 have hrp':Rp G.own w 0 [] 1 v (.rows 1 rs):=hrp
 obtain⟨A,a,n,c,cv,hval,hn,hcap,hA,hsz,hown,hcell,hrec⟩:=hrp'.sl1
 obtain rfl:=Oau hl
 rw[Sb5]at hn
 obtain⟨nm,hnm,hfn⟩:=L.f6
 refine .inl ⟨jF hfn hnm rfl _ _,?_⟩
 rcases Nat.eq_zero_or_pos n with h0|hpos
 ·subst h0
  obtain rfl:l=[]:=Ubh hn
  have h:=AnyF.slices_SortFunc_none (P:=P) (ρ:=ρ) { L with } A c (.func (.func g) #[] #[]) w
  rw[hval]
  refine h.mono ?_
  rintro e w' ⟨rfl,rfl⟩
  exact Ebm hpre rfl (hv▸hrp')
 ·obtain rfl:A=some a:=by
   rcases hA with h|⟨-,h⟩
   ·exact h
   ·omega
  obtain⟨hspot,hob,hcells⟩:=hown rfl
  let α:={ x:Value×(Int×Int) // Bbm G.own w x.1 x.2 }
  have hex:∀ i,i<n->∃ x:α,l[i]?=some x.1.2/\cv i 0=x.1.1:=by
   intro i hi
   have hi':l[i]?=some (l[i]'(by omega)):=Sb0 (by omega)
   have hr:=hrec i [Laf (l[i]'(by omega))] (by rw[Tbo,hi'];rfl) 0 _ rfl
   exact⟨⟨(cv i 0,l[i]'(by omega)),Eb3 hr⟩,hi',rfl⟩
  obtain⟨xs,hxl,hxs⟩:=Qam n hex
  haveI:Inhabited α:=⟨(hex 0 hpos).choose⟩
  have hmap:xs.map (fun x:α=>x.1.2)=l:=by
   apply Vbv
   intro i
   rw[Tbo]
   rcases Tbi i n with hi|hi
   ·have hx:xs[i]?=some (xs[i]'(by omega)):=Sb0 (by omega)
    rw[hx]
    exact (hxs i _ hx).1.symm
   ·rw[Ubk (by omega),Ubk (by omega)]
    rfl
  have hcore:=Saz (w:=w) (G:=G) L (α:=α) (fun x=>x.1.1) (fun x=>x.1.2) Laf id (fun x y=>Aal x.1.2 y.1.2) (fun x y=>Nbn) (g:=g) hpre rfl (fun args w=>jF hg hname hb args w) hv [] rfl
   (fun blk off size hbl m os dk hs x y=>?_) (fun x=>x.2.rd) hval hspot hob (fun k hk=>hcells k (by omega)) hcap (by omega) hpos xs hxl (fun i x hx=>?_) (fun x _ y _ h=>h)
  ·rw[hmap]at hcore
   refine hcore.mono ?_
   rintro e w' ⟨u,rfl,h⟩
   exact h
  ·obtain⟨ax,cx,hxv,hcx,hox,hx1,hx2⟩:=x.2
   obtain⟨ay,cy,hyv,hcy,hoy,hy1,hy2⟩:=y.2
   have hkeep:∀ (b:Addr) (u:Value),G.own b.block=.frz->w.cell? b=some u->(sortWorld (fun x:α=>x.1.1) w blk off m dk os).cell? b=some u:=by
    intro b u ho hc
    refine (iC (Kat _ _ _ _ _ _ (Ma0 hc) ?_)).trans hc
    intro e
    rw[e,hbl]at ho
    cases ho
   show Calls P g #[x.1.1,y.1.1] _ _
   rw[hxv,hyv]
   exact (W ax ay cx cy x.1.2 y.1.2 _ (hkeep _ _ hox hx1) (hkeep _ _ (by rw[add_block];exact hox) hx2) (hkeep _ _ hoy hy1) (hkeep _ _ (by rw[add_block];exact hoy) hy2))
  ·obtain⟨h1,h2⟩:=hxs i x hx
   have:=hcell i [Laf x.1.2] (by rw[Tbo,h1];rfl) 0 _ rfl
   rw[Nat.mul_one,Tbs,h2]at this
   exact this
theorem Ka5 (L : SlLaysF.n6 P ρ) {f g key : Nat} {fn : Func} {c : Code} {T : Nat -> Ent} {ti : Nat -> Option TI} {sigs : List (Nat × Sig)} (hf : ρ.f 6 = f) (hg : P.funcs[g]? = some fn) (hname : (fn.name == "runtime.NumGoroutine") = false) (hb : fn.body = some c) (W : Hae P g)
  (hT:T key=.ext Aav):Nae P T ti sigs key ⟨f,[(false,[.mu 1]),(false,[.clo g []])],[],[]⟩:=by
 subst hf
 exact .inr ⟨_,hT,Gb7 L hg hname hb W⟩
end
section
open Go.Proofs Go.Shelf Go.Sort
variable {P:Program} {ρ:Ren} {own:Nat->Ow} {w:World}
def Nac (P:Program)(g:Nat):Prop :=
 ∀ (p ad:Addr) (n c:Nat) (x y kx ky:Int) (w:World),w.cell? p=some (.slice (some ad) n c)->0<=x->x.toNat<n->0<=y->y.toNat<n->w.cell? (ad.add x.toNat)=some (.int .i64 kx)->w.cell? (ad.add y.toNat)=some (.int .i64 ky) ->
  Calls P g #[.int .i64 x,.int .i64 y,.pointer (some p)] w fun e w'=>e=.returned (.int .i64 (IntKind.i64.wrap (kx-ky)))/\∃ q os,w'=grow (w.drewN q) os
theorem Cbf {l kl:List Int}(h:Dak l kl=true):(∀ n∈l,0<=n/\n.toNat<kl.length)/\(∀ k∈kl,0<=k/\k<=1000000000)/\∀ n∈l,∀ m∈l,jK kl n=jK kl m->n=m:=by
 unfold Dak at h
 simp only[Sbu,Tbp,decide_eq_true_eq,Uba,Bool.not_eq_true',beq_iff_eq,beq_eq_false_iff_ne]at h
 obtain⟨⟨h1,h2⟩,h3⟩:=h
 exact⟨h1,h2,fun n hn m hm e=>(h3 n hn m hm).resolve_left fun h=>h e⟩
theorem wrap_small {k:Int}(h:-4000000000<=k)(h':k<=4000000000):IntKind.i64.wrap k=k:=by
 simp only[IntKind.wrap,IntKind.bits,IntKind.signed]
 simp
 omega
theorem Gb8 (L : SlLaysF.n6 P ρ) {g : Nat} {fn : Func} {c : Code} (hg : P.funcs[g]? = some fn) (hname : (fn.name == "runtime.NumGoroutine") = false) (hb : fn.body = some c) (W : Nac P g) :
  Cb3 P ⟨ρ.f 6,[(false,[.mu 1]),(false,[.clo g [.px 0]])],[(true,[(.fz false,.fz)])],[]⟩ Dae:=by
 intro vals w G ds ds' hpre hr
 unfold Dae at hr
 split at hr
 case h_2=>cases hr
 rename_i rs ks
 rw[Sbt]at hr
 obtain⟨l,hl,hr⟩:=hr
 rw[Sbt]at hr
 obtain⟨kl,hkl,hr⟩:=hr
 split at hr
 case isFalse=>cases hr
 rename_i hc
 obtain⟨hlen,hko⟩:=hc
 obtain rfl:=Option.some.inj hr
 obtain⟨hk1,hk2,hk3⟩:=Cbf hko
 obtain⟨u,us,vs,rfl,⟨v,vs',rfl,⟨hv,hrp⟩,rfl⟩,hsh,u2,us2,vs2,rfl,⟨v2,vs3,rfl,⟨cb,rfl,hcb⟩,rfl⟩,hsh2,hnil⟩:=hpre.params
 simp only[Sbv,if_false]at hsh hsh2
 obtain rfl:v=u:=by simpa using hsh
 obtain rfl:Value.func (.func g) #[] cb.toArray=u2:=by simpa using hsh2
 simp only[mZ]at hnil
 subst hnil
 obtain⟨pv,cbs,rfl,⟨hp1,-⟩,hcb⟩:=hcb
 simp only[Ba7]at hcb
 subst hcb
 subst hp1
 obtain⟨hbs,hbo,⟨⟨kv,hkc,-,hkr,-⟩,-⟩,-⟩:=hpre.boxes
 rw[if_pos rfl]at hbo
 have hkr':Rd (fun b=>G.own b=.frz) w kv (.rows 1 ks):=hkr
 obtain⟨Ak,ak,nk,ck,kvs,rfl,hnk,hck,hAk,-,hkcell,hkrec⟩:=hkr'.inv
 have eb:(G.bx 0).add 0=G.bx 0:=if_pos rfl
 rw[eb]at hkc
 have hrp':Rp G.own w 0 [] 1 v (.rows 1 rs):=hrp
 obtain⟨A,a,n,c,cv,hval,hn,hcap,hA,hsz,hown,hcell,hrec⟩:=hrp'.sl1
 obtain rfl:=Lau hl
 obtain rfl:=Lau hkl
 rw[Sb5]at hn hnk
 obtain⟨nm,hnm,hfn⟩:=L.f6
 refine .inl ⟨jF hfn hnm rfl _ _,?_⟩
 rcases Nat.eq_zero_or_pos n with h0|hpos
 ·subst h0
  obtain rfl:l=[]:=Ubh hn
  have h:=AnyF.slices_SortFunc_none (P:=P) (ρ:=ρ) { L with } A c (.func (.func g) #[] #[.pointer (some (G.bx 0))]) w
  rw[hval]
  refine h.mono ?_
  rintro e w' ⟨rfl,rfl⟩
  exact Ebm hpre rfl (hv▸hrp')
 ·obtain rfl:A=some a:=by
   rcases hA with h|⟨-,h⟩
   ·exact h
   ·omega
  obtain⟨hspot,hob,hcells⟩:=hown rfl
  let α:={ x:Int // 0<=x/\x.toNat<kl.length }
  have hex:∀ i,i<n->∃ x:α,l[i]?=some x.1/\cv i 0=.int .i64 x.1:=by
   intro i hi
   have hi':l[i]?=some (l[i]'(by omega)):=Sb0 (by omega)
   have hr:=hrec i [.int .i64 (l[i]'(by omega))] (by rw[Tbo,hi'];rfl) 0 _ rfl
   refine⟨⟨l[i]'(by omega),hk1 _ (Ub4 _)⟩,hi',?_⟩
   generalize cv i 0=u at hr
   cases hr with
   |sc h=>cases h;rfl
  obtain⟨xs,hxl,hxs⟩:=Qam n hex
  haveI:Inhabited α:=⟨(hex 0 hpos).choose⟩
  have hmap:xs.map (fun x:α=>x.1)=l:=by
   apply Vbv
   intro i
   rw[Tbo]
   rcases Tbi i n with hi|hi
   ·have hx:xs[i]?=some (xs[i]'(by omega)):=Sb0 (by omega)
    rw[hx]
    exact (hxs i _ hx).1.symm
   ·rw[Ubk (by omega),Ubk (by omega)]
    rfl
  have hkey:∀ x:α,∃ k,jK kl x.1=(k,0)/\0<=k/\k<=1000000000/\Ak=some ak/\G.own ak.block=.frz/\w.cell? (ak.add x.1.toNat)=some (.int .i64 k):=by
   intro x
   have hlt:=x.2.2
   have hg:kl[x.1.toNat]?=some (kl[x.1.toNat]'hlt):=Sb0 hlt
   have h1:=hkcell x.1.toNat [.int .i64 (kl[x.1.toNat]'hlt)] (by rw[Tbo,hg];rfl) 0 _ rfl
   have h2:=hkrec x.1.toNat [.int .i64 (kl[x.1.toNat]'hlt)] (by rw[Tbo,hg];rfl) 0 _ rfl
   have h3:=hk2 _ (Ub4 hlt)
   refine⟨kl[x.1.toNat]'hlt,by unfold jK;rw[Sb4,hg];rfl,h3.1,h3.2,hAk.resolve_left (by omega),h1.1,?_⟩
   have h4:=h1.2
   rw[Nat.mul_one,Tbs]at h4
   rw[h4]
   generalize kvs x.1.toNat 0=u at h2
   cases h2 with
   |sc h=>cases h;rfl
  have hcore:=Saz (w:=w) (G:=G) L (α:=α) (fun x=>.int .i64 x.1) (fun x=>x.1) (fun n=>.int .i64 n) (jK kl) (fun x y=>IntKind.i64.wrap ((jK kl x.1).1-(jK kl y.1).1)) (fun x y=>?_) (g:=g) hpre rfl (fun args w=>jF hg hname hb args w) hv [.pointer (some (G.bx 0))] rfl
   (fun blk off size hbl m os dk hs x y=>?_) (fun x=>.sc (.int _ _)) hval hspot hob (fun k hk=>hcells k (by omega)) hcap (by omega) hpos xs hxl (fun i x hx=>?_) ?_
  ·rw[hmap]at hcore
   refine hcore.mono ?_
   rintro e w' ⟨u,rfl,h⟩
   exact h
  ·obtain⟨kx,ex,hx1,hx2,-⟩:=hkey x
   obtain⟨ky,ey,hy1,hy2,-⟩:=hkey y
   have e1:IntKind.i64.wrap ((jK kl x.1).1-(jK kl y.1).1)=kx-ky:=by rw[ex,ey];exact wrap_small (by dsimp only;omega) (by dsimp only;omega)
   have e2:ltOf (fun x y:α=>IntKind.i64.wrap ((jK kl x.1).1-(jK kl y.1).1)) x y=decide (kx-ky<0):=by
    unfold ltOf
    simp only[e1]
   rw[e2,ex,ey]
   unfold ltQ
   simp
   omega
  ·obtain⟨kx,ex,hx1,hx2,hA,hfr,hxc⟩:=hkey x
   obtain⟨ky,ey,hy1,hy2,-,-,hyc⟩:=hkey y
   have hkeep:∀ (b:Addr) (u:Value),G.own b.block≠.slc 0 []->w.cell? b=some u->(sortWorld (fun x:α=>Value.int .i64 x.1) w blk off m dk os).cell? b=some u:=by
    intro b u ho hc
    refine (iC (Kat _ _ _ _ _ _ (Ma0 hc) ?_)).trans hc
    intro e
    rw[e]at ho
    exact ho hbl
   show Calls P g #[.int .i64 x.1,.int .i64 y.1,.pointer (some (G.bx 0))] (sortWorld (fun x:α=>Value.int .i64 x.1) w blk off m dk os) fun e w'=>e=.returned (.int .i64 (IntKind.i64.wrap ((jK kl x.1).1-(jK kl y.1).1)))/\∃ q os',w'=grow ((sortWorld (fun x:α=>Value.int .i64 x.1) w blk off m dk os).drewN q) os'
   rw[ex,ey]
   refine W (G.bx 0) ak nk ck x.1 y.1 kx ky _ ?_ x.2.1 (by have:=x.2.2;omega) y.2.1 (by have:=y.2.2;omega) (hkeep _ _ (by rw[add_block,hfr];simp) hxc) (hkeep _ _ (by rw[add_block,hfr];simp) hyc)
   rw[<- hA]
   exact hkeep _ _ (by rw[hbo];simp) hkc
  ·obtain⟨h1,h2⟩:=hxs i x hx
   have:=hcell i [.int .i64 x.1] (by rw[Tbo,h1];rfl) 0 _ rfl
   rw[Nat.mul_one,Tbs,h2]at this
   exact this
  ·rw[hmap]
   exact hk3
theorem Ka6 (L : SlLaysF.n6 P ρ) {f g key : Nat} {fn : Func} {c : Code} {T : Nat -> Ent} {ti : Nat -> Option TI} {sigs : List (Nat × Sig)} (hf : ρ.f 6 = f) (hg : P.funcs[g]? = some fn) (hname : (fn.name == "runtime.NumGoroutine") = false) (hb : fn.body = some c) (W : Nac P g)
  (hT:T key=.ext Dae):Nae P T ti sigs key ⟨f,[(false,[.mu 1]),(false,[.clo g [.px 0]])],[(true,[(.fz false,.fz)])],[]⟩:=by
 subst hf
 exact .inr ⟨_,hT,Gb8 L hg hname hb W⟩
end
end Go.Proofs.YtpgnlmfmlffjcaaGreat.Rf

namespace Go.Proofs.YtpgnlmfmlffjcaaGreat.Rf
set_option linter.unusedVariables false
set_option linter.unusedSimpArgs false
section
open Go.Proofs Go.Shelf Go.RowKit Go.Lib Go.Sort
variable {P:Program} {ρ:Ren}
set_option maxHeartbeats 4000000 in
set_option maxRecDepth 1000000 in
theorem Xan (L:SlLaysE0.n45 P ρ){K:Nat}{i0:TypeInfo}{z:Value}(hi0:P.info? (ρ.t 23)=some i0)(hz0:i0.zero=some z)(hz1:i0.size=K)(hzs:z.cells.size=K)(hK:0<K)(hzo:∀ u∈z.cells.toList,u.oneCell'=true)
  (z23:∀ w,(Go.sizeOf (ρ.t 23)).run P w=.ok K w) (blk off n cap i j:Nat) (w:World) (olds:List Value) (hol:olds.length=n*K) (hoc:∀ k u,olds[k]?=some u->w.cell? ⟨blk,off+k,none⟩=some u) (ho1:∀ u∈olds,u.oneCell'=true)
  (hall:∀ k,k<cap*K->∃ u,w.cell? ⟨blk,off+k,none⟩=some u/\w.frozen? ⟨blk,off+k,none⟩=false) (hcap:n<=cap) (hn:n<=4611686018427387904) (hij:i<=j) (hj:j<=n) :
  Calls P (ρ.f 45) #[.slice (some ⟨blk,off,none⟩) n cap,.int .i64 i,.int .i64 j] w fun e w'=>e=.returned (.slice (some ⟨blk,off,none⟩) (n-(j-i)) cap) /\
   ((i=j/\w'=w)\/(i<j/\w'=(w.drew.setCells blk (off+i*K) (olds.drop (j*K))).setCells blk (off+(i+(n-j))*K) (Builtin.zeroCells z.cells (n-(i+(n-j)))).toList)):=by
 have mixed:=L.mixed;have t0:=L.t0;have a0:=L.a0;have z0:=L.z0;have v0:=L.v0;have t3:=L.t3;have a3:=L.a3;have z3:=L.z3;have v3:=L.v3;have t4:=L.t4;have a4:=L.a4;have z4:=L.z4;have v4:=L.v4;have t22:=L.t22;have a22:=L.a22;have z22:=L.z22;have v22:=L.v22
 by_cases heq:i=j
 ·subst heq
  have h0:Calls P (ρ.f 45) #[.slice (some ⟨blk,off,none⟩) n cap,.int .i64 i,.int .i64 i] w fun e w'=>e=.returned (.slice (some ⟨blk,off,none⟩) n cap)/\w'=w:=by
   clear hoc ho1 hall hol
   obtain⟨_,_,FG⟩:=L.f45
   go_enter FG,SlBodyN.n45_ntmps ρ
   go_wp2
   all_goals (go_ret;exact⟨rfl,rfl⟩)
  refine h0.mono ?_
  rintro e w' ⟨rfl,rfl⟩
  exact⟨by rw[Nat.sub_self,Nat.sub_zero],.inl ⟨rfl,rfl⟩⟩
 ·have hlt:i<j:=by omega
  obtain⟨news,hnews⟩:∃ news,news=olds.drop (j*K):=⟨_,rfl⟩
  have hlen:news.length=(n-j)*K:=by rw[hnews,Tbx,hol,Nat.sub_mul]
  have hjc:cap≠j->j<cap:=by omega
  have hmul:∀ a b:Nat,a<=b->a*K<=b*K:=fun a b h=>Ubl K h
  obtain⟨A,hA,hsrc⟩:∃ A:Addr,(if cap=j then (some (⟨blk,off,none⟩:Addr)) else some ⟨blk,off+j*K,none⟩)=some A/\Hid (∀ t u,news[t]?=some u->w.drew.cell? (A.add t)=some u):=by
   by_cases h:cap=j
   ·refine⟨⟨blk,off,none⟩,by simp[h],fun t u hu=>?_⟩
    have h0:news.length=0:=by rw[hlen,show n-j=0 by omega,Nat.zero_mul]
    rw[List.length_eq_zero_iff.1 h0]at hu
    simp at hu
   ·refine⟨⟨blk,off+j*K,none⟩,by simp[h],fun t u hu=>?_⟩
    rw[hnews,Tb5]at hu
    have:=hoc _ u hu
    rw[Addr.add_lit,show off+j*K+t=off+(j*K+t) by omega]
    exact this
  have s1:Hid (news.length=(n-j)*K):=hlen
  have s2:Hid (∀ u∈news,u.oneCell'=true):=fun u hu=>ho1 u (Vbe (hnews▸hu))
  have hroom:i*K+(n-j)*K<=cap*K:=by rw[<- Ubm];exact hmul _ _ (by omega)
  have s3:Hid (∀ t,t<news.length->(w.drew.cell? ⟨blk,off+i*K+t,none⟩).isSome=true/\w.drew.frozen? ⟨blk,off+i*K+t,none⟩=false):=by
   intro t ht
   rw[hlen]at ht
   obtain⟨u,h1,h2⟩:=hall (i*K+t) (by omega)
   rw[Tbl]
   exact⟨by show (w.cell? _).isSome=true;rw[h1];rfl,h2⟩
  obtain⟨W1,hW1⟩:∃ W1,W1=w.drew.setCells blk (off+i*K) news:=⟨_,rfl⟩
  have hall1:∀ k,k<cap*K->∃ u,W1.cell? ⟨blk,off+k,none⟩=some u/\W1.frozen? ⟨blk,off+k,none⟩=false:=by
   intro k hk
   obtain⟨u,h1,h2⟩:=hall k hk
   rw[hW1]
   obtain⟨u',h3⟩:=nD (w:=w.drew) (B:=blk) (o:=off+i*K) (vs:=news) (b:=⟨blk,off+k,none⟩) (fun _=>rfl) (fun t ht=>(s3.out t ht).1) h1
   exact⟨u',h3,by rw[World.frozen?_setCells];exact h2⟩
  generalize hZ:(Builtin.zeroCells z.cells (n-(i+(n-j)))).toList=Z
  have hZl:Z.length=(n-(i+(n-j)))*K:=by rw[<- hZ];simp[Builtin.zeroCells,hzs]
  have hZ1:∀ u∈Z,u.oneCell'=true:=by
   intro u hu
   rw[<- hZ,Builtin.zeroCells,Array.mem_toList_iff,Array.mem_map]at hu
   obtain⟨q,hq,rfl⟩:=hu
   have hlt:q % z.cells.size<z.cells.size:=Nat.mod_lt _ (by omega)
   rw[getElem!_pos z.cells _ hlt]
   exact hzo _ (Array.getElem_mem_toList hlt)
  have hcl:∀ ty,(Builtin.clear_ #[ρ.t 22] ty #[.slice (some ⟨blk,off+(i+(n-j))*K,none⟩) (n-(i+(n-j))) (cap-(i+(n-j)))]).run P W1=.ok (.tuple #[]) (W1.setCells blk (off+(i+(n-j))*K) Z):=by
   intro ty
   have hcells:∀ t,t<Z.length->∃ u,W1.cell? ⟨blk,off+(i+(n-j))*K+t,none⟩=some u/\W1.frozen? ⟨blk,off+(i+(n-j))*K+t,none⟩=false:=fun t ht=>by
    have h1:(i+(n-j))*K+(n-(i+(n-j)))*K<=cap*K:=by rw[<- Ubm];exact hmul _ _ (by omega)
    have:=hall1 ((i+(n-j))*K+t) (by omega)
    rwa[<- Tbl]at this
   have hst:=run_storeCells_cells (P:=P) blk (off+(i+(n-j))*K) Z 0 W1 (fun t ht=>by obtain⟨u,h1,-⟩:=hcells t ht;rw[Tbs,h1];rfl) (fun t ht=>by rw[Tbs];exact (hcells t ht).choose_spec.2) hZ1
   obtain⟨q,hq⟩:∃ q,n-(i+(n-j))=q+1:=⟨n-(i+(n-j))-1,by omega⟩
   rw[hq]at hZ ⊢
   simp only[Tbs]at hst
   simp[Builtin.clear_,run_underlying t22,pU hi0 hz0,hZ,hst]
  have hW:Hid (W1=w.drew.setCells blk (off+i*K) news):=hW1
  have hn':Hid (news=olds.drop (j*K)):=hnews
  have hic:i<=cap:=by omega
  have hjc:j<=cap:=by omega
  have hK0:Hid (0<K):=hK
  clear hW1 hnews hlen hall1 hall hoc ho1 hol hmul hroom hZ hZl hZ1 hK
  obtain⟨_,_,FG⟩:=L.f45
  go_enter FG,SlBodyN.n45_ntmps ρ
  go_wp2_with fail
  go_region_law_o (refine step_append_room rfl (.tmp 22) (.tmp 25) (ρ.t 22) rfl (ρ.t 23) i0 K t22 hi0 hz1 blk off i cap (by simp[Act.eval,Act.put]) A (n-j) (cap-j) news (by simp[Act.eval,Act.put]) s1.out hsrc.out s2.out (by omega) s3.out ?_;rw[<- hW.out])
  go_wp2
  go_ret
  refine⟨by rw[show n-(j-i)=i+(n-j) by omega];rfl,.inr ⟨hlt,?_⟩⟩
  rw[hW.out,hn'.out]
end
section
open Go.Proofs Go.Shelf
variable {P:Program} {ρ:Ren}
def Fbx (K:Nat):List D->Option (List D)
 |[.rows sz rs,.int .i64 i,.int .i64 j]=>if sz=K/\0<=i/\i<=j/\j<=rs.length/\rs.length<=4611686018427387904/\0<rs.length then some [.rows K (rs.take i.toNat++rs.drop j.toNat)] else none
 |_=>none
def Fbw (K i j:Nat):Ow->Ow
 |.slc 0 (k::p)=>if k / K<i then .slc 0 (k::p) else if k / K<j then .frz else .slc 0 ((k-(j-i)*K)::p)
 |o=>o
theorem Ibc {K i j r c:Nat}{p:List Nat}(hK:0<K)(hc:c<K)(h:r<i):Fbw K i j (.slc 0 ((r*K+c)::p))=.slc 0 ((r*K+c)::p):=by
 have e:(r*K+c) / K=r:=by rw[Wbh,Nat.mul_add_div hK,Wbj hc,Tbs]
 simp only[Fbw]
 rw[e,if_pos h]
theorem Fbv {K i j r c:Nat}{p:List Nat}(hK:0<K)(hc:c<K)(hij:i<=j)(h:i<=r):Fbw K i j (.slc 0 (((r+(j-i))*K+c)::p))=.slc 0 ((r*K+c)::p):=by
 have e:((r+(j-i))*K+c) / K=r+(j-i):=by rw[Wbh,Nat.mul_add_div hK,Wbj hc,Tbs]
 simp only[Fbw]
 rw[e,if_neg (by omega),if_neg (by omega),Ubm]
 congr 2
 omega
theorem Fbu (L:SlLaysE0.n45 P ρ){K m:Nat}{i0:TypeInfo}{z:Value}(hi0:P.info? (ρ.t 23)=some i0)(hz0:i0.zero=some z)(hz1:i0.size=K)(hzs:z.cells.size=K)(hK:0<K)(hzo:∀ u∈z.cells.toList,u.oneCell'=true)
  (z23:∀ w,(Go.sizeOf (ρ.t 23)).run P w=.ok K w):Cb3 P ⟨ρ.f 45,[(false,[.ow (m+1)]),(false,[.sc]),(false,[.sc])],[],[(false,[.ow (m+1)])]⟩ (Fbx K):=by
 intro vals w G ds ds' hpre hr
 unfold Fbx at hr
 split at hr
 case h_2=>cases hr
 rename_i sz rs i j
 split at hr
 case isFalse=>cases hr
 rename_i hc
 obtain⟨rfl,h0,hij,hj,hbig,hpos⟩:=hc
 obtain rfl:=Option.some.inj hr
 obtain⟨u,us,vs,rfl,⟨v,vs',rfl,⟨hv,hrp⟩,rfl⟩,hsh,u2,us2,vs2,rfl,⟨v2,vs3,rfl,hs2,rfl⟩,hsh2,u3,us3,vs4,rfl,⟨v3,vs5,rfl,hs3,rfl⟩,hsh3,hnil⟩:=hpre.params
 simp only[Sbv,if_false]at hsh hsh2 hsh3
 obtain rfl:v=u:=by simpa using hsh
 obtain rfl:v2=u2:=by simpa using hsh2
 obtain rfl:v3=u3:=by simpa using hsh3
 simp only[mZ]at hnil
 subst hnil
 have hs2':Sc v2 (.int .i64 i):=hs2
 have hs3':Sc v3 (.int .i64 j):=hs3
 obtain rfl:=hs2'.int_inv
 obtain rfl:=hs3'.int_inv
 have hrp':Rp G.own w 0 [] (m+1) v (.rows sz rs):=hrp
 obtain⟨A,a,n,c,cv,hval,hn,hcap,hA,hsz,hown,hcell,hrec⟩:=hrp'.sl_inv
 obtain rfl:A=some a:=by
  rcases hA with h|⟨-,h⟩
  ·exact h
  ·omega
 obtain⟨hspot,hob,hcells⟩:=hown rfl
 have hadd:=Bbj hspot
 obtain⟨nm,hnm,hfn⟩:=L.f45
 refine .inl ⟨jF hfn hnm rfl _ _,?_⟩
 have ea:(⟨a.block,a.off,none⟩:Addr)=a:=by
  cases a with
  | mk b o s =>
   obtain rfl:s=none:=hspot
   rfl
 have hrows:=Hap hsz hcell
 have hcl:(qH cv n sz).length=n*sz:=uH _ _ _
 have hgetrow:∀ r,r<n->∃ row,rs[r]?=some row/\row.length=sz:=fun r hr=>by
  have h1:rs[r]?=some (rs[r]'(by omega)):=Sb0 (by omega)
  exact⟨_,h1,hsz _ (Tbg h1)⟩
 have hone:∀ u∈qH cv n sz,u.oneCell'=true:=by
  intro u hu
  obtain⟨k,hk⟩:=List.mem_iff_getElem?.1 hu
  obtain⟨k1,k2,k3,rfl⟩:=Iao hk
  obtain⟨row,h1,h2⟩:=hgetrow _ k1
  have h3:row[k % sz]?=some (row[k % sz]'(by omega)):=Sb0 (by omega)
  exact (hrec _ _ h1 _ _ h3).one
 have hei:((i.toNat:Nat):Int)=i:=by omega
 have hej:((j.toNat:Nat):Int)=j:=by omega
 have hW:=Xan L hi0 hz0 hz1 hzs hK hzo z23 a.block a.off n c i.toNat j.toNat w (qH cv n sz) hcl (fun k u hk=>by rw[<- hadd];exact hrows k u (hn.symm▸hk)) hone (fun k hk=>by rw[<- hadd];exact hcells k hk) hcap (by omega) (by omega) (by omega)
 rw[ea,<- hval,hei,hej]at hW
 refine hW.mono ?_
 rintro e w' ⟨rfl,hw⟩
 rcases hw with ⟨hij',rfl⟩|⟨hlt,hw⟩
 ·
  refine⟨G,[_],rfl,Jac hpre rfl,⟨_,_,_,rfl,⟨_,_,rfl,?_,rfl⟩,rfl,rfl⟩,trivial,trivial⟩
  have e1:rs.take i.toNat++rs.drop j.toNat=rs:=by rw[<- hij'];exact List.take_append_drop _ _
  show Rp G.own w' 0 [] (m+1) (.slice (some a) (n-(j.toNat-i.toNat)) c) (.rows sz (rs.take i.toNat++rs.drop j.toNat))
  rw[e1,show n-(j.toNat-i.toNat)=n by omega,<- hval]
  exact hrp'
 ·generalize hI:i.toNat=I at *
  generalize hJ:j.toNat=J at *
  have hJn:J<=n:=by omega
  generalize hZ:(Builtin.zeroCells z.cells (n-(I+(n-J)))).toList=Z at hw
  have hZl:Z.length=(n-(I+(n-J)))*sz:=by rw[<- hZ];simp[Builtin.zeroCells,hzs]
  have hmul:∀ a b:Nat,a<=b->a*sz<=b*sz:=fun a b h=>Ubl sz h
  have hnl:((qH cv n sz).drop (J*sz)).length=(n-J)*sz:=by rw[Tbx,hcl,Nat.sub_mul]
  generalize hnews:(qH cv n sz).drop (J*sz)=news at hw hnl
  have hroom:I*sz+(n-J)*sz<=c*sz:=by rw[<- Ubm];exact hmul _ _ (by omega)
  have hroom2:(I+(n-J))*sz+(n-(I+(n-J)))*sz<=c*sz:=by rw[<- Ubm];exact hmul _ _ (by omega)
  have hcells':∀ k,k<c*sz->∃ u,w.cell? ⟨a.block,a.off+k,none⟩=some u/\w.frozen? ⟨a.block,a.off+k,none⟩=false:=fun k hk=>by rw[<- hadd];exact hcells k hk
  have hex1:∀ t,t<news.length->(w.drew.cell? ⟨a.block,a.off+I*sz+t,none⟩).isSome=true:=fun t ht=>by
   obtain⟨u,h1,-⟩:=hcells' (I*sz+t) (by omega)
   rw[<- Tbl]at h1
   show (w.cell? _).isSome=true
   rw[h1];rfl
  have hc1:∀ k,k<c*sz->∃ u,(w.drew.setCells a.block (a.off+I*sz) news).cell? ⟨a.block,a.off+k,none⟩=some u/\(w.drew.setCells a.block (a.off+I*sz) news).frozen? ⟨a.block,a.off+k,none⟩=false:=by
   intro k hk
   obtain⟨u,h1,h2⟩:=hcells' k hk
   obtain⟨u',h3⟩:=nD (w:=w.drew) (B:=a.block) (o:=a.off+I*sz) (vs:=news) (b:=⟨a.block,a.off+k,none⟩) (fun _=>rfl) hex1 h1
   exact⟨u',h3,by rw[World.frozen?_setCells];exact h2⟩
  have hex2:∀ t,t<Z.length->((w.drew.setCells a.block (a.off+I*sz) news).cell? ⟨a.block,a.off+(I+(n-J))*sz+t,none⟩).isSome=true:=fun t ht=>by
   obtain⟨u,h1,-⟩:=hc1 ((I+(n-J))*sz+t) (by omega)
   rw[<- Tbl]at h1
   rw[h1];rfl
  have hc2:∀ k,k<c*sz->∃ u,w'.cell? ⟨a.block,a.off+k,none⟩=some u/\w'.frozen? ⟨a.block,a.off+k,none⟩=false:=by
   intro k hk
   obtain⟨u,h1,h2⟩:=hc1 k hk
   rw[hw]
   obtain⟨u',h3⟩:=nD (B:=a.block) (o:=a.off+(I+(n-J))*sz) (vs:=Z) (b:=⟨a.block,a.off+k,none⟩) (fun _=>rfl) hex2 h1
   exact⟨u',h3,by rw[World.frozen?_setCells];exact h2⟩
  have hlow:∀ k u,k<I*sz->w.cell? ⟨a.block,a.off+k,none⟩=some u->w'.cell? ⟨a.block,a.off+k,none⟩=some u:=by
   intro k u hk h1
   have:I*sz<=(I+(n-J))*sz:=hmul _ _ (by omega)
   rw[hw,World.cell?_setCells_out _ _ _ _ _ (fun _ _=>.inl (by dsimp only;omega)),World.cell?_setCells_out _ _ _ _ _ (fun _ _=>.inl (by dsimp only;omega))]
   exact h1
  have hhigh:∀ t u,news[t]?=some u->w'.cell? ⟨a.block,a.off+I*sz+t,none⟩=some u:=by
   intro t u ht
   have htl:=(List.getElem?_eq_some_iff.1 ht).1
   have e1:(I+(n-J))*sz=I*sz+(n-J)*sz:=Ubm _ _ _
   rw[hw,World.cell?_setCells_out _ _ _ _ _ (fun _ _=>.inl (by dsimp only;omega)),World.cell?_setCells_in a.block news (a.off+I*sz) w.drew hex1 t htl,<- ht,Sb0]
  have hheap:∀ b,b≠a.block->w'.heap[b]?=w.heap[b]?:=fun b hb=>by
   rw[hw,eD _ _ _ _ _ hb,eD _ _ _ _ _ hb]
   rfl
  have hsize:w'.heap.size=w.heap.size:=by rw[hw,setCells_size,setCells_size];rfl
  have hrest:w'.os=w.os/\w'.tape=w.tape/\w'.output=w.output:=by
   obtain⟨q1,q2,q3⟩:=kQ a.block Z (a.off+(I+(n-J))*sz) (w.drew.setCells a.block (a.off+I*sz) news)
   obtain⟨p1,p2,p3⟩:=kQ a.block news (a.off+I*sz) w.drew
   rw[hw]
   exact⟨q1.trans p1,q2.trans p2,q3.trans p3⟩
  have hkeepo:∀ b,(∀ p,G.own b≠.slc 0 p)->Fbw sz I J (G.own b)=G.own b:=by
   intro b hb
   cases e:G.own b with
   | slc s p =>
    cases s with
    |zero=>exact absurd e (hb p)
    |succ s=>rfl
   |_=>rfl
  have hz':∀ b,G.own b=.frz->b<w.heap.size->Fbw sz I J (G.own b)=.frz/\w'.heap[b]?=w.heap[b]?:=fun b hb _=>⟨by rw[hb];rfl,hheap b fun e=>by rw[e,hob]at hb;cases hb⟩
  have hsub:∀ {b k:Nat} {p:List Nat},G.own b=.slc 0 (k::p)->w'.heap[b]?=w.heap[b]?:=fun {b k p} hb=>hheap b fun e=>by rw[e,hob]at hb;injection hb with _ hb;cases hb
  refine⟨{ G with own:=fun b=>Fbw sz I J (G.own b) },[_],rfl,⟨hrest.1,hrest.2.1,hrest.2.2,by rw[hsize];exact Sb7 _,fun b hb ho=>?_,fun b q hb ho=>?_,fun b hb=>?_⟩,⟨_,_,_,rfl,⟨_,_,rfl,?_,rfl⟩,rfl,rfl⟩,trivial,trivial⟩
  ·change G.own b=_\/G.own b=_ at ho
   refine⟨hheap b fun e=>?_,hkeepo b fun p e=>?_⟩
   ·rw[e,hob]at ho;rcases ho with h|h<;>cases h
   ·rw[e]at ho;rcases ho with h|h<;>cases h
  ·exact absurd (hpre.cells b q hb ho).1 (Nat.not_lt_zero _)
  ·show Fbw sz I J (G.own b)=.frz
   rw[hpre.fresh b (by omega)];rfl
  ·show Rp (fun b=>Fbw sz I J (G.own b)) w' 0 [] (m+1) (.slice (some a) (n-(J-I)) c) (.rows sz (rs.take I++rs.drop J))
   have hrow:∀ r row,(rs.take I++rs.drop J)[r]?=some row->(r<I/\rs[r]?=some row)\/(I<=r/\rs[r+(J-I)]?=some row):=by
    intro r row hr
    have hl1:(rs.take I).length=I:=by rw[Tbc];omega
    rcases Tbi r I with h|h
    ·rw[List.getElem?_append_left (by omega),List.getElem?_take,if_pos h]at hr
     exact .inl ⟨h,hr⟩
    ·rw[List.getElem?_append_right (by omega),hl1,Tb5,show J+(r-I)=r+(J-I) by omega]at hr
     exact .inr ⟨h,hr⟩
   refine .sl (some a) a _ c sz _ (fun r q=>if r<I then cv r q else cv (r+(J-I)) q) ?_ (by omega) (.inl rfl) (fun row hr=>?_) (fun _=>⟨hspot,?_,fun k hk=>?_⟩) (fun r row hr q d hq=>?_) (fun r row hr q d hq=>?_)
   ·rw[List.length_append,Tbc,Tbx];omega
   ·rcases List.mem_append.1 hr with h|h
    ·exact hsz row (List.mem_of_mem_take h)
    ·exact hsz row (Vbe h)
   ·rw[hob];rfl
   ·rw[hadd];exact hc2 k hk
   ·rcases hrow r row hr with ⟨h,h1⟩|⟨h,h1⟩
    ·rw[if_pos h]
     have hql:q<sz:=by rw[<- hsz row (Tbg h1)];exact (List.getElem?_eq_some_iff.1 hq).1
     have h2:=hcell r row h1 q d hq
     rw[hadd]at h2 ⊢
     refine hlow _ _ ?_ h2
     have:=hmul (r+1) I (by omega)
     rw[Ubm]at this
     omega
    ·rw[if_neg (by omega)]
     have hql:q<sz:=by rw[<- hsz row (Tbg h1)];exact (List.getElem?_eq_some_iff.1 hq).1
     have hrl:r+(J-I)<n:=by rw[<- hn];exact (List.getElem?_eq_some_iff.1 h1).1
     have h3:news[(r-I)*sz+q]?=some (cv (r+(J-I)) q):=by
      rw[<- hnews,Tb5,show J*sz+((r-I)*sz+q)=(r+(J-I))*sz+q by rw[<- Tbl,<- Ubm];congr 2;omega]
      exact Ca3 cv hrl hql
     have:=hhigh _ _ h3
     rw[show a.off+I*sz+((r-I)*sz+q)=a.off+(r*sz+q) by rw[Tbl,<- Tbl (I*sz),<- Ubm];congr 3;omega,<- hadd]at this
     exact this
   ·rcases hrow r row hr with ⟨h,h1⟩|⟨h,h1⟩
    ·rw[if_pos h]
     have hql:q<sz:=by rw[<- hsz row (Tbg h1)];exact (List.getElem?_eq_some_iff.1 hq).1
     have:=(hrec r row h1 q d hq).mono' (own':=fun b=>Fbw sz I J (G.own b)) (w':=w') (r':=0) (q:=[r*sz+q]) (q':=[r*sz+q]) hz' [] (by simp) (fun b t hb=>⟨by rw[hb];exact Ibc hK hql h,hsub hb⟩)
     simpa using this
    ·rw[if_neg (by omega)]
     have hql:q<sz:=by rw[<- hsz row (Tbg h1)];exact (List.getElem?_eq_some_iff.1 hq).1
     have:=(hrec _ row h1 q d hq).mono' (own':=fun b=>Fbw sz I J (G.own b)) (w':=w') (r':=0) (q:=[(r+(J-I))*sz+q]) (q':=[r*sz+q]) hz' [] (by simp) (fun b t hb=>⟨by rw[hb];exact Fbv hK hql (by omega) h,hsub hb⟩)
     simpa using this
def Xa3 (P:Program)(t:TypeId):Bool:=match P.info? t with
 | some i => match i.zero with
  |some z=>z.cells.toList.all fun u=>u.oneCell'
  |none=>true
 |none=>true
theorem Iah (L:SlLaysE0.n45 P ρ){K m f key:Nat}{T:Nat->Ent}{ti:Nat->Option TI}{sigs:List (Nat×Sig)}(hf:ρ.f 45=f)(h:Ga4 P (ρ.t 23)=some K)(z23:∀ w,(Go.sizeOf (ρ.t 23)).run P w=.ok K w)
  (hz1:Xa3 P (ρ.t 23)=true) (hT:T key=.ext (Fbx K)) :
  Nae P T ti sigs key ⟨f,[(false,[.ow (m+1)]),(false,[.sc]),(false,[.sc])],[],[(false,[.ow (m+1)])]⟩:=by
 subst hf
 unfold Ga4 at h
 split at h
 ·rename_i i hi
  split at h
  ·rename_i z hz
   split at h
   ·rename_i h1
    cases h
    have h2:(z.cells.toList.all fun u=>u.oneCell')=true:=by
     unfold Xa3 at hz1
     rw[hi]at hz1
     dsimp only at hz1
     rw[hz]at hz1
     exact hz1
    rw[Tbp]at h2
    exact .inr ⟨_,hT,Fbu L hi hz rfl h1.1 h1.2 h2 z23⟩
   ·cases h
  ·cases h
 ·cases h
end
end Go.Proofs.YtpgnlmfmlffjcaaGreat.Rf

namespace Go.Proofs.YtpgnlmfmlffjcaaGreat.Rf
set_option linter.unusedVariables false
set_option linter.unusedSimpArgs false
class Enc (α:Type) where
 sz:Nat
 enc:α->List D
 len:∀ a,(enc a).length=sz
instance:Enc Int:=⟨1,fun n=>[i64 n],fun _=>rfl⟩
instance:Enc Bool:=⟨1,fun b=>[.bool b],fun _=>rfl⟩
instance:Enc (List UInt8):=⟨1,fun s=>[.str s],fun _=>rfl⟩
def rL {α:Type}[Enc α](xs:List α):D:=.rows (Enc.sz α) (xs.map Enc.enc)
instance {α:Type} [Enc α]:Enc (List α):=⟨1,fun xs=>[rL xs],fun _=>rfl⟩
def InB {α:Type}(xs:List α)(k:Int):Prop:=0<=k/\k<xs.length
def atI {α:Type}[Inhabited α](xs:List α)(k:Int):α:=xs.getD k.toNat default
def dB {α:Type}(xs:List α)(k:Int)(a:α):List α:=xs.set k.toNat a
theorem aG {α:Type}{xs:List α}{i:Nat}:InB xs (i:Int)↔i<xs.length:=by unfold InB;omega
theorem wM {α:Type}[Inhabited α]{xs:List α}{i:Nat}:atI xs (i:Int)=xs.getD i default:=rfl
theorem bC {α:Type}[Inhabited α]{xs:List α}{i:Nat}(h:i<xs.length):atI xs (i:Int)=xs[i]:=by
 rw[wM,Sb4,Sb0 h];rfl
theorem InB.lt {α:Type}{xs:List α}{k:Int}(h:InB xs k):k.toNat<xs.length:=by unfold InB at h;omega
def tick:Nat:=0
def Sbc:Nat:=0
def nI {γ:Type}(c:Bool)(a b:γ):γ:=match c with
 |true=>a
 |false=>b
theorem Cbk {γ:Type}{a b:γ}:nI true a b=a:=rfl
theorem Xah {γ:Type}{a b:γ}:nI false a b=b:=rfl
@[congr] theorem Nbf {γ:Type} {c c':Bool} {a b:γ} (h:c=c') {dd:Nat} (hd:tick=dd):nI c a b=nI c' a b:=by rw[h]
theorem aA {γ:Type}{c:Bool}{a b r:γ}(h1:c=true->a=r)(h2:c=false->b=r):nI c a b=r:=by
 cases c with
 |true=>exact h1 rfl
 |false=>exact h2 rfl
section
variable {T:Nat->Ent} {β:Type}
@[congr] theorem Qb1 {t:Tm β} {ρ ρ':List D} (h:ρ=ρ') {dd:Nat} (hd:tick=dd):Er T t ρ=Er T t ρ':=by rw[h]
@[congr] theorem Mbi {k:Tm β} {ρ ρ':List D} {n:Nat} {a a':Option (List D)} (h:ρ=ρ') (h2:a=a') {dd:Nat} (hd:tick=dd):stepT T k ρ n a=stepT T k ρ' n a':=by rw[h,h2]
@[congr] theorem Mbd {i:Nat} {k:Tm β} {ρ ρ':List D} {r r':Option (Kind×List D)} (h:ρ=ρ') (h2:r=r') {dd:Nat} (hd:tick=dd):tL T i k ρ r=tL T i k ρ' r':=by rw[h,h2]
@[congr] theorem Ob4 {p:aN} {xs xs':List D} (h:xs=xs') {dd:Nat} (hd:tick=dd):p.run xs=p.run xs':=by rw[h]
def nth:List D->Nat->D
 |[],_=>.undef
 |a::_,0=>a
 |_::r,n+1=>nth r n
theorem Rbl {a:D}{r:List D}:nth (a::r) 0=a:=rfl
theorem Rbk {a:D}{r:List D}{n:Nat}:nth (a::r) (n+1)=nth r n:=rfl
theorem Abs (r:List D)(n:Nat):r.getD n .undef=nth r n:=by
 induction r generalizing n with
 |nil=>rfl
 | cons a r ih => cases n with
  |zero=>rfl
  |succ n=>exact ih n
def vals (ρ:List D):List aO->List D
 |[]=>[]
 |.v i::r=>nth ρ i::vals ρ r
 |.c d::r=>d::vals ρ r
@[congr] theorem Nb7 {ρ ρ':List D} {xs:List aO} (h:ρ=ρ') {dd:Nat} (hd:tick=dd):vals ρ xs=vals ρ' xs:=by rw[h]
theorem Ba8 (ρ:List D)(xs:List aO):xs.map (·.val ρ)=vals ρ xs:=by
 induction xs with
 |nil=>rfl
 | cons x xs ih =>
  rw[Tbn,ih]
  cases x with
  |v i=>show ρ.getD i .undef::_=_;rw[Abs];rfl
  |c d=>rfl
theorem Obe {ρ:List D}:vals ρ []=[]:=rfl
theorem Obd {ρ:List D}{i:Nat}{r:List aO}:vals ρ (.v i::r)=nth ρ i::vals ρ r:=rfl
theorem Obf {ρ:List D}{d:D}{r:List aO}:vals ρ (.c d::r)=d::vals ρ r:=rfl
def Bbp (ρ:List D):aO->D
 |.v i=>nth ρ i
 |.c d=>d
theorem Obg {ρ:List D}{i:Nat}:Bbp ρ (.v i)=nth ρ i:=rfl
theorem Obh {ρ:List D}{d:D}:Bbp ρ (.c d)=d:=rfl
theorem Pap (ρ:List D)(a:aO):a.val ρ=Bbp ρ a:=by
 cases a with
 |v i=>exact Abs ρ i
 |c d=>rfl
@[congr] theorem Nb8 {ρ ρ':List D} {a:aO} (h:ρ=ρ') {dd:Nat} (hd:tick=dd):Bbp ρ a=Bbp ρ' a:=by rw[h]
theorem Nb3 (k:Kind)(xs:List aO)(e:β)(ρ:List D):Er T (.leaf k xs e) ρ=some (k,vals ρ xs):=by rw[Nb1,Ba8]
theorem Rbz (p:aN)(xs:List aO)(n:Nat)(k:Tm β)(ρ:List D):Er T (.lt none p xs n k) ρ=stepT T k ρ n (p.run (vals ρ xs)):=by rw[Qbo,Ba8]
theorem Nb4 (f:Nat)(xs:List aO)(n:Nat)(os:List aO)(k:Tm β)(ρ:List D):Er T (.call none f xs n os k) ρ=stepT T k ρ n (Fun T f (vals ρ xs)):=by rw[Iby,Ba8]
def Ead (w:Bool)(a b:Option (Kind×List D))(c:D):Option (Kind×List D):=if gdR c w=true then a else b
@[congr] theorem Nbd {w:Bool} {a b:Option (Kind×List D)} {c c':D} (h:c=c') {dd:Nat} (hd:tick=dd):Ead w a b c=Ead w a b c':=by rw[h]
theorem Nbb {a b:Option (Kind×List D)}{c:Bool}:Ead true a b (.bool c)=nI c a b:=by cases c<;>rfl
theorem Nbc {a b:Option (Kind×List D)}{c:Bool}:Ead false a b (.bool c)=nI c b a:=by cases c<;>rfl
theorem Nba {w:Bool}{a b:Option (Kind×List D)}:Ead w a b .undef=b:=by simp[Ead,gdR]
theorem Qbq (a:aO)(w:Bool)(p:aN)(xs:List aO)(n:Nat)(k:Tm β)(ρ:List D) :
  Er T (.lt (some (a,w)) p xs n k) ρ=Ead w (stepT T k ρ n (p.run (vals ρ xs))) (Er T k (ρ++Sb1 n .undef)) (Bbp ρ a):=by
 rw[Qbn,ltT,Ead,Ba8,Pap]
theorem Ibz (a:aO)(w:Bool)(f:Nat)(xs:List aO)(n:Nat)(os:List aO)(k:Tm β)(ρ:List D) :
  Er T (.call (some (a,w)) f xs n os k) ρ=Ead w (stepT T k ρ n (Fun T f (vals ρ xs))) (Er T k (ρ++(Sb1 (n-os.length) .undef++vals ρ os))) (Bbp ρ a):=by
 rw[Ibx,Nbo,Ead,Ba8,Ba8,Pap]
def Va7 {γ:Type}(a b:Option γ)(c:D):Option γ:=Rb7 c a b
@[congr] theorem Mbe {γ:Type} {a b:Option γ} {c c':D} (h:c=c') {dd:Nat} (hd:tick=dd):Va7 a b c=Va7 a b c':=by rw[h]
theorem Mbf {γ:Type}{a b:Option γ}{c:Bool}:Va7 a b (.bool c)=nI c a b:=by cases c<;>rfl
theorem Qbr (c:aO)(t e:Tm β)(ρ:List D):Er T (.ite c t e) ρ=Va7 (Er T t ρ) (Er T e ρ) (Bbp ρ c):=by rw[Qbp,Rbn,Va7,Pap]
theorem Nb5 (i:Nat)(t k:Tm β)(ρ:List D):Er T (.bind i t k) ρ=tL T i k ρ (Er T t ρ):=Nb2 i t k ρ
theorem Bbr {i:Nat}{k:Tm β}{ρ:List D}{c:Bool}{a b:Option (Kind×List D)}:tL T i k ρ (nI c a b)=nI c (tL T i k ρ a) (tL T i k ρ b):=by cases c<;>rfl
theorem Va6 {i j:Nat}{k:Tm β}{ρ ds:List D}:tL T i k ρ (some (.yield j,ds))=if j=i then Er T k (ρ++ds) else some (.yield j,ds):=by
 by_cases h:j=i
 ·subst h;rw[Bbq,if_pos rfl]
 ·rw[Gb5 h,if_neg h]
noncomputable def fin (o:Option (Kind×List D)):Option (List D):=o.bind Rb2
theorem Hby {c:Bool}{a b:Option (Kind×List D)}:fin (nI c a b)=nI c (fin a) (fin b):=by cases c<;>rfl
theorem Nbg {ds:List D}:fin (some (.ret,ds))=some ds:=rfl
theorem aJ {f:Nat}{t:Tm Unit}(h:T f=.tm t)(args:List D):Fun T f args=fin (Er T t args):=Rby h args
theorem Rbt {ρ:List D}:ρ++[]=ρ:=List.append_nil ρ
theorem Rbu {a:D}{r s:List D}:(a::r)++s=a::(r++s):=rfl
theorem Rbv {s:List D}:[]++s=s:=rfl
theorem Mbh {k:Tm β}{ρ ds:List D}{n:Nat}:stepT T k ρ n (some ds)=if ds.length=n then Er T k (ρ++ds) else none:=rfl
end
section
variable {α:Type} [Enc α]
theorem Ob7 {xs:List α}:aN.len.run [rL xs]=some [i64 xs.length]:=by simp[rL,aN.run]
theorem Lbi {xs:List α}{k:Int}(h:InB xs k):aN.inb.run [rL xs,i64 k]=some []:=by
 unfold InB at h
 simp only[rL,aN.run,Sb5]
 rw[if_pos ⟨h.1,h.2⟩]
def rowOf (off:Nat)(ks:List Bool)(r:List D):Option (List D):=if off+ks.length<=r.length/\Ha2 ks (r.drop off)=true then some ((r.drop off).take ks.length) else none
theorem gH [Inhabited α]{xs:List α}{k:Int}{sz off:Nat}{ks:List Bool}(hs:Enc.sz α=sz)(h:InB xs k):(aN.row sz off ks).run [rL xs,i64 k]=rowOf off ks (Enc.enc (atI xs k)):=by
 have h2:=h.lt
 unfold InB at h
 subst hs
 have e:xs[k.toNat]?=some (atI xs k):=by
  rw[Sb0 h2,atI,Sb4,Sb0 h2];rfl
 simp only[rL,aN.run,Tbo,e,Ubd]
 simp only[true_and]
 rw[if_pos h.1]
 rfl
theorem iK [Inhabited α]{xs:List α}{k:Int}{sz off n:Nat}{vs:List D}{a:α}(hs:Enc.sz α=sz)(hl:vs.length=n)(ho:off+n<=sz)(ha:Enc.enc a=(Enc.enc (atI xs k)).take off++vs++(Enc.enc (atI xs k)).drop (off+n))(h:InB xs k) :
  (aN.set sz off n).run (rL xs::i64 k::vs)=some [rL (dB xs k a)]:=by
 have h2:=h.lt
 unfold InB at h
 subst hs
 have e:xs[k.toNat]?=some (atI xs k):=by
  rw[Sb0 h2,atI,Sb4,Sb0 h2];rfl
 simp only[rL,aN.run,Tbo,e,Ubd]
 simp only[true_and]
 rw[if_pos h.1,if_pos ⟨by rw[Enc.len];exact ho,hl⟩,<- ha,dB,List.map_set]
theorem uR {b:Nat}{n:Int}{zero:List D}{a:α}(ha:Enc.enc a=zero)(h:0<=n)(h2:n.toNat*b<=dF):(aN.make b zero).run [i64 n]=some [rL (Sb1 n.toNat a)]:=by
 simp only[aN.run]
 rw[if_pos ⟨h,h2⟩,rL,List.map_replicate,ha,<- Enc.len a,ha]
theorem Ta5 {sz:Nat}{vs:List D}{a:α}(hs:Enc.sz α=sz)(ha:Enc.enc a=vs):(aN.mk sz 1).run vs=some [rL [a]]:=by
 subst hs;subst ha
 have:=Enc.len a
 simp[rL,aN.run,chunk,this,List.take_of_length_le (Nat.le_of_eq this)]
theorem tF {sz b:Nat}{fl:Bool}{xs ys:List α}(hs:Enc.sz α=sz)(hf:fl=true->∀ a:α,(Enc.enc a).all D.isSc=true)(h:(xs.length+ys.length)*b<=dF):(aN.app sz b fl).run [rL xs,rL ys]=some [rL (xs++ys)]:=by
 subst hs
 have hall:(!fl||(xs.map Enc.enc++ys.map Enc.enc).all fun r=>r.all D.isSc)=true:=by
  cases fl with
  |false=>rfl
  | true =>
   rw[Ub0,Vbu,<- Tby,List.all_map,Tbp]
   exact fun a _=>hf rfl a
 simp only[rL,aN.run,Sb5]
 rw[if_pos ⟨trivial,trivial,hall,h⟩,<- Tby]
theorem oJ {sz b:Nat}{fl:Bool}{ys:List α}(hs:Enc.sz α=sz)(hf:fl=true->∀ a:α,(Enc.enc a).all D.isSc=true)(h:ys.length*b<=dF):(aN.app sz b fl).run [.rows sz [],rL ys]=some [rL ys]:=by
 have:=tF (xs:=[]) (ys:=ys) (b:=b) hs hf (by simpa using h)
 subst hs
 exact this
theorem uQ {sz:Nat}{fl:Bool}{xs:List α}{lo hi:Int}(hs:Enc.sz α=sz)(hf:fl=true->∀ a:α,(Enc.enc a).all D.isSc=true)(h0:0<=lo)(h1:lo<=hi)(h2:hi<=xs.length):(aN.sub sz fl).run [rL xs,i64 lo,i64 hi]=some [rL ((xs.take hi.toNat).drop lo.toNat)]:=by
 subst hs
 have hall:(!fl||(xs.map Enc.enc).all fun r=>r.all D.isSc)=true:=by
  cases fl with
  |false=>rfl
  | true =>
   rw[Ub0,Vbu,List.all_map,Tbp]
   exact fun a _=>hf rfl a
 simp only[rL,aN.run,Sb5]
 rw[if_pos ⟨trivial,hall,h0,h1,h2⟩,<- List.map_take,<- List.map_drop]
theorem Eba {xs:List α}:aN.emp.run [rL xs]=some [.bool xs.isEmpty]:=by simp[rL,aN.run]
theorem Mbx {x:α}{xs:List α}:aN.ne.run [rL (x::xs)]=some []:=by simp[rL,aN.run]
class Fits (α:Type) [Enc α] (m:Nat):Prop where
 fits:∀ a:α,(Enc.enc a).all (vD m)=true
theorem Ob8 {m:Nat}[Fits α m]{xs:List α}:(aN.dep (m+1)).run [rL xs]=some []:=by
 have:vD (m+1) (rL xs)=true:=by
  unfold rL
  simp only[vD,List.all_map,Tbp]
  intro a _
  exact Fits.fits a
 simp only[aN.run,this,if_true]
end
instance {m:Nat}:Fits Int m:=⟨fun a=>by cases m<;>rfl⟩
instance {m:Nat}:Fits Bool m:=⟨fun a=>by cases m<;>rfl⟩
instance {m:Nat}:Fits (List UInt8) m:=⟨fun a=>by cases m<;>rfl⟩
theorem Qa8 {α:Type}[Enc α]{m:Nat}[Fits α m](xs:List α):vD (m+1) (rL xs)=true:=by
 unfold rL
 simp only[vD,List.all_map,Tbp]
 intro a _
 exact Fits.fits a
instance {α:Type} [Enc α] {m:Nat} [Fits α m]:Fits (List α) (m+1):=⟨fun xs=>by
 show [rL xs].all (vD (m+1))=true
 simp[Qa8]⟩
theorem Hbc {a b:Int}:aN.min.run [i64 a,i64 b]=some [i64 (min a b)]:=by
 simp only[aN.run,Qa4,Pb0,if_true,Sb6,Ubd]
 congr 3
 by_cases h:b<a
 ·rw[if_pos (by simpa using h)];omega
 ·rw[if_neg (by simpa using h)];omega
theorem Hbe {a b:Int}:aN.max.run [i64 a,i64 b]=some [i64 (max a b)]:=by
 simp only[aN.run,Qa4,Pb0,if_true,Sb6,Ubd]
 congr 3
 by_cases h:b>a
 ·rw[if_pos (by simpa using h)];omega
 ·rw[if_neg (by simpa using h)];omega
theorem yS {a b:Int}(h1:-9223372036854775808<=a*b)(h2:a*b<=9223372036854775807):(aN.bin .mul).run [i64 a,i64 b]=some [i64 (a*b)]:=by simp[aN.run,Paf,Baj,wrap_i64 h1 h2]
theorem Bbt {a b:Int}(ha:-9223372036854775808<=a)(ha':a<=9223372036854775807)(hb:0<b):-9223372036854775808<=a.tdiv b/\a.tdiv b<=9223372036854775807:=by
 rcases Int.le_total 0 a with h|h
 ·have h1:=Int.tdiv_nonneg h (Int.le_of_lt hb)
  have h2:=Int.tdiv_le_self b h
  omega
 ·have h1:(-a).tdiv b=-(a.tdiv b):=Int.neg_tdiv ..
  have h2:=Int.tdiv_nonneg (show 0<=-a by omega) (Int.le_of_lt hb)
  have h3:=Int.tdiv_le_self b (show 0<=-a by omega)
  omega
theorem Hbb {a b:Int}(ha:0<=a)(ha':a<=9223372036854775807)(hb:0<b):(aN.bin .quo).run [i64 a,i64 b]=some [i64 (a / b)]:=by
 have h:=Bbt (by omega) ha' hb
 have hb':¬ b=0:=by omega
 rw[<- Int.tdiv_eq_ediv_of_nonneg ha]
 simp only[aN.run,Paf,Baj,if_true,if_neg hb',Ubd,wrap_i64 h.1 h.2]
theorem Hba {a b:Int}(ha:0<=a)(hb:0<b):(aN.bin .rem).run [i64 a,i64 b]=some [i64 (a % b)]:=by
 have hb':¬ b=0:=by omega
 simp only[aN.run,Paf,Baj,if_true,if_neg hb',Ubd,Int.tmod_eq_emod_of_nonneg ha]
theorem Ua8:∀ xs ys:List Int,xs.length=ys.length->Vaz (Sb1 xs.length 0) (xs.map i64) (ys.map i64)=some (decide (xs=ys))
 |[],[],_=>rfl
 | x :: xs, y :: ys, h => by
  have ih:=Ua8 xs ys (by simpa using h)
  simp only[Sbw,List.replicate_succ,Tbn,Vaz,eqD,if_true,Sb6,ih,List.cons.injEq,Bool.decide_and]
  by_cases e:x=y
  ·simp[e]
  ·simp[e]
theorem Bba {p:Prop}[Decidable p](xs ys:List Int)(h:xs.length=ys.length)(hp:p↔xs=ys):(Vaz (Sb1 xs.length 0) (xs.map i64) (ys.map i64)).map (fun b=>[D.bool b])=some [.bool (decide p)]:=by
 rw[Ua8 xs ys h,Ubd,decide_eq_decide.2 hp]
theorem Qbc (i:Nat):((i+1:Nat):Int)=(i:Int)+1:=rfl
theorem SA:(∀ {T β} (k:Kind) (xs:List aO) (e:β) (ρ:List D),Er T (.leaf k xs e) ρ=some (k,vals ρ xs)) /\
  (∀ {T} {β:Type} (p:aN) (xs:List aO) (n:Nat) (k:Tm β) (ρ:List D),Er T (.lt none p xs n k) ρ=stepT T k ρ n (p.run (vals ρ xs))) /\
  (∀ {T} {β:Type} (f:Nat) (xs:List aO) (n:Nat) (os:List aO) (k:Tm β) (ρ:List D),Er T (.call none f xs n os k) ρ=stepT T k ρ n (Fun T f (vals ρ xs))) /\
  (∀ {T} {β:Type} (c:aO) (t e:Tm β) (ρ:List D),Er T (.ite c t e) ρ=Va7 (Er T t ρ) (Er T e ρ) (Bbp ρ c)) /\
  (∀ {T} {β:Type} (i:Nat) (t k:Tm β) (ρ:List D),Er T (.bind i t k) ρ=tL T i k ρ (Er T t ρ)) /\
  (∀ {T} {β:Type} (a:aO) (w:Bool) (p:aN) (xs:List aO) (n:Nat) (k:Tm β) (ρ:List D),
   Er T (.lt (some (a,w)) p xs n k) ρ=Ead w (stepT T k ρ n (p.run (vals ρ xs))) (Er T k (ρ++Sb1 n .undef)) (Bbp ρ a)) /\
  (∀ {T} {β:Type} (a:aO) (w:Bool) (f:Nat) (xs:List aO) (n:Nat) (os:List aO) (k:Tm β) (ρ:List D),
   Er T (.call (some (a,w)) f xs n os k) ρ=Ead w (stepT T k ρ n (Fun T f (vals ρ xs))) (Er T k (ρ++(Sb1 (n-os.length) .undef++vals ρ os))) (Bbp ρ a)) :=
 ⟨Nb3,Rbz,Nb4,Qbr,Nb5,Qbq,Ibz⟩
theorem SB:(tick=Sbc)/\(∀ {γ:Type} {c:Bool} {a b:γ},nI (!c) a b=nI c b a)/\(∀ {a b:Option (Kind×List D)} {c:Bool},Ead true a b (.bool c)=nI c a b)/\(∀ {a b:Option (Kind×List D)} {c:Bool},Ead false a b (.bool c)=nI c b a) /\
  (∀ {w:Bool} {a b:Option (Kind×List D)},Ead w a b .undef=b)/\(∀ {γ:Type} {a b:Option γ} {c:Bool},Va7 a b (.bool c)=nI c a b) /\
  (∀ {T} {β:Type} {i:Nat} {k:Tm β} {ρ:List D} {c:Bool} {a b:Option (Kind×List D)},tL T i k ρ (nI c a b)=nI c (tL T i k ρ a) (tL T i k ρ b)) /\
  (∀ {T} {β:Type} {i j:Nat} {k:Tm β} {ρ ds:List D},tL T i k ρ (some (.yield j,ds))=if j=i then Er T k (ρ++ds) else some (.yield j,ds)) /\
  (∀ {T} {β:Type} {i:Nat} {k:Tm β} {ρ ds:List D},tL T i k ρ (some (.ret,ds))=some (.ret,ds))/\(∀ {T} {β:Type} {i:Nat} {k:Tm β} {ρ ds:List D},tL T i k ρ (some (.cont,ds))=some (.cont,ds)) /\
  (∀ {c:Bool} {a b:Option (Kind×List D)},fin (nI c a b)=nI c (fin a) (fin b))/\(∀ {ds:List D},fin (some (.ret,ds))=some ds) /\
  (∀ {γ:Type} {a b:γ},nI true a b=a)/\(∀ {γ:Type} {a b:γ},nI false a b=b) :=
 ⟨rfl,by intro γ c a b;cases c<;>rfl,Nbb,Nbc,Nba,Mbf,Bbr,Va6,Dbh,Bbs,Hby,Nbg,Cbk,Xah⟩
theorem SC:(∀ {a:D} {r:List D},nth (a::r) 0=a)/\(∀ {a:D} {r:List D} {n:Nat},nth (a::r) (n+1)=nth r n) /\
  (∀ {ρ:List D},vals ρ []=[])/\(∀ {ρ:List D} {i:Nat} {r:List aO},vals ρ (.v i::r)=nth ρ i::vals ρ r)/\(∀ {ρ:List D} {d:D} {r:List aO},vals ρ (.c d::r)=d::vals ρ r) /\
  (∀ {ρ:List D} {i:Nat},Bbp ρ (.v i)=nth ρ i)/\(∀ {ρ:List D} {d:D},Bbp ρ (.c d)=d) /\
  (∀ {ρ:List D},ρ++[]=ρ)/\(∀ {a:D} {r s:List D},(a::r)++s=a::(r++s))/\(∀ {s:List D},[]++s=s) /\
  (∀ {T} {β:Type} {k:Tm β} {ρ ds:List D} {n:Nat},stepT T k ρ n (some ds)=if ds.length=n then Er T k (ρ++ds) else none) /\
  (∀ {α:Type} {a:α} {l:List α},(a::l).length=l.length+1)/\(∀ {α:Type},([]:List α).length=0)/\(∀ {α:Type} {x:α} {n:Nat},Sb1 (n+1) x=x::Sb1 n x)/\(∀ {α:Type} {x:α},Sb1 0 x=[]) :=
 ⟨Rbl,Rbk,Obe,Obd,Obf,Obg,Obh,Rbt,Rbu,Rbv,Mbh,Sbw,List.length_nil,List.replicate_succ,List.replicate_zero⟩
theorem SP:(∀ {a b:Int},(aN.bin .lss).run [i64 a,i64 b]=some [.bool (decide (a<b))])/\(∀ {a b:Int},(aN.bin .gtr).run [i64 a,i64 b]=some [.bool (decide (b<a))]) /\
  (∀ {a b:Int},(aN.bin .leq).run [i64 a,i64 b]=some [.bool (decide (a<=b))])/\(∀ {a b:Int},(aN.bin .geq).run [i64 a,i64 b]=some [.bool (decide (b<=a))]) /\
  (∀ {a b:Int},(aN.bin .neq).run [i64 a,i64 b]=some [.bool (!(a==b))])/\(∀ {a b:Int},(aN.bin .eql).run [i64 a,i64 b]=some [.bool (a==b)]) /\
  (∀ {b:Bool},aN.not.run [.bool b]=some [.bool (!b)])/\(∀ {c:Bool} {a b:D},aN.pick.run [.bool c,a,b]=some [nI c a b])/\(∀ {a b:Bool},(aN.eqb true).run [.bool a,.bool b]=some [.bool (!(a==b))])/\(∀ {a b:Bool},(aN.eqb false).run [.bool a,.bool b]=some [.bool (a==b)]) /\
  (∀ {d:D},aN.id.run [d]=some [d])/\(∀ {α:Type} [Enc α] {xs:List α},aN.len.run [rL xs]=some [i64 xs.length]) /\
  (∀ {α:Type} [Enc α] {xs:List α} {k:Int},InB xs k->aN.inb.run [rL xs,i64 k]=some []) /\
  (∀ {a b:Int},aN.min.run [i64 a,i64 b]=some [i64 (min a b)])/\(∀ {a b:Int},aN.max.run [i64 a,i64 b]=some [i64 (max a b)]) /\
  (∀ {α:Type} [Enc α] {m:Nat} [Fits α m] {xs:List α},(aN.dep (m+1)).run [rL xs]=some []) :=
 ⟨Mbn,Mbp,Mbo,Mbq,Mbm,Mbr,Mbl,by intro c a b;cases c<;>rfl,Mbs,rfl,Ob3,Ob7,Lbi,Hbc,Hbe,Ob8⟩
end Go.Proofs.YtpgnlmfmlffjcaaGreat.Rf

namespace Go.Proofs.YtpgnlmfmlffjcaaGreat.Rf
set_option linter.unusedVariables false
set_option maxRecDepth 4000
structure oN where
 kind:Int
 id:Int
 src:Int
 dst:Int
 amt:Int
 deriving DecidableEq
instance:Inhabited oN:=⟨⟨0,0,0,0,0⟩⟩
instance:Enc oN:=⟨5,fun x=>[i64 x.kind,i64 x.id,i64 x.src,i64 x.dst,i64 x.amt],fun _=>rfl⟩
instance {m:Nat}:Fits oN m:=⟨fun x=>by cases m<;>rfl⟩
structure iN where
 seq:Int
 deps:(List Int)
 deriving DecidableEq
instance:Inhabited iN:=⟨⟨0,[]⟩⟩
instance:Enc iN:=⟨2,fun x=>[i64 x.seq,rL x.deps],fun _=>rfl⟩
theorem Fbr (x:iN):Enc.enc x=[i64 x.seq,rL x.deps]:=rfl
instance {m:Nat}:Fits iN (m+1):=⟨fun x=>by
 rw[Fbr]
 simp only[Vb9,List.all_nil,Ub8,Sbu]
 refine⟨?_,?_⟩
 all_goals first|rfl|exact Qa8 _⟩
structure aY where
 ballot:Int
 vote:Int
 state:Int
 cmd:oN
 attr:iN
 deriving DecidableEq
instance:Inhabited aY:=⟨⟨0,0,0,default,default⟩⟩
instance:Enc aY:=⟨10,fun x=>[i64 x.ballot,i64 x.vote,i64 x.state,i64 x.cmd.kind,i64 x.cmd.id,i64 x.cmd.src,i64 x.cmd.dst,i64 x.cmd.amt,i64 x.attr.seq,rL x.attr.deps],fun _=>rfl⟩
theorem Iba (x:aY):Enc.enc x=[i64 x.ballot,i64 x.vote,i64 x.state,i64 x.cmd.kind,i64 x.cmd.id,i64 x.cmd.src,i64 x.cmd.dst,i64 x.cmd.amt,i64 x.attr.seq,rL x.attr.deps]:=rfl
instance {m:Nat}:Fits aY (m+1):=⟨fun x=>by
 rw[Iba]
 simp only[Vb9,List.all_nil,Ub8,Sbu]
 refine⟨?_,?_,?_,?_,?_,?_,?_,?_,?_,?_⟩
 all_goals first|rfl|exact Qa8 _⟩
structure aM where
 n:Int
 rows:(List (List aY))
 deriving DecidableEq
instance:Inhabited aM:=⟨⟨0,[]⟩⟩
instance:Enc aM:=⟨2,fun x=>[i64 x.n,rL x.rows],fun _=>rfl⟩
theorem Cbs (x:aM):Enc.enc x=[i64 x.n,rL x.rows]:=rfl
instance {m:Nat}:Fits aM (m+3):=⟨fun x=>by
 rw[Cbs]
 simp only[Vb9,List.all_nil,Ub8,Sbu]
 refine⟨?_,?_⟩
 all_goals first|rfl|exact Qa8 _⟩
structure lT where
 code:Int
 sum:Int
 deriving DecidableEq
instance:Inhabited lT:=⟨⟨0,0⟩⟩
instance:Enc lT:=⟨2,fun x=>[i64 x.code,i64 x.sum],fun _=>rfl⟩
instance {m:Nat}:Fits lT m:=⟨fun x=>by cases m<;>rfl⟩
structure bV where
 rep:Int
 no:Int
 cmd:oN
 told:lT
 deriving DecidableEq
instance:Inhabited bV:=⟨⟨0,0,default,default⟩⟩
instance:Enc bV:=⟨9,fun x=>[i64 x.rep,i64 x.no,i64 x.cmd.kind,i64 x.cmd.id,i64 x.cmd.src,i64 x.cmd.dst,i64 x.cmd.amt,i64 x.told.code,i64 x.told.sum],fun _=>rfl⟩
instance {m:Nat}:Fits bV m:=⟨fun x=>by cases m<;>rfl⟩
theorem Qbf:(∀ x:oN,oN.mk x.kind x.id x.src x.dst x.amt=x) /\
  (∀ x:iN,iN.mk x.seq x.deps=x) /\
  (∀ x:aY,aY.mk x.ballot x.vote x.state x.cmd x.attr=x) /\
  (∀ x:aM,aM.mk x.n x.rows=x) /\
  (∀ x:lT,lT.mk x.code x.sum=x) /\
  (∀ x:bV,bV.mk x.rep x.no x.cmd x.told=x) :=
 ⟨fun _=>rfl,
  fun _=>rfl,
  fun _=>rfl,
  fun _=>rfl,
  fun _=>rfl,
  fun _=>rfl⟩
theorem aI:(∀ {xs:List Int} {k:Int},InB xs k->(aN.row 1 0 [true]).run [rL xs,i64 k]=some [i64 (atI xs k)]) /\
  (∀ {xs:List (List UInt8)} {k:Int},InB xs k->(aN.row 1 0 [true]).run [rL xs,i64 k]=some [.str (atI xs k)]) /\
  (∀ {xs:List (List Int)} {k:Int},InB xs k->(aN.row 1 0 [false]).run [rL xs,i64 k]=some [rL (atI xs k)]) /\
  (∀ {xs:List (List aY)} {k:Int},InB xs k->(aN.row 1 0 [false]).run [rL xs,i64 k]=some [rL (atI xs k)]) /\
  (∀ {xs:List (List (List Int))} {k:Int},InB xs k->(aN.row 1 0 [false]).run [rL xs,i64 k]=some [rL (atI xs k)]) /\
  (∀ {xs:List oN} {k:Int},InB xs k->(aN.row 5 0 [true,true,true,true,true]).run [rL xs,i64 k]=some [i64 (atI xs k).kind,i64 (atI xs k).id,i64 (atI xs k).src,i64 (atI xs k).dst,i64 (atI xs k).amt]) /\
  (∀ {xs:List aY} {k:Int},InB xs k->(aN.row 10 0 [true,true,true,true,true,true,true,true,true,false]).run [rL xs,i64 k]=some [i64 (atI xs k).ballot,i64 (atI xs k).vote,i64 (atI xs k).state,i64 (atI xs k).cmd.kind,i64 (atI xs k).cmd.id,i64 (atI xs k).cmd.src,i64 (atI xs k).cmd.dst,i64 (atI xs k).cmd.amt,i64 (atI xs k).attr.seq,rL (atI xs k).attr.deps]) /\
  (∀ {xs:List aY} {k:Int},InB xs k->(aN.row 10 0 [true]).run [rL xs,i64 k]=some [i64 (atI xs k).ballot]) /\
  (∀ {xs:List aY} {k:Int},InB xs k->(aN.row 10 1 [true]).run [rL xs,i64 k]=some [i64 (atI xs k).vote]) /\
  (∀ {xs:List aY} {k:Int},InB xs k->(aN.row 10 2 [true]).run [rL xs,i64 k]=some [i64 (atI xs k).state]) /\
  (∀ {xs:List aY} {k:Int},InB xs k->(aN.row 10 3 [true,true,true,true,true]).run [rL xs,i64 k]=some [i64 (atI xs k).cmd.kind,i64 (atI xs k).cmd.id,i64 (atI xs k).cmd.src,i64 (atI xs k).cmd.dst,i64 (atI xs k).cmd.amt]) /\
  (∀ {xs:List aY} {k:Int},InB xs k->(aN.row 10 3 [true]).run [rL xs,i64 k]=some [i64 (atI xs k).cmd.kind]) /\
  (∀ {xs:List aY} {k:Int},InB xs k->(aN.row 10 4 [true]).run [rL xs,i64 k]=some [i64 (atI xs k).cmd.id]) /\
  (∀ {xs:List aY} {k:Int},InB xs k->(aN.row 10 5 [true]).run [rL xs,i64 k]=some [i64 (atI xs k).cmd.src]) /\
  (∀ {xs:List aY} {k:Int},InB xs k->(aN.row 10 6 [true]).run [rL xs,i64 k]=some [i64 (atI xs k).cmd.dst]) /\
  (∀ {xs:List aY} {k:Int},InB xs k->(aN.row 10 7 [true]).run [rL xs,i64 k]=some [i64 (atI xs k).cmd.amt]) /\
  (∀ {xs:List aY} {k:Int},InB xs k->(aN.row 10 8 [true,false]).run [rL xs,i64 k]=some [i64 (atI xs k).attr.seq,rL (atI xs k).attr.deps]) /\
  (∀ {xs:List aY} {k:Int},InB xs k->(aN.row 10 8 [true]).run [rL xs,i64 k]=some [i64 (atI xs k).attr.seq]) /\
  (∀ {xs:List aY} {k:Int},InB xs k->(aN.row 10 9 [false]).run [rL xs,i64 k]=some [rL (atI xs k).attr.deps]) /\
  (∀ {xs:List aM} {k:Int},InB xs k->(aN.row 2 0 [true]).run [rL xs,i64 k]=some [i64 (atI xs k).n]) /\
  (∀ {xs:List lT} {k:Int},InB xs k->(aN.row 2 0 [true,true]).run [rL xs,i64 k]=some [i64 (atI xs k).code,i64 (atI xs k).sum]) /\
  (∀ {xs:List lT} {k:Int},InB xs k->(aN.row 2 0 [true]).run [rL xs,i64 k]=some [i64 (atI xs k).code]) /\
  (∀ {xs:List lT} {k:Int},InB xs k->(aN.row 2 1 [true]).run [rL xs,i64 k]=some [i64 (atI xs k).sum]) /\
  (∀ {xs:List bV} {k:Int},InB xs k->(aN.row 9 0 [true,true,true,true,true,true,true,true,true]).run [rL xs,i64 k]=some [i64 (atI xs k).rep,i64 (atI xs k).no,i64 (atI xs k).cmd.kind,i64 (atI xs k).cmd.id,i64 (atI xs k).cmd.src,i64 (atI xs k).cmd.dst,i64 (atI xs k).cmd.amt,i64 (atI xs k).told.code,i64 (atI xs k).told.sum]) /\
  (∀ {xs:List bV} {k:Int},InB xs k->(aN.row 9 0 [true]).run [rL xs,i64 k]=some [i64 (atI xs k).rep]) /\
  (∀ {xs:List bV} {k:Int},InB xs k->(aN.row 9 1 [true]).run [rL xs,i64 k]=some [i64 (atI xs k).no]) /\
  (∀ {xs:List bV} {k:Int},InB xs k->(aN.row 9 2 [true]).run [rL xs,i64 k]=some [i64 (atI xs k).cmd.kind]) /\
  (∀ {xs:List bV} {k:Int},InB xs k->(aN.row 9 3 [true]).run [rL xs,i64 k]=some [i64 (atI xs k).cmd.id]) /\
  (∀ {xs:List bV} {k:Int},InB xs k->(aN.row 9 4 [true]).run [rL xs,i64 k]=some [i64 (atI xs k).cmd.src]) /\
  (∀ {xs:List bV} {k:Int},InB xs k->(aN.row 9 5 [true]).run [rL xs,i64 k]=some [i64 (atI xs k).cmd.dst]) /\
  (∀ {xs:List bV} {k:Int},InB xs k->(aN.row 9 6 [true]).run [rL xs,i64 k]=some [i64 (atI xs k).cmd.amt]) /\
  (∀ {xs:List bV} {k:Int},InB xs k->(aN.row 9 7 [true,true]).run [rL xs,i64 k]=some [i64 (atI xs k).told.code,i64 (atI xs k).told.sum]) /\
  (∀ {xs:List bV} {k:Int},InB xs k->(aN.row 9 7 [true]).run [rL xs,i64 k]=some [i64 (atI xs k).told.code]) /\
  (∀ {xs:List bV} {k:Int},InB xs k->(aN.row 9 8 [true]).run [rL xs,i64 k]=some [i64 (atI xs k).told.sum]) :=
 ⟨fun h=>(gH rfl h),
  fun h=>(gH rfl h),
  fun h=>(gH rfl h),
  fun h=>(gH rfl h),
  fun h=>(gH rfl h),
  fun h=>(gH rfl h),
  fun h=>(gH rfl h),
  fun h=>(gH rfl h),
  fun h=>(gH rfl h),
  fun h=>(gH rfl h),
  fun h=>(gH rfl h),
  fun h=>(gH rfl h),
  fun h=>(gH rfl h),
  fun h=>(gH rfl h),
  fun h=>(gH rfl h),
  fun h=>(gH rfl h),
  fun h=>(gH rfl h),
  fun h=>(gH rfl h),
  fun h=>(gH rfl h),
  fun h=>(gH rfl h),
  fun h=>(gH rfl h),
  fun h=>(gH rfl h),
  fun h=>(gH rfl h),
  fun h=>(gH rfl h),
  fun h=>(gH rfl h),
  fun h=>(gH rfl h),
  fun h=>(gH rfl h),
  fun h=>(gH rfl h),
  fun h=>(gH rfl h),
  fun h=>(gH rfl h),
  fun h=>(gH rfl h),
  fun h=>(gH rfl h),
  fun h=>(gH rfl h),
  fun h=>(gH rfl h)⟩
theorem lZ:(∀ {xs:List Int} {k:Int} {v:Int},InB xs k->(aN.set 1 0 1).run [rL xs,i64 k,i64 v]=some [rL (dB xs k v)]) /\
  (∀ {xs:List (List UInt8)} {k:Int} {v:(List UInt8)},InB xs k->(aN.set 1 0 1).run [rL xs,i64 k,.str v]=some [rL (dB xs k v)]) /\
  (∀ {xs:List (List Int)} {k:Int} {v:(List Int)},InB xs k->(aN.set 1 0 1).run [rL xs,i64 k,rL v]=some [rL (dB xs k v)]) /\
  (∀ {xs:List (List aY)} {k:Int} {v:(List aY)},InB xs k->(aN.set 1 0 1).run [rL xs,i64 k,rL v]=some [rL (dB xs k v)]) /\
  (∀ {xs:List (List (List Int))} {k:Int} {v:(List (List Int))},InB xs k->(aN.set 1 0 1).run [rL xs,i64 k,rL v]=some [rL (dB xs k v)]) /\
  (∀ {xs:List aY} {k:Int} {v:Int},InB xs k->(aN.set 10 0 1).run [rL xs,i64 k,i64 v]=some [rL (dB xs k { (atI xs k) with ballot:=v })]) /\
  (∀ {xs:List aY} {k:Int} {v_ballot v_vote v_state v_cmd_kind v_cmd_id v_cmd_src v_cmd_dst v_cmd_amt v_attr_seq:Int} {v_attr_deps:(List Int)},InB xs k->(aN.set 10 0 10).run [rL xs,i64 k,i64 v_ballot,i64 v_vote,i64 v_state,i64 v_cmd_kind,i64 v_cmd_id,i64 v_cmd_src,i64 v_cmd_dst,i64 v_cmd_amt,i64 v_attr_seq,rL v_attr_deps]=some [rL (dB xs k ⟨v_ballot,v_vote,v_state,⟨v_cmd_kind,v_cmd_id,v_cmd_src,v_cmd_dst,v_cmd_amt⟩,⟨v_attr_seq,v_attr_deps⟩⟩)]) /\
  (∀ {xs:List aY} {k:Int} {v:Int},InB xs k->(aN.set 10 1 1).run [rL xs,i64 k,i64 v]=some [rL (dB xs k { (atI xs k) with vote:=v })]) /\
  (∀ {xs:List aY} {k:Int} {v:Int},InB xs k->(aN.set 10 2 1).run [rL xs,i64 k,i64 v]=some [rL (dB xs k { (atI xs k) with state:=v })]) /\
  (∀ {xs:List aY} {k:Int} {v:Int},InB xs k->(aN.set 10 3 1).run [rL xs,i64 k,i64 v]=some [rL (dB xs k { (atI xs k) with cmd:={ (atI xs k).cmd with kind:=v } })]) /\
  (∀ {xs:List aY} {k:Int} {v:Int},InB xs k->(aN.set 10 4 1).run [rL xs,i64 k,i64 v]=some [rL (dB xs k { (atI xs k) with cmd:={ (atI xs k).cmd with id:=v } })]) /\
  (∀ {xs:List aY} {k:Int} {v:Int},InB xs k->(aN.set 10 5 1).run [rL xs,i64 k,i64 v]=some [rL (dB xs k { (atI xs k) with cmd:={ (atI xs k).cmd with src:=v } })]) /\
  (∀ {xs:List aY} {k:Int} {v:Int},InB xs k->(aN.set 10 6 1).run [rL xs,i64 k,i64 v]=some [rL (dB xs k { (atI xs k) with cmd:={ (atI xs k).cmd with dst:=v } })]) /\
  (∀ {xs:List aY} {k:Int} {v:Int},InB xs k->(aN.set 10 7 1).run [rL xs,i64 k,i64 v]=some [rL (dB xs k { (atI xs k) with cmd:={ (atI xs k).cmd with amt:=v } })]) /\
  (∀ {xs:List aY} {k:Int} {v:Int},InB xs k->(aN.set 10 8 1).run [rL xs,i64 k,i64 v]=some [rL (dB xs k { (atI xs k) with attr:={ (atI xs k).attr with seq:=v } })]) /\
  (∀ {xs:List aY} {k:Int} {v:(List Int)},InB xs k->(aN.set 10 9 1).run [rL xs,i64 k,rL v]=some [rL (dB xs k { (atI xs k) with attr:={ (atI xs k).attr with deps:=v } })]) /\
  (∀ {xs:List aM} {k:Int} {v:Int},InB xs k->(aN.set 2 0 1).run [rL xs,i64 k,i64 v]=some [rL (dB xs k { (atI xs k) with n:=v })]) /\
  (∀ {xs:List aM} {k:Int} {v_n:Int} {v_rows:(List (List aY))},InB xs k->(aN.set 2 0 2).run [rL xs,i64 k,i64 v_n,rL v_rows]=some [rL (dB xs k ⟨v_n,v_rows⟩)]) /\
  (∀ {xs:List aM} {k:Int} {v:(List (List aY))},InB xs k->(aN.set 2 1 1).run [rL xs,i64 k,rL v]=some [rL (dB xs k { (atI xs k) with rows:=v })]) /\
  (∀ {xs:List lT} {k:Int} {v:Int},InB xs k->(aN.set 2 0 1).run [rL xs,i64 k,i64 v]=some [rL (dB xs k { (atI xs k) with code:=v })]) /\
  (∀ {xs:List lT} {k:Int} {v_code v_sum:Int},InB xs k->(aN.set 2 0 2).run [rL xs,i64 k,i64 v_code,i64 v_sum]=some [rL (dB xs k ⟨v_code,v_sum⟩)]) /\
  (∀ {xs:List lT} {k:Int} {v:Int},InB xs k->(aN.set 2 1 1).run [rL xs,i64 k,i64 v]=some [rL (dB xs k { (atI xs k) with sum:=v })]) /\
  (∀ {xs:List bV} {k:Int} {v:Int},InB xs k->(aN.set 9 0 1).run [rL xs,i64 k,i64 v]=some [rL (dB xs k { (atI xs k) with rep:=v })]) /\
  (∀ {xs:List bV} {k:Int} {v:Int},InB xs k->(aN.set 9 1 1).run [rL xs,i64 k,i64 v]=some [rL (dB xs k { (atI xs k) with no:=v })]) /\
  (∀ {xs:List bV} {k:Int} {v:Int},InB xs k->(aN.set 9 2 1).run [rL xs,i64 k,i64 v]=some [rL (dB xs k { (atI xs k) with cmd:={ (atI xs k).cmd with kind:=v } })]) /\
  (∀ {xs:List bV} {k:Int} {v:Int},InB xs k->(aN.set 9 3 1).run [rL xs,i64 k,i64 v]=some [rL (dB xs k { (atI xs k) with cmd:={ (atI xs k).cmd with id:=v } })]) /\
  (∀ {xs:List bV} {k:Int} {v:Int},InB xs k->(aN.set 9 4 1).run [rL xs,i64 k,i64 v]=some [rL (dB xs k { (atI xs k) with cmd:={ (atI xs k).cmd with src:=v } })]) /\
  (∀ {xs:List bV} {k:Int} {v:Int},InB xs k->(aN.set 9 5 1).run [rL xs,i64 k,i64 v]=some [rL (dB xs k { (atI xs k) with cmd:={ (atI xs k).cmd with dst:=v } })]) /\
  (∀ {xs:List bV} {k:Int} {v:Int},InB xs k->(aN.set 9 6 1).run [rL xs,i64 k,i64 v]=some [rL (dB xs k { (atI xs k) with cmd:={ (atI xs k).cmd with amt:=v } })]) /\
  (∀ {xs:List bV} {k:Int} {v:Int},InB xs k->(aN.set 9 7 1).run [rL xs,i64 k,i64 v]=some [rL (dB xs k { (atI xs k) with told:={ (atI xs k).told with code:=v } })]) /\
  (∀ {xs:List bV} {k:Int} {v:Int},InB xs k->(aN.set 9 8 1).run [rL xs,i64 k,i64 v]=some [rL (dB xs k { (atI xs k) with told:={ (atI xs k).told with sum:=v } })]) :=
 ⟨fun h=>(iK rfl rfl (by decide) rfl h),
  fun h=>(iK rfl rfl (by decide) rfl h),
  fun h=>(iK rfl rfl (by decide) rfl h),
  fun h=>(iK rfl rfl (by decide) rfl h),
  fun h=>(iK rfl rfl (by decide) rfl h),
  fun h=>(iK rfl rfl (by decide) rfl h),
  fun h=>(iK rfl rfl (by decide) rfl h),
  fun h=>(iK rfl rfl (by decide) rfl h),
  fun h=>(iK rfl rfl (by decide) rfl h),
  fun h=>(iK rfl rfl (by decide) rfl h),
  fun h=>(iK rfl rfl (by decide) rfl h),
  fun h=>(iK rfl rfl (by decide) rfl h),
  fun h=>(iK rfl rfl (by decide) rfl h),
  fun h=>(iK rfl rfl (by decide) rfl h),
  fun h=>(iK rfl rfl (by decide) rfl h),
  fun h=>(iK rfl rfl (by decide) rfl h),
  fun h=>(iK rfl rfl (by decide) rfl h),
  fun h=>(iK rfl rfl (by decide) rfl h),
  fun h=>(iK rfl rfl (by decide) rfl h),
  fun h=>(iK rfl rfl (by decide) rfl h),
  fun h=>(iK rfl rfl (by decide) rfl h),
  fun h=>(iK rfl rfl (by decide) rfl h),
  fun h=>(iK rfl rfl (by decide) rfl h),
  fun h=>(iK rfl rfl (by decide) rfl h),
  fun h=>(iK rfl rfl (by decide) rfl h),
  fun h=>(iK rfl rfl (by decide) rfl h),
  fun h=>(iK rfl rfl (by decide) rfl h),
  fun h=>(iK rfl rfl (by decide) rfl h),
  fun h=>(iK rfl rfl (by decide) rfl h),
  fun h=>(iK rfl rfl (by decide) rfl h),
  fun h=>(iK rfl rfl (by decide) rfl h)⟩
theorem dK:(∀ {v0:Int},(aN.mk 1 1).run [i64 v0]=some [rL [v0]]) /\
  (∀ {v0 v1:Int},(aN.mk 1 2).run [i64 v0,i64 v1]=some [rL [v0,v1]]) /\
  (∀ {v0 v1 v2:Int},(aN.mk 1 3).run [i64 v0,i64 v1,i64 v2]=some [rL [v0,v1,v2]]) /\
  (∀ {v0 v1 v2 v3:Int},(aN.mk 1 4).run [i64 v0,i64 v1,i64 v2,i64 v3]=some [rL [v0,v1,v2,v3]]) /\
  (∀ {v0 v1 v2 v3 v4:Int},(aN.mk 1 5).run [i64 v0,i64 v1,i64 v2,i64 v3,i64 v4]=some [rL [v0,v1,v2,v3,v4]]) /\
  (∀ {v0 v1 v2 v3 v4 v5 v6:Int},(aN.mk 1 7).run [i64 v0,i64 v1,i64 v2,i64 v3,i64 v4,i64 v5,i64 v6]=some [rL [v0,v1,v2,v3,v4,v5,v6]]) /\
  (∀ {v0 v1 v2 v3 v4 v5 v6 v7:Int},(aN.mk 1 8).run [i64 v0,i64 v1,i64 v2,i64 v3,i64 v4,i64 v5,i64 v6,i64 v7]=some [rL [v0,v1,v2,v3,v4,v5,v6,v7]]) /\
  (∀ {v0 v1 v2 v3 v4 v5 v6 v7 v8:Int},(aN.mk 1 9).run [i64 v0,i64 v1,i64 v2,i64 v3,i64 v4,i64 v5,i64 v6,i64 v7,i64 v8]=some [rL [v0,v1,v2,v3,v4,v5,v6,v7,v8]]) /\
  (∀ {v0:(List UInt8)},(aN.mk 1 1).run [.str v0]=some [rL [v0]]) /\
  (∀ {v0 v1:(List UInt8)},(aN.mk 1 2).run [.str v0,.str v1]=some [rL [v0,v1]]) /\
  (∀ {v0 v1 v2:(List UInt8)},(aN.mk 1 3).run [.str v0,.str v1,.str v2]=some [rL [v0,v1,v2]]) /\
  (∀ {v0 v1 v2 v3:(List UInt8)},(aN.mk 1 4).run [.str v0,.str v1,.str v2,.str v3]=some [rL [v0,v1,v2,v3]]) /\
  (∀ {v0 v1 v2 v3 v4:(List UInt8)},(aN.mk 1 5).run [.str v0,.str v1,.str v2,.str v3,.str v4]=some [rL [v0,v1,v2,v3,v4]]) /\
  (∀ {v0 v1 v2 v3 v4 v5 v6:(List UInt8)},(aN.mk 1 7).run [.str v0,.str v1,.str v2,.str v3,.str v4,.str v5,.str v6]=some [rL [v0,v1,v2,v3,v4,v5,v6]]) /\
  (∀ {v0 v1 v2 v3 v4 v5 v6 v7:(List UInt8)},(aN.mk 1 8).run [.str v0,.str v1,.str v2,.str v3,.str v4,.str v5,.str v6,.str v7]=some [rL [v0,v1,v2,v3,v4,v5,v6,v7]]) /\
  (∀ {v0 v1 v2 v3 v4 v5 v6 v7 v8:(List UInt8)},(aN.mk 1 9).run [.str v0,.str v1,.str v2,.str v3,.str v4,.str v5,.str v6,.str v7,.str v8]=some [rL [v0,v1,v2,v3,v4,v5,v6,v7,v8]]) /\
  (∀ {v0:(List Int)},(aN.mk 1 1).run [rL v0]=some [rL [v0]]) /\
  (∀ {v0:(List aY)},(aN.mk 1 1).run [rL v0]=some [rL [v0]]) /\
  (∀ {v0:(List (List Int))},(aN.mk 1 1).run [rL v0]=some [rL [v0]]) /\
  (∀ {v_kind v_id v_src v_dst v_amt:Int},(aN.mk 5 1).run [i64 v_kind,i64 v_id,i64 v_src,i64 v_dst,i64 v_amt]=some [rL [(⟨v_kind,v_id,v_src,v_dst,v_amt⟩:oN)]]) /\
  (∀ {v_ballot v_vote v_state v_cmd_kind v_cmd_id v_cmd_src v_cmd_dst v_cmd_amt v_attr_seq:Int} {v_attr_deps:(List Int)},(aN.mk 10 1).run [i64 v_ballot,i64 v_vote,i64 v_state,i64 v_cmd_kind,i64 v_cmd_id,i64 v_cmd_src,i64 v_cmd_dst,i64 v_cmd_amt,i64 v_attr_seq,rL v_attr_deps]=some [rL [(⟨v_ballot,v_vote,v_state,⟨v_cmd_kind,v_cmd_id,v_cmd_src,v_cmd_dst,v_cmd_amt⟩,⟨v_attr_seq,v_attr_deps⟩⟩:aY)]]) /\
  (∀ {v_n:Int} {v_rows:(List (List aY))},(aN.mk 2 1).run [i64 v_n,rL v_rows]=some [rL [(⟨v_n,v_rows⟩:aM)]]) /\
  (∀ {v_code v_sum:Int},(aN.mk 2 1).run [i64 v_code,i64 v_sum]=some [rL [(⟨v_code,v_sum⟩:lT)]]) /\
  (∀ {v_rep v_no v_cmd_kind v_cmd_id v_cmd_src v_cmd_dst v_cmd_amt v_told_code v_told_sum:Int},(aN.mk 9 1).run [i64 v_rep,i64 v_no,i64 v_cmd_kind,i64 v_cmd_id,i64 v_cmd_src,i64 v_cmd_dst,i64 v_cmd_amt,i64 v_told_code,i64 v_told_sum]=some [rL [(⟨v_rep,v_no,⟨v_cmd_kind,v_cmd_id,v_cmd_src,v_cmd_dst,v_cmd_amt⟩,⟨v_told_code,v_told_sum⟩⟩:bV)]]) :=
 ⟨rfl,
  rfl,
  rfl,
  rfl,
  rfl,
  rfl,
  rfl,
  rfl,
  rfl,
  rfl,
  rfl,
  rfl,
  rfl,
  rfl,
  rfl,
  rfl,
  rfl,
  rfl,
  rfl,
  (Ta5 rfl rfl),
  (Ta5 rfl rfl),
  (Ta5 rfl rfl),
  (Ta5 rfl rfl),
  (Ta5 rfl rfl)⟩
theorem pI:(∀ {n:Int},0<=n->n<=100000000000->(aN.make 8 [(.int .i64 0)]).run [i64 n]=some [rL (Sb1 n.toNat (0:Int))]) /\
  (∀ {n:Int},0<=n->n<=100000000000->(aN.make 16 [(.str [])]).run [i64 n]=some [rL (Sb1 n.toNat ([]:(List UInt8)))]) /\
  (∀ {n:Int},0<=n->n<=100000000000->(aN.make 24 [(.rows 1 [])]).run [i64 n]=some [rL (Sb1 n.toNat ([]:(List Int)))]) /\
  (∀ {n:Int},0<=n->n<=100000000000->(aN.make 24 [(.rows 10 [])]).run [i64 n]=some [rL (Sb1 n.toNat ([]:(List aY)))]) /\
  (∀ {n:Int},0<=n->n<=100000000000->(aN.make 24 [(.rows 1 [])]).run [i64 n]=some [rL (Sb1 n.toNat ([]:(List (List Int))))]) /\
  (∀ {n:Int},0<=n->n<=100000000000->(aN.make 40 [(.int .i64 0),(.int .i64 0),(.int .i64 0),(.int .i64 0),(.int .i64 0)]).run [i64 n]=some [rL (Sb1 n.toNat (default:oN))]) /\
  (∀ {n:Int},0<=n->n<=100000000000->(aN.make 96 [(.int .i64 0),(.int .i64 0),(.int .i64 0),(.int .i64 0),(.int .i64 0),(.int .i64 0),(.int .i64 0),(.int .i64 0),(.int .i64 0),(.rows 1 [])]).run [i64 n]=some [rL (Sb1 n.toNat (default:aY))]) /\
  (∀ {n:Int},0<=n->n<=100000000000->(aN.make 32 [(.int .i64 0),(.rows 1 [])]).run [i64 n]=some [rL (Sb1 n.toNat (default:aM))]) /\
  (∀ {n:Int},0<=n->n<=100000000000->(aN.make 16 [(.int .i64 0),(.int .i64 0)]).run [i64 n]=some [rL (Sb1 n.toNat (default:lT))]) /\
  (∀ {n:Int},0<=n->n<=100000000000->(aN.make 72 [(.int .i64 0),(.int .i64 0),(.int .i64 0),(.int .i64 0),(.int .i64 0),(.int .i64 0),(.int .i64 0),(.int .i64 0),(.int .i64 0)]).run [i64 n]=some [rL (Sb1 n.toNat (default:bV))]) :=
 ⟨fun h h2=>(uR rfl h (by unfold dF;omega)),
  fun h h2=>(uR rfl h (by unfold dF;omega)),
  fun h h2=>(uR rfl h (by unfold dF;omega)),
  fun h h2=>(uR rfl h (by unfold dF;omega)),
  fun h h2=>(uR rfl h (by unfold dF;omega)),
  fun h h2=>(uR rfl h (by unfold dF;omega)),
  fun h h2=>(uR rfl h (by unfold dF;omega)),
  fun h h2=>(uR rfl h (by unfold dF;omega)),
  fun h h2=>(uR rfl h (by unfold dF;omega)),
  fun h h2=>(uR rfl h (by unfold dF;omega))⟩
theorem bD:(∀ {xs ys:List Int},xs.length+ys.length<=100000000000->(aN.app 1 8 true).run [rL xs,rL ys]=some [rL (xs++ys)]) /\
  (∀ {ys:List Int},ys.length<=100000000000->(aN.app 1 8 true).run [.rows 1 [],rL ys]=some [rL ys]) /\
  (∀ {xs ys:List Int},xs.length+ys.length<=100000000000->(aN.app 1 8 false).run [rL xs,rL ys]=some [rL (xs++ys)]) /\
  (∀ {ys:List Int},ys.length<=100000000000->(aN.app 1 8 false).run [.rows 1 [],rL ys]=some [rL ys]) /\
  (∀ {xs ys:List (List UInt8)},xs.length+ys.length<=100000000000->(aN.app 1 16 true).run [rL xs,rL ys]=some [rL (xs++ys)]) /\
  (∀ {ys:List (List UInt8)},ys.length<=100000000000->(aN.app 1 16 true).run [.rows 1 [],rL ys]=some [rL ys]) /\
  (∀ {xs ys:List (List UInt8)},xs.length+ys.length<=100000000000->(aN.app 1 16 false).run [rL xs,rL ys]=some [rL (xs++ys)]) /\
  (∀ {ys:List (List UInt8)},ys.length<=100000000000->(aN.app 1 16 false).run [.rows 1 [],rL ys]=some [rL ys]) /\
  (∀ {xs ys:List (List Int)},xs.length+ys.length<=100000000000->(aN.app 1 24 false).run [rL xs,rL ys]=some [rL (xs++ys)]) /\
  (∀ {ys:List (List Int)},ys.length<=100000000000->(aN.app 1 24 false).run [.rows 1 [],rL ys]=some [rL ys]) /\
  (∀ {xs ys:List (List aY)},xs.length+ys.length<=100000000000->(aN.app 1 24 false).run [rL xs,rL ys]=some [rL (xs++ys)]) /\
  (∀ {ys:List (List aY)},ys.length<=100000000000->(aN.app 1 24 false).run [.rows 1 [],rL ys]=some [rL ys]) /\
  (∀ {xs ys:List (List (List Int))},xs.length+ys.length<=100000000000->(aN.app 1 24 false).run [rL xs,rL ys]=some [rL (xs++ys)]) /\
  (∀ {ys:List (List (List Int))},ys.length<=100000000000->(aN.app 1 24 false).run [.rows 1 [],rL ys]=some [rL ys]) /\
  (∀ {xs ys:List oN},xs.length+ys.length<=100000000000->(aN.app 5 40 true).run [rL xs,rL ys]=some [rL (xs++ys)]) /\
  (∀ {ys:List oN},ys.length<=100000000000->(aN.app 5 40 true).run [.rows 5 [],rL ys]=some [rL ys]) /\
  (∀ {xs ys:List oN},xs.length+ys.length<=100000000000->(aN.app 5 40 false).run [rL xs,rL ys]=some [rL (xs++ys)]) /\
  (∀ {ys:List oN},ys.length<=100000000000->(aN.app 5 40 false).run [.rows 5 [],rL ys]=some [rL ys]) /\
  (∀ {xs ys:List aY},xs.length+ys.length<=100000000000->(aN.app 10 96 false).run [rL xs,rL ys]=some [rL (xs++ys)]) /\
  (∀ {ys:List aY},ys.length<=100000000000->(aN.app 10 96 false).run [.rows 10 [],rL ys]=some [rL ys]) /\
  (∀ {xs ys:List aM},xs.length+ys.length<=100000000000->(aN.app 2 32 false).run [rL xs,rL ys]=some [rL (xs++ys)]) /\
  (∀ {ys:List aM},ys.length<=100000000000->(aN.app 2 32 false).run [.rows 2 [],rL ys]=some [rL ys]) /\
  (∀ {xs ys:List lT},xs.length+ys.length<=100000000000->(aN.app 2 16 true).run [rL xs,rL ys]=some [rL (xs++ys)]) /\
  (∀ {ys:List lT},ys.length<=100000000000->(aN.app 2 16 true).run [.rows 2 [],rL ys]=some [rL ys]) /\
  (∀ {xs ys:List lT},xs.length+ys.length<=100000000000->(aN.app 2 16 false).run [rL xs,rL ys]=some [rL (xs++ys)]) /\
  (∀ {ys:List lT},ys.length<=100000000000->(aN.app 2 16 false).run [.rows 2 [],rL ys]=some [rL ys]) /\
  (∀ {xs ys:List bV},xs.length+ys.length<=100000000000->(aN.app 9 72 true).run [rL xs,rL ys]=some [rL (xs++ys)]) /\
  (∀ {ys:List bV},ys.length<=100000000000->(aN.app 9 72 true).run [.rows 9 [],rL ys]=some [rL ys]) /\
  (∀ {xs ys:List bV},xs.length+ys.length<=100000000000->(aN.app 9 72 false).run [rL xs,rL ys]=some [rL (xs++ys)]) /\
  (∀ {ys:List bV},ys.length<=100000000000->(aN.app 9 72 false).run [.rows 9 [],rL ys]=some [rL ys]) :=
 ⟨fun h=>(tF rfl (fun _ _=>rfl) (by unfold dF;omega)),
  fun h=>(oJ rfl (fun _ _=>rfl) (by unfold dF;omega)),
  fun h=>(tF rfl (fun h=>by cases h) (by unfold dF;omega)),
  fun h=>(oJ rfl (fun h=>by cases h) (by unfold dF;omega)),
  fun h=>(tF rfl (fun _ _=>rfl) (by unfold dF;omega)),
  fun h=>(oJ rfl (fun _ _=>rfl) (by unfold dF;omega)),
  fun h=>(tF rfl (fun h=>by cases h) (by unfold dF;omega)),
  fun h=>(oJ rfl (fun h=>by cases h) (by unfold dF;omega)),
  fun h=>(tF rfl (fun h=>by cases h) (by unfold dF;omega)),
  fun h=>(oJ rfl (fun h=>by cases h) (by unfold dF;omega)),
  fun h=>(tF rfl (fun h=>by cases h) (by unfold dF;omega)),
  fun h=>(oJ rfl (fun h=>by cases h) (by unfold dF;omega)),
  fun h=>(tF rfl (fun h=>by cases h) (by unfold dF;omega)),
  fun h=>(oJ rfl (fun h=>by cases h) (by unfold dF;omega)),
  fun h=>(tF rfl (fun _ _=>rfl) (by unfold dF;omega)),
  fun h=>(oJ rfl (fun _ _=>rfl) (by unfold dF;omega)),
  fun h=>(tF rfl (fun h=>by cases h) (by unfold dF;omega)),
  fun h=>(oJ rfl (fun h=>by cases h) (by unfold dF;omega)),
  fun h=>(tF rfl (fun h=>by cases h) (by unfold dF;omega)),
  fun h=>(oJ rfl (fun h=>by cases h) (by unfold dF;omega)),
  fun h=>(tF rfl (fun h=>by cases h) (by unfold dF;omega)),
  fun h=>(oJ rfl (fun h=>by cases h) (by unfold dF;omega)),
  fun h=>(tF rfl (fun _ _=>rfl) (by unfold dF;omega)),
  fun h=>(oJ rfl (fun _ _=>rfl) (by unfold dF;omega)),
  fun h=>(tF rfl (fun h=>by cases h) (by unfold dF;omega)),
  fun h=>(oJ rfl (fun h=>by cases h) (by unfold dF;omega)),
  fun h=>(tF rfl (fun _ _=>rfl) (by unfold dF;omega)),
  fun h=>(oJ rfl (fun _ _=>rfl) (by unfold dF;omega)),
  fun h=>(tF rfl (fun h=>by cases h) (by unfold dF;omega)),
  fun h=>(oJ rfl (fun h=>by cases h) (by unfold dF;omega))⟩
theorem sN:(∀ {xs:List Int} {lo hi:Int},0<=lo->lo<=hi->hi<=xs.length->(aN.sub 1 true).run [rL xs,i64 lo,i64 hi]=some [rL ((xs.take hi.toNat).drop lo.toNat)]) /\
  (∀ {xs:List Int} {lo hi:Int},0<=lo->lo<=hi->hi<=xs.length->(aN.sub 1 false).run [rL xs,i64 lo,i64 hi]=some [rL ((xs.take hi.toNat).drop lo.toNat)]) /\
  (∀ {xs:List (List UInt8)} {lo hi:Int},0<=lo->lo<=hi->hi<=xs.length->(aN.sub 1 true).run [rL xs,i64 lo,i64 hi]=some [rL ((xs.take hi.toNat).drop lo.toNat)]) /\
  (∀ {xs:List (List UInt8)} {lo hi:Int},0<=lo->lo<=hi->hi<=xs.length->(aN.sub 1 false).run [rL xs,i64 lo,i64 hi]=some [rL ((xs.take hi.toNat).drop lo.toNat)]) /\
  (∀ {xs:List (List Int)} {lo hi:Int},0<=lo->lo<=hi->hi<=xs.length->(aN.sub 1 false).run [rL xs,i64 lo,i64 hi]=some [rL ((xs.take hi.toNat).drop lo.toNat)]) /\
  (∀ {xs:List (List aY)} {lo hi:Int},0<=lo->lo<=hi->hi<=xs.length->(aN.sub 1 false).run [rL xs,i64 lo,i64 hi]=some [rL ((xs.take hi.toNat).drop lo.toNat)]) /\
  (∀ {xs:List (List (List Int))} {lo hi:Int},0<=lo->lo<=hi->hi<=xs.length->(aN.sub 1 false).run [rL xs,i64 lo,i64 hi]=some [rL ((xs.take hi.toNat).drop lo.toNat)]) /\
  (∀ {xs:List oN} {lo hi:Int},0<=lo->lo<=hi->hi<=xs.length->(aN.sub 5 true).run [rL xs,i64 lo,i64 hi]=some [rL ((xs.take hi.toNat).drop lo.toNat)]) /\
  (∀ {xs:List oN} {lo hi:Int},0<=lo->lo<=hi->hi<=xs.length->(aN.sub 5 false).run [rL xs,i64 lo,i64 hi]=some [rL ((xs.take hi.toNat).drop lo.toNat)]) /\
  (∀ {xs:List aY} {lo hi:Int},0<=lo->lo<=hi->hi<=xs.length->(aN.sub 10 false).run [rL xs,i64 lo,i64 hi]=some [rL ((xs.take hi.toNat).drop lo.toNat)]) /\
  (∀ {xs:List aM} {lo hi:Int},0<=lo->lo<=hi->hi<=xs.length->(aN.sub 2 false).run [rL xs,i64 lo,i64 hi]=some [rL ((xs.take hi.toNat).drop lo.toNat)]) /\
  (∀ {xs:List lT} {lo hi:Int},0<=lo->lo<=hi->hi<=xs.length->(aN.sub 2 true).run [rL xs,i64 lo,i64 hi]=some [rL ((xs.take hi.toNat).drop lo.toNat)]) /\
  (∀ {xs:List lT} {lo hi:Int},0<=lo->lo<=hi->hi<=xs.length->(aN.sub 2 false).run [rL xs,i64 lo,i64 hi]=some [rL ((xs.take hi.toNat).drop lo.toNat)]) /\
  (∀ {xs:List bV} {lo hi:Int},0<=lo->lo<=hi->hi<=xs.length->(aN.sub 9 true).run [rL xs,i64 lo,i64 hi]=some [rL ((xs.take hi.toNat).drop lo.toNat)]) /\
  (∀ {xs:List bV} {lo hi:Int},0<=lo->lo<=hi->hi<=xs.length->(aN.sub 9 false).run [rL xs,i64 lo,i64 hi]=some [rL ((xs.take hi.toNat).drop lo.toNat)]) :=
 ⟨fun h0 h1 h2=>(uQ rfl (fun _ _=>rfl) h0 h1 h2),
  fun h0 h1 h2=>(uQ rfl (fun h=>by cases h) h0 h1 h2),
  fun h0 h1 h2=>(uQ rfl (fun _ _=>rfl) h0 h1 h2),
  fun h0 h1 h2=>(uQ rfl (fun h=>by cases h) h0 h1 h2),
  fun h0 h1 h2=>(uQ rfl (fun h=>by cases h) h0 h1 h2),
  fun h0 h1 h2=>(uQ rfl (fun h=>by cases h) h0 h1 h2),
  fun h0 h1 h2=>(uQ rfl (fun h=>by cases h) h0 h1 h2),
  fun h0 h1 h2=>(uQ rfl (fun _ _=>rfl) h0 h1 h2),
  fun h0 h1 h2=>(uQ rfl (fun h=>by cases h) h0 h1 h2),
  fun h0 h1 h2=>(uQ rfl (fun h=>by cases h) h0 h1 h2),
  fun h0 h1 h2=>(uQ rfl (fun h=>by cases h) h0 h1 h2),
  fun h0 h1 h2=>(uQ rfl (fun _ _=>rfl) h0 h1 h2),
  fun h0 h1 h2=>(uQ rfl (fun h=>by cases h) h0 h1 h2),
  fun h0 h1 h2=>(uQ rfl (fun _ _=>rfl) h0 h1 h2),
  fun h0 h1 h2=>(uQ rfl (fun h=>by cases h) h0 h1 h2)⟩
theorem Jau:(∀ {a_kind a_id a_src a_dst a_amt b_kind b_id b_src b_dst b_amt:Int},(aN.eqs [0,0,0,0,0]).run [i64 a_kind,i64 a_id,i64 a_src,i64 a_dst,i64 a_amt,i64 b_kind,i64 b_id,i64 b_src,i64 b_dst,i64 b_amt]=some [.bool (decide ((⟨a_kind,a_id,a_src,a_dst,a_amt⟩:oN)=⟨b_kind,b_id,b_src,b_dst,b_amt⟩))]) /\
  (∀ {a_code a_sum b_code b_sum:Int},(aN.eqs [0,0]).run [i64 a_code,i64 a_sum,i64 b_code,i64 b_sum]=some [.bool (decide ((⟨a_code,a_sum⟩:lT)=⟨b_code,b_sum⟩))]) :=
 ⟨(fun {a_kind a_id a_src a_dst a_amt b_kind b_id b_src b_dst b_amt}=>Bba [a_kind,a_id,a_src,a_dst,a_amt] [b_kind,b_id,b_src,b_dst,b_amt] rfl (by simp[oN.mk.injEq])),
  (fun {a_code a_sum b_code b_sum}=>Bba [a_code,a_sum] [b_code,b_sum] rfl (by simp[lT.mk.injEq]))⟩
end Go.Proofs.YtpgnlmfmlffjcaaGreat.Rf

namespace Go.Proofs.YtpgnlmfmlffjcaaGreat.Rf
set_option linter.unusedVariables false
set_option linter.unusedSimpArgs false
section
variable {T:Nat->Ent} {β:Type} {α:Type} [Inhabited α]
inductive Rd1 (σ:Type) where
 |go (s:σ)
 |out (r:Kind×List D)
def Eae {σ:Type}(f:Nat->α->σ->Rd1 σ):Nat->List α->σ->Rd1 σ
 |_,[],s=>.go s
 | i, x :: xs, s => match f i x s with
  |.go s'=>Eae f (i+1) xs s'
  |.out r=>.out r
def Sbh {σ:Type}(vs:Int->σ->List D)(i:Int):Rd1 σ->Kind×List D
 |.go s=>(.cont,vs (i+1) s)
 |.out r=>r
theorem Mb3 {σ:Type}{body:Tm β}{ρ:List D}{init:List aO}(xs:List α)(vs:Int->σ->List D)(s0:σ)(f:Nat->α->σ->Rd1 σ)(inv:Nat->σ->Prop)(fin:σ->Kind×List D)
  (h0:init.map (·.val ρ)=vs 0 s0) (hi:inv 0 s0)
  (h1:∀ (i:Nat) s,i<xs.length->inv i s->Er T body (ρ++vs i s)=some (Sbh vs i (f i (atI xs i) s))/\(∀ s',f i (atI xs i) s=.go s'->inv (i+1) s')/\∀ r,f i (atI xs i) s=.out r->r.1≠.cont)
  (h2:∀ s,inv xs.length s->Er T body (ρ++vs xs.length s)=some (fin s)/\(fin s).1≠.cont) :
  ∃ r,Er T (.loop init body) ρ=some r/\((∃ s,Eae f 0 xs s0=.go s/\inv xs.length s/\r=fin s)\/Eae f 0 xs s0=.out r):=by
 have key:=Uae (T:=T) (body:=body) (ρ:=ρ) (γ:=Nat×σ) (fun c=>xs.length-c.1) (fun c=>c.1<=xs.length/\inv c.1 c.2/\Eae f c.1 (xs.drop c.1) c.2=Eae f 0 xs s0) (fun c=>vs (c.1:Int) c.2)
  (fun r=>(∃ s,Eae f 0 xs s0=.go s/\inv xs.length s/\r=fin s)\/Eae f 0 xs s0=.out r)
  (fun ⟨i,s⟩ ⟨hle,hv,hf⟩=>by
   simp only at hle hv hf ⊢
   rcases Tbi i xs.length with hlt|hge
   ·obtain⟨h3,h4,h5⟩:=h1 i s hlt hv
    have hd:xs.drop i=atI xs i::xs.drop (i+1):=by
     rw[List.drop_eq_getElem_cons hlt,bC hlt]
    rw[hd,Eae]at hf
    refine⟨_,h3,?_⟩
    cases e:f i (atI xs i) s with
    | go s' =>
     rw[e]at hf
     exact .inl ⟨rfl,(i+1,s'),⟨by simp only;omega,h4 s' e,hf⟩,by simp only;omega,rfl⟩
    | out r =>
     rw[e]at hf
     exact .inr ⟨h5 r e,.inr hf.symm⟩
   ·obtain rfl:i=xs.length:=by omega
    obtain⟨h3,h4⟩:=h2 s hv
    rw[List.drop_length,Eae]at hf
    exact⟨_,h3,.inr ⟨h4,.inl ⟨s,hf.symm,hv,rfl⟩⟩⟩)
  xs.length (0,s0) (by simp) ⟨by simp,hi,by simp⟩ init h0
 exact key
theorem Day {body:Tm β}{ρ:List D}(j:Nat)(n:Nat)(p:Nat->Bool)(r:List D)
  (h1:∀ i:Nat,i<n->p i=true->Er T body (ρ++[i64 i])=some (.cont,[i64 ((i:Int)+1)]))
  (h2:∀ i:Nat,i<n->p i=false->Er T body (ρ++[i64 i])=some (.ret,r))
  (h3:Er T body (ρ++[i64 n])=some (.yield j,[])) :
  Er T (.loop [.c (i64 0)] body) ρ=nI (Cb0 p n) (some (.yield j,[])) (some (.ret,r)):=by
 have key:=Uae (T:=T) (body:=body) (ρ:=ρ) (fun i=>n-i) (fun i=>i<=n/\∀ j,j<i->p j=true) (fun i=>[i64 (i:Nat)])
  (fun q=>(∀ j,j<n->p j=true)/\q=(.yield j,[])\/(∃ j,j<n/\p j=false)/\q=(.ret,r))
  (fun i ⟨hi,hall⟩=>by
   rcases Tbi i n with hlt|hge
   ·cases e:p i with
    | true => exact ⟨_, h1 i hlt e, .inl ⟨rfl, i + 1, ⟨by omega, fun j hj => by
      rcases Tbi j i with h|h
      ·exact hall j h
      ·obtain rfl:j=i:=by omega
       exact e⟩,by omega,rfl⟩⟩
    |false=>exact⟨_,h2 i hlt e,.inr ⟨by simp,.inr ⟨⟨i,hlt,e⟩,rfl⟩⟩⟩
   ·obtain rfl:i=n:=by omega
    exact⟨_,h3,.inr ⟨by simp,.inl ⟨hall,rfl⟩⟩⟩)
  n 0 (by omega) ⟨by omega,fun j hj=>by omega⟩ [.c (i64 0)] (by simp[aO.val])
 obtain⟨q,h4,h5⟩:=key
 rw[h4]
 rcases h5 with ⟨h6,rfl⟩|⟨h6,rfl⟩
 ·rw[vM.2 h6];rfl
 ·rw[Paj.2 h6];rfl
theorem Ibu (xs:List α)(p:α->Bool):Cb0 (fun i=>p (atI xs i)) xs.length=xs.all p:=by
 cases e:xs.all p with
 | true =>
  rw[Tbp]at e
  rw[vM]
  intro i hi
  rw[bC hi]
  exact e _ (Ub4 hi)
 | false =>
  rw[List.all_eq_false]at e
  obtain⟨x,hx,hp⟩:=e
  obtain⟨i,hi,rfl⟩:=List.getElem_of_mem hx
  exact Paj.2 ⟨i,hi,by rw[bC hi];simpa using hp⟩
theorem oM [DecidableEq α]{xs ys:List α}(hl:xs.length=ys.length):Cb0 (fun i=>decide (atI xs i=atI ys i)) xs.length=decide (xs=ys):=by
 by_cases e:xs=ys
 ·subst e
  rw[decide_eq_true rfl,vM]
  exact fun i _=>decide_eq_true rfl
 ·rw[decide_eq_false e]
  cases h:Cb0 (fun i=>decide (atI xs i=atI ys i)) xs.length with
  |false=>rfl
  | true =>
   rw[vM]at h
   refine absurd (List.ext_getElem hl fun i h1 h2=>?_) e
   have:=of_decide_eq_true (h i h1)
   rwa[bC h1,bC h2]at this
theorem vF {xs ys:List α}[DecidableEq α](h:¬ xs.length=ys.length):decide (xs=ys)=false:=decide_eq_false fun e=>h (by rw[e])
theorem Qb0 {body:Tm β}{ρ:List D}(j:Nat)(xs:List α)(p:α->Bool)(r:List D)
  (h1:∀ i:Nat,i<xs.length->InB xs (i:Int)->decide ((i:Int)<xs.length)=true->p (atI xs i)=true->Er T body (ρ++[i64 i])=some (.cont,[i64 ((i:Int)+1)]))
  (h2:∀ i:Nat,i<xs.length->InB xs (i:Int)->decide ((i:Int)<xs.length)=true->p (atI xs i)=false->Er T body (ρ++[i64 i])=some (.ret,r))
  (h3:decide ((xs.length:Int)<xs.length)=false->Er T body (ρ++[i64 xs.length])=some (.yield j,[])) :
  Er T (.loop [.c (i64 0)] body) ρ=nI (xs.all p) (some (.yield j,[])) (some (.ret,r)):=by
 rw[Day j xs.length (fun i=>p (atI xs i)) r (fun i hi hp=>h1 i hi (aG.2 hi) (by simp;omega) hp) (fun i hi hp=>h2 i hi (aG.2 hi) (by simp;omega) hp) (h3 (by simp)),Ibu]
omit [Inhabited α] in
theorem Gb9 {body:Tm β}{ρ:List D}(j:Nat)(n:Nat)(p:Nat->Bool)(r:List D)
  (h1:∀ i:Nat,i<n->decide ((i:Int)<n)=true->Er T body (ρ++[i64 i])=nI (p i) (some (.cont,[i64 ((i:Int)+1)])) (some (.ret,r)))
  (h3:decide ((n:Int)<n)=false->Er T body (ρ++[i64 n])=some (.yield j,[])) :
  Er T (.loop [.c (i64 0)] body) ρ=nI (Cb0 p n) (some (.yield j,[])) (some (.ret,r)) :=
 Day j n p r (fun i hi hp=>by rw[h1 i hi (by simp;omega),hp];rfl) (fun i hi hp=>by rw[h1 i hi (by simp;omega),hp];rfl) (h3 (by simp))
theorem Lby {body:Tm β}{ρ:List D}(j:Nat)(xs:List α)(p:α->Bool)(r:List D)
  (h1:∀ i:Nat,i<xs.length->InB xs (i:Int)->decide ((i:Int)<xs.length)=true->atI xs (i:Int)∈xs->Er T body (ρ++[i64 i])=nI (p (atI xs i)) (some (.cont,[i64 ((i:Int)+1)])) (some (.ret,r)))
  (h3:decide ((xs.length:Int)<xs.length)=false->Er T body (ρ++[i64 xs.length])=some (.yield j,[])) :
  Er T (.loop [.c (i64 0)] body) ρ=nI (xs.all p) (some (.yield j,[])) (some (.ret,r)) :=
 Qb0 j xs p r (fun i hi hb hl hp=>by rw[h1 i hi hb hl (by rw[bC hi];exact Ub4 hi),hp];rfl) (fun i hi hb hl hp=>by rw[h1 i hi hb hl (by rw[bC hi];exact Ub4 hi),hp];rfl) h3
def ixF (p:α->Bool)(xs:List α):Int:=match xs.findIdx? p with
 |some i=>i
 |none=>-1
omit [Inhabited α] in
theorem bJ (p:α->Bool)(xs:List α):decide (0<=ixF p xs)=xs.any p:=by
 unfold ixF
 cases h:xs.findIdx? p with
 | none =>
  rw[List.findIdx?_eq_none_iff]at h
  have:xs.any p=false:=by
   rw[List.any_eq_false]
   exact fun x hx=>by simp[h x hx]
  rw[this];rfl
 | some i =>
  have:xs.any p=true:=by
   rw[List.findIdx?_eq_some_iff_getElem]at h
   obtain⟨hi,hp,-⟩:=h
   rw[List.any_eq_true]
   exact⟨_,Ub4 hi,hp⟩
  rw[this];simp
theorem mP {body:Tm β}{ρ:List D}(j:Nat)(xs:List α)(p:α->Bool)(rf:Int->List D)
  (h1:∀ i:Nat,i<xs.length->InB xs (i:Int)->decide ((i:Int)<xs.length)=true->p (atI xs i)=true->Er T body (ρ++[i64 i])=some (.ret,rf i))
  (h2:∀ i:Nat,i<xs.length->InB xs (i:Int)->decide ((i:Int)<xs.length)=true->p (atI xs i)=false->Er T body (ρ++[i64 i])=some (.cont,[i64 ((i:Int)+1)]))
  (h3:decide ((xs.length:Int)<xs.length)=false->Er T body (ρ++[i64 xs.length])=some (.yield j,[])) :
  Er T (.loop [.c (i64 0)] body) ρ=nI (xs.any p) (some (.ret,rf (ixF p xs))) (some (.yield j,[])):=by
 have hall:∀ (i:Nat) (ys:List α),Eae (fun (i:Nat) x (_:Unit)=>if p x then Rd1.out (.ret,rf i) else .go ()) i ys ()=match ys.findIdx? p with|some k=>.out (.ret,rf ((i+k:Nat):Int))|none=>.go ():=by
  intro i ys
  induction ys generalizing i with
  |nil=>rfl
  | cons y ys ih =>
   rw[Eae,List.findIdx?_cons]
   cases p y with
   |true=>simp
   | false =>
    simp only[Sbv,if_false]
    rw[ih (i+1)]
    cases ys.findIdx? p with
    |none=>rfl
    |some k=>simp only[Ubd];congr 4;omega
 obtain⟨q,h4,h5⟩:=Mb3 (T:=T) (body:=body) (ρ:=ρ) (init:=[.c (i64 0)]) xs (fun i (_:Unit)=>[i64 i]) () (fun i x _=>if p x then .out (.ret,rf i) else .go ()) (fun _ _=>True) (fun _=>(.yield j,[])) rfl trivial
  (fun i _ hi _=>by
   cases e:p (atI xs i) with
   |true=>exact⟨by rw[h1 i hi (aG.2 hi) (by simp;omega) e];rfl,fun _ _=>trivial,fun r h=>by simp at h;rw[<- h];simp⟩
   |false=>exact⟨by rw[h2 i hi (aG.2 hi) (by simp;omega) e];rfl,fun _ _=>trivial,fun r h=>by simp at h⟩)
  (fun _ _=>⟨h3 (by simp),by simp⟩)
 rw[h4,<- bJ]
 rw[hall]at h5
 unfold ixF
 cases e:xs.findIdx? p with
 | none =>
  rw[e]at h5
  rcases h5 with ⟨s,-,-,rfl⟩|h5
  ·rfl
  ·simp at h5
 | some k =>
  rw[e]at h5
  rcases h5 with ⟨s,h5,-⟩|h5
  ·simp at h5
  ·simp only[Nat.zero_add,Rd1.out.injEq]at h5
   rw[<- h5]
   simp[nI]
theorem at_mem {xs:List α}{i:Nat}(h:i<xs.length):atI xs (i:Int)∈xs:=by rw[bC h];exact Ub4 h
omit [Inhabited α] in
theorem bH {body:Tm β}{ρ:List D}{init:List aO}(n:Nat)(vs:Nat->List D)(r:Kind×List D)(h0:init.map (·.val ρ)=vs 0)(hr:r.1≠.cont)
  (h1:∀ i:Nat,i<n->decide ((i:Int)<n)=true->Er T body (ρ++vs i)=some (.cont,vs (i+1)))
  (h2:decide ((n:Int)<n)=false->Er T body (ρ++vs n)=some r):Er T (.loop init body) ρ=some r:=by
 obtain⟨q,h3,rfl⟩:=Uae (T:=T) (body:=body) (ρ:=ρ) (fun i=>n-i) (fun i=>i<=n) vs (fun q=>q=r)
  (fun i hi=>by
   rcases Tbi i n with hlt|hge
   ·exact⟨_,h1 i hlt (by simp;omega),.inl ⟨rfl,i+1,by omega,by omega,rfl⟩⟩
   ·obtain rfl:i=n:=by omega
    exact⟨_,h2 (by simp),.inr ⟨hr,rfl⟩⟩) n 0 (by omega) (by omega) init h0
 exact h3
omit [Inhabited α] in
theorem sZ {γ:Type}{body:Tm β}{ρ:List D}{init:List aO}(r:Kind×List D)(m:γ->Nat)(inv:γ->Prop)(vs:γ->List D)(c0:γ)(h0:init.map (·.val ρ)=vs c0)(hi:inv c0)(hr:r.1≠.cont)
  (h:∀ c,inv c->(∃ c',Er T body (ρ++vs c)=some (.cont,vs c')/\inv c'/\m c'<m c)\/Er T body (ρ++vs c)=some r):Er T (.loop init body) ρ=some r:=by
 obtain⟨q,h1,rfl⟩:=Uae (T:=T) (body:=body) (ρ:=ρ) m inv vs (fun q=>q=r)
  (fun c hc=>by
   rcases h c hc with ⟨c',h2,h3,h4⟩|h2
   ·exact⟨_,h2,.inl ⟨rfl,c',h3,h4,rfl⟩⟩
   ·exact⟨_,h2,.inr ⟨hr,rfl⟩⟩) (m c0) c0 (Sb7 _) hi init h0
 exact h1
theorem Eaf {σ:Type}{body:Tm β}{ρ:List D}{init:List aO}(j:Nat)(xs:List α)(vs:Int->σ->List D)(s0:σ)(f:σ->α->σ)(inv:Nat->σ->Prop)(out:σ->List D)
  (h0:init.map (·.val ρ)=vs 0 s0) (hi:inv 0 s0)
  (h1:∀ (i:Nat) s,i<xs.length->InB xs (i:Int)->decide ((i:Int)<xs.length)=true->inv i s->Er T body (ρ++vs i s)=some (.cont,vs ((i:Int)+1) (f s (atI xs i)))/\inv (i+1) (f s (atI xs i)))
  (h2:∀ s,decide ((xs.length:Int)<xs.length)=false->inv xs.length s->Er T body (ρ++vs xs.length s)=some (.yield j,out s)) :
  Er T (.loop init body) ρ=some (.yield j,out (xs.foldl f s0))/\inv xs.length (xs.foldl f s0):=by
 have hall:∀ i xs s,Eae (fun (_:Nat) (x:α) s=>Rd1.go (f s x)) i xs s=.go (xs.foldl f s):=by
  intro i xs
  induction xs generalizing i with
  |nil=>exact fun _=>rfl
  |cons x xs ih=>exact fun s=>ih (i+1) _
 obtain⟨q,h4,h5⟩:=Mb3 (T:=T) (body:=body) (ρ:=ρ) (init:=init) xs vs s0 (fun _ x s=>.go (f s x)) inv (fun s=>(.yield j,out s)) h0 hi
  (fun i s hl hv=>by
   obtain⟨h5,h6⟩:=h1 i s hl (aG.2 hl) (by simp;omega) hv
   exact⟨h5,fun s' h=>by simp only[Rd1.go.injEq]at h;rw[<- h];exact h6,fun r h=>by cases h⟩)
  (fun s hv=>⟨h2 s (by simp) hv,by simp⟩)
 rw[hall]at h5
 rcases h5 with ⟨s,h5,h6,rfl⟩|h5
 ·simp only[Rd1.go.injEq]at h5
  subst h5
  exact⟨h4,h6⟩
 ·cases h5
end
theorem take_at {α:Type}[Inhabited α]{xs:List α}{i:Nat}(h:i<xs.length):xs.take i++[atI xs (i:Int)]=xs.take (i+1):=by rw[List.take_succ_eq_append_getElem h,bC h]
theorem Aay {α:Type}[Inhabited α]{xs:List α}{k:Int}(h:InB xs k):dB xs k (atI xs k)=xs:=by
 have h2:=h.lt
 unfold dB atI
 rw[Sb4,Sb0 h2]
 exact List.set_getElem_self h2
def Uat {α:Type}[Enc α](xs:List (List α))(k:Int):D:=.rows 1 ((xs.map Enc.enc).set k.toNat [.hole])
theorem tJ:(∀ {α:Type} [Enc α] {xs:List (List α)} {k:Int},InB xs k->(aN.set 1 0 1).run [rL xs,i64 k,.hole]=some [Uat xs k])/\(∀ {α:Type} [Enc α] {xs:List (List α)} {k j:Int},InB xs j->aN.inb.run [Uat xs k,i64 j]=some []) /\
  (∀ {α:Type} [Enc α] {xs:List (List α)} {k:Int} {l:List α},InB xs k->(aN.set 1 0 1).run [Uat xs k,i64 k,rL l]=some [rL (dB xs k l)]):=by
 refine⟨?_,?_,?_⟩
 ·intro α _ xs k h
  have h2:=h.lt
  unfold InB at h
  have e:(xs.map Enc.enc)[k.toNat]?=some [rL xs[k.toNat]]:=by rw[Tbo,Sb0 h2];rfl
  show (if _ then _ else _)=_
  rw[if_pos ⟨rfl,h.1⟩,e]
  rfl
 ·intro α _ xs k j h
  unfold InB at h
  show (if _ then _ else _)=_
  rw[if_pos ⟨h.1,by simpa using h.2⟩]
 ·intro α _ xs k l h
  have h2:=h.lt
  unfold InB at h
  have e:((xs.map Enc.enc).set k.toNat [.hole])[k.toNat]?=some [.hole]:=by rw[List.getElem?_set_self (by simpa using h2)]
  show (if _ then _ else _)=_
  rw[if_pos ⟨rfl,h.1⟩,e]
  show some _=_
  simp only[rL,dB,List.map_set,List.set_set]
  rfl
theorem SQ:(∀ {a b:Int},-9223372036854775808<=a+b->a+b<=9223372036854775807->(aN.bin .add).run [i64 a,i64 b]=some [i64 (a+b)]) /\
  (∀ {a b:Int},-9223372036854775808<=a-b->a-b<=9223372036854775807->(aN.bin .sub).run [i64 a,i64 b]=some [i64 (a-b)]) /\
  (∀ {a b:Int},0<=a->a<=9223372036854775807->0<b->(aN.bin .quo).run [i64 a,i64 b]=some [i64 (a / b)])/\(∀ {a b:Int},0<=a->0<b->(aN.bin .rem).run [i64 a,i64 b]=some [i64 (a % b)]) :=
 ⟨Mbu,Daz,Hbb,Hba⟩
end Go.Proofs.YtpgnlmfmlffjcaaGreat.Rf
