/- Terms for the program's functions, and that they are right: part 8 of 9. -/
import Derived.Test.YtdpfilpckndhcaaGreatDoorRf7
import Derived.Shelf.SlicesE.Clone
import Derived.Laws.CopyOwn
import Derived.LoopN
import Derived.WalkKit
import Derived.RegionTactic
import Derived.ChangeAlike
import Derived.Lib.Bytealg
import Derived.Lib.SplitLaws
import Derived.LaidLaws
import Derived.Lay
import Derived.Shelf.Strings.OnBuilder
import Derived.Shelf.Strconv.Itoa3
import Derived.Lib.AppendIntMem
import Derived.Lib.LaidTab
import Derived.Shelf.Lay
import Derived.Shelf.SlSortCmp.NoneTotal
import Derived.Shelf.SlicesE.Delete
open Bool renaming and_eq_true → Qbq, false_eq_true → Qbr, not_eq_true' → Rbe, not_true → Rbl, false_and → Rbp, or_eq_true → Rbw, true_and → Sbg, and_true → Sbh, false_or → Sb6
open Int renaming tmod_eq_emod_of_nonneg → Rb2
open List renaming length_append → Qbs, length_cons → Qbt, length_nil → Qbu, getElem?_eq_getElem → Qbz, replicate → Qb0, mem_cons_of_mem → Qb2, getD_eq_getElem?_getD → Qb5, mem_cons_self → Qb7, length_take → Qb9, length_map → Rbf, all_eq_true → Rbg, map_cons → Rbh, mem_cons → Rbk, append_nil → Rbm, length_replicate → Rbo, getElem?_map → Rbu, nil_append → Rb9, cons_append → Sbk, length_set → Sbp, foldl_cons → Sby, drop_eq_getElem_cons → Sbz, mem_or_eq_of_mem_set → Sb2, getElem_mem → Tbc, all_cons → Tbf, pairwise_cons → Tbo, map_append → Tbt, all_append → Tbv, replicate_succ → Uba, range → Ubc, all_nil → Ubg
open Nat renaming le_refl → Qbw, add_assoc → Rbi, lt_or_ge → Rbj, add_zero → Rby, mul_le_mul_right → Sbd, le_trans → Sbn, zero_le → Sb5
open Option renaming bind_some → Qb3, map_eq_some_iff → Qb8, map_some → Rb5
set_option linter.unusedSimpArgs false
set_option linter.unusedVariables false
set_option linter.unnecessarySimpa false
set_option linter.unusedSectionVars false
namespace Go.Proofs.YtdpfilpckndhcaaGreatDoor.Rf
set_option linter.unusedVariables false
set_option linter.unusedSimpArgs false
open Go.Proofs Go.Shelf Go.RowKit Go.Lib
section
variable {P:Program} {ρ:Ren}
set_option maxHeartbeats 2000000 in
set_option maxRecDepth 100000 in
theorem Tae (L:SlLaysE0.n41 P ρ)(i0:TypeInfo)(z:Value)(size bytes:Nat)(hi:P.info? (ρ.t 23)=some i0)(hz0:i0.zero=some z)(hz1:i0.size=size)(hz2:i0.bytes=bytes)(hzs:z.cells.size=size)(hsz:0<size)
  (z23:∀ w,(Go.sizeOf (ρ.t 23)).run P w=.ok size w) (a:Addr) (c:Nat) (w:World) :
  Calls P (ρ.f 41) #[.slice (some a) 0 c] w fun e w'=>∃ v',e=.returned v'/\w'.ownsRow w.heap.size (ρ.t 23) size v' 0 []/\Below w.heap.size w w':=by
 have mixed:=L.mixed;have t4:=L.t4;have a4:=L.a4;have z4:=L.z4;have v4:=L.v4;have t22:=L.t22;have a22:=L.a22;have z22:=L.z22;have v22:=L.v22
 have q22:∀ (w:World) (a:Option Addr) (n c n' c':Nat),(binOp .eql (ρ.t 22) (.slice a n c) (.slice none n' c')).run P w=.ok (.bool a.isNone) w:=fun w a n c n' c'=>Lib.run_eql_slice_nil w _ _ a n c n' c' L.t22
 have u22:∀ w,Sem.run P (underlying (ρ.t 22)) w=.ok (TypeDesc.slice (ρ.t 23)) w:=run_underlying t22
 obtain⟨_,_,FG⟩:=L.f41
 go_enter FG,SlBodyN.n41_ntmps ρ
 go_wp2_with (at_builtin;refine wpList_append_own _ rfl _ _ (ρ.t 22) rfl w.heap.size (ρ.t 23) i0 z size bytes t22 hi hz0 hz1 hz2 hzs hsz _ _ _ rfl (World.ownsRow_made w #[] 0 (Qbw _) (Sb5 _) (by simp)) a 0 c [] rfl ?qc1 ?qc2 ?qc3 ?qc4 ?qc5 ?qc6 ?_)
 case qc1=>simp
 case qc2=>intro j u hj;simp at hj
 case qc3=>intro u hu;cases hu
 case qc4=>exact Sb5 _
 case qc5=>simp
 case qc6=>simp
 intro v' w1 hown hgrow hnil
 go_wp2
 go_ret
 exact⟨v',rfl,by simpa using hown,((Below.refl _ w).alloc (Qbw _) _).grown hgrow (by simp) (by intro k hk;simp[Value.ownBlock]at hk;omega)⟩
theorem Fa6 {s:Sig}{G:Gh}{w:World}{vals:List Value}{ds:List D}(h:Fbk s vals w G ds)(hb:s.boxes=[]):oK (uQ s G w) G w :=
 ⟨rfl,rfl,rfl,Qbw _,fun b _ _=>⟨rfl,rfl⟩,fun b j hj he=>by
  obtain⟨h1,-⟩:=h.cells b j hj he
  rw[hb]at h1
  exact absurd h1 (Nat.not_lt_zero _),h.fresh⟩
theorem qN {s:Sig}{G:Gh}{w w':World}{vals:List Value}{ds:List D}{own':Nat->Ow}(h:Fbk s vals w G ds)(hb:s.boxes=[])(hbel:Below w.heap.size w w')(h1:∀ b,b<w.heap.size->own' b=G.own b)(h2:∀ b,w'.heap.size<=b->own' b=.frz) :
  oK (uQ s G w) { G with own:=own' } w' :=
 ⟨hbel.os,hbel.tape,hbel.output,hbel.size,fun b hlt _=>⟨hbel.block b hlt,h1 b hlt⟩,fun b j hj he=>by
  obtain⟨h1,-⟩:=h.cells b j hj he
  rw[hb]at h1
  exact absurd h1 (Nat.not_lt_zero _),h2⟩
theorem Eb1 (L:SlLaysE0.n41 P ρ){i0:TypeInfo}{z:Value}{size bytes m key:Nat}{T1:Nat->Ent}(hi:P.info? (ρ.t 23)=some i0)(hz0:i0.zero=some z)(hz1:i0.size=size)(hz2:i0.bytes=bytes)(hzs:z.cells.size=size)(hsz:0<size)
  (z23:∀ w,(Go.sizeOf (ρ.t 23)).run P w=.ok size w) (hK:∀ n,Eag P T1 n key ⟨ρ.f 41,[(false,[.fz false])],[],[(false,[.ow (m+1)])]⟩) :
  Fbf P ⟨ρ.f 41,[(false,[.fz false])],[],[(false,[.ow (m+1)])]⟩ (fun ds=>match ds with
   |[.rows _ []]=>some [.rows size []]
   |ds=>Fun T1 key ds):=by
 intro vals w G ds ds' hpre he
 by_cases hds:∃ sz,ds=[.rows sz []]
 ·obtain⟨sz,rfl⟩:=hds
  simp only[Option.some.injEq]at he
  subst he
  obtain⟨u,us,vs,rfl,⟨v,vs',rfl,⟨hrd,-⟩,rfl⟩,hsh,hnil⟩:=hpre.params
  simp only[Qbr,if_false]at hsh
  obtain rfl:v=u:=by simpa using hsh
  simp only[lM]at hnil
  subst hnil
  have hrd':Rd (fun b=>G.own b=.frz) w v (.rows sz []):=hrd
  obtain⟨A,a,n,c,vs,rfl,hn,hc,-,-⟩:=hrd'.inv
  obtain rfl:n=0:=hn.symm
  obtain⟨nm,hnm,hfn⟩:=L.f41
  refine .inl ⟨oU hfn hnm rfl _ _,?_⟩
  cases A with
  | none =>
   refine Calls.mono (AnyE.slices_Clone_nil L 0 c w) fun e w' ⟨h1,h2⟩=>?_
   subst h1;subst h2
   refine⟨G,[.slice none 0 0],rfl,Fa6 hpre rfl,⟨_,_,_,rfl,⟨_,_,rfl,?_,rfl⟩,rfl,rfl⟩,trivial,trivial⟩
   exact .sl none ⟨0,0,none⟩ 0 0 _ [] (fun _ _=>undef) rfl (Qbw _) (.inr ⟨rfl,rfl⟩) (by simp) (fun e=>by cases e) (by simp) (by simp)
  | some a' =>
   refine Calls.mono (Tae L i0 z size bytes hi hz0 hz1 hz2 hzs hsz z23 a' c w) fun e w' ⟨v',h1,h2,h3⟩=>?_
   subst h1
   rcases h2.2 with ⟨rfl,-⟩|⟨g,cap,cur,rfl,hg,hcell,-,-,hcur,-⟩
   ·refine⟨{ G with own:=G.own },[.slice none 0 0],rfl,qN hpre rfl h3 (fun _ _=>rfl) (fun b hb=>hpre.fresh b (Sbn h3.size hb)),⟨_,_,_,rfl,⟨_,_,rfl,?_,rfl⟩,rfl,rfl⟩,trivial,trivial⟩
    exact .sl none ⟨0,0,none⟩ 0 0 _ [] (fun _ _=>undef) rfl (Qbw _) (.inr ⟨rfl,rfl⟩) (by simp) (fun e=>by cases e) (by simp) (by simp)
   ·have hlt:g<w'.heap.size:=(Array.getElem?_eq_some_iff.1 hcell).1
    refine⟨{ G with own:=fun b=>if b=g then .slc 0 [] else G.own b },[.slice (some ⟨g,0,none⟩) 0 cap],rfl,qN hpre rfl h3 (fun b hb=>if_neg (by omega)) (fun b hb=>?_),⟨_,_,_,rfl,⟨_,_,rfl,?_,rfl⟩,rfl,rfl⟩,trivial,trivial⟩
    ·show (if b=g then _ else _)=_
     rw[if_neg (by omega)]
     exact hpre.fresh b (Sbn h3.size hb)
    ·refine .sl (some ⟨g,0,none⟩) ⟨g,0,none⟩ 0 cap _ [] (fun _ _=>undef) rfl (Sb5 _) (.inl rfl) (by simp) (fun _=>⟨rfl,if_pos rfl,fun k hk=>?_⟩) (by simp) (by simp)
     have hk':k<cur.size:=by omega
     refine⟨cur[k],?_,?_⟩
     ·have hb:((⟨g,0,none⟩:Addr).add k).block=g:=add_block _ _
      have ho:((⟨g,0,none⟩:Addr).add k)=⟨g,k,none⟩:=by unfold Addr.add;split<;>simp_all
      rw[ho]
      simp[World.cell?,hcell,hk']
     ·have ho:((⟨g,0,none⟩:Addr).add k)=⟨g,k,none⟩:=by unfold Addr.add;split<;>simp_all
      rw[ho]
      simp[World.frozen?,hcell]
 ·have he':Fun T1 key ds=some ds':=by
   dsimp only at he
   split at he
   ·rename_i sz
    exact absurd ⟨sz,rfl⟩ hds
   ·exact he
  obtain⟨n,hn⟩:=Hac.1 he'
  exact hK n vals w G ds ds' hpre hn
def Qa6 (P:Program)(t:TypeId):Option Nat:=match P.info? t with
 | some i => match i.zero with
  |some z=>if z.cells.size=i.size/\0<i.size then some i.size else none
  |none=>none
 |none=>none
noncomputable def Ab8 (size:Nat)(T1:Nat->Ent)(key:Nat):List D->Option (List D):=fun ds=>match ds with
 |[.rows _ []]=>some [.rows size []]
 |ds=>Fun T1 key ds
theorem Qa5 (L:SlLaysE0.n41 P ρ){size m key f:Nat}{T T1:Nat->Ent}{ti:Nat->Option TI}{sigs:List (Nat×Sig)}(hf:ρ.f 41=f)(h:Qa6 P (ρ.t 23)=some size)(z23:∀ w,(Go.sizeOf (ρ.t 23)).run P w=.ok size w)
  (hK:∀ n,Eag P T1 n key ⟨f,[(false,[.fz false])],[],[(false,[.ow (m+1)])]⟩) (hT:T key=.ext (Ab8 size T1 key)) :
  Tam P T ti sigs key ⟨f,[(false,[.fz false])],[],[(false,[.ow (m+1)])]⟩:=by
 subst hf
 unfold Qa6 at h
 split at h
 ·rename_i i hi
  split at h
  ·rename_i z hz
   split at h
   ·rename_i h1
    cases h
    exact .inr ⟨_,hT,Eb1 L hi hz rfl rfl h1.1 h1.2 z23 hK⟩
   ·cases h
  ·cases h
 ·cases h
end
end Go.Proofs.YtdpfilpckndhcaaGreatDoor.Rf

namespace Go.Proofs.YtdpfilpckndhcaaGreatDoor.Rf
set_option linter.unusedVariables false
set_option linter.unusedSimpArgs false
open Go.RowKit
section
variable {P:Program}
end
end Go.Proofs.YtdpfilpckndhcaaGreatDoor.Rf

namespace Go.Proofs.YtdpfilpckndhcaaGreatDoor.Rf
set_option linter.unusedVariables false
set_option linter.unusedSimpArgs false
section
variable {P:Program}
def Ebz (l:List UInt8)(c:Int):Int:=(l.count c.toNat.toUInt8:Nat)
def Mb8 (l:List UInt8)(c:Int):Int:=Lib.indexByte l c.toNat.toUInt8
def Hb6:List D->Option (List D)
 |[.str l,.int .u8 c]=>some [.int .i64 (Ebz l c)]
 |_=>none
def ixE:List D->Option (List D)
 |[.str l,.int .u8 c]=>some [.int .i64 (Mb8 l c)]
 |_=>none
def Naj (f:Nat):Sig:=⟨f,[(false,[.sc]),(false,[.sc])],[],[(false,[.sc])]⟩
theorem Zax {f:Nat}{g:List UInt8->Int->Int}(h:∀ (s:ByteArray) (c:Int) w,(callFunc f #[.string s,.int .u8 c]).run P w=.ok (.value (.int .i64 (g s.data.toList c))) w)(e:List D->Option (List D))
  (he:∀ ds ds',e ds=some ds'->∃ l c,ds=[.str l,.int .u8 c]/\ds'=[.int .i64 (g l c)]):Fbf P (Naj f) e:=by
 intro vals w G ds ds' hpre hr
 obtain⟨l,c,rfl,rfl⟩:=he _ _ hr
 obtain⟨u,us,vs,rfl,⟨v,vs',rfl,hs1,rfl⟩,hsh,u2,us2,vs2,rfl,⟨v2,vs3,rfl,hsc,rfl⟩,hsh2,hnil⟩:=hpre.params
 simp only[Qbr,if_false]at hsh hsh2
 obtain rfl:v=u:=by simpa using hsh
 obtain rfl:v2=u2:=by simpa using hsh2
 simp only[lM]at hnil
 subst hnil
 have hs1':Sc v (.str l):=hs1
 have hsc':Sc v2 (.int .u8 c):=hsc
 obtain rfl:v=.string ⟨l.toArray⟩:=by cases hs1';rfl
 obtain rfl:v2=.int .u8 c:=by cases hsc';rfl
 refine .inr ⟨_,w,h ⟨l.toArray⟩ c w,?_⟩
 exact⟨G,[.int .i64 (g l c)],rfl,Fa6 hpre rfl,⟨_,_,_,rfl,⟨_,_,rfl,.int _ _,rfl⟩,rfl,rfl⟩,trivial,trivial⟩
theorem Ab4 {f key:Nat}{T:Nat->Ent}{ti:Nat->Option TI}{sigs:List (Nat×Sig)}(h:∀ (s:ByteArray) (c:Int) w,(callFunc f #[.string s,.int .u8 c]).run P w=.ok (.value (.int .i64 (Lib.countByte s.data.toList c.toNat.toUInt8:Nat))) w)(hT:T key=.ext Hb6):Tam P T ti sigs key (Naj f) :=
 .inr ⟨_,hT,Zax (g:=Ebz) h _ (fun ds ds' he=>by
  unfold Hb6 at he
  split at he
  ·exact⟨_,_,rfl,(Option.some.inj he).symm⟩
  ·cases he)⟩
theorem Fbv {f key:Nat}{T:Nat->Ent}{ti:Nat->Option TI}{sigs:List (Nat×Sig)}(h:∀ (s:ByteArray) (c:Int) w,(callFunc f #[.string s,.int .u8 c]).run P w=.ok (.value (.int .i64 (Lib.indexByte s.data.toList c.toNat.toUInt8))) w)(hT:T key=.ext ixE):Tam P T ti sigs key (Naj f) :=
 .inr ⟨_,hT,Zax (g:=Mb8) h _ (fun ds ds' he=>by
  unfold ixE at he
  split at he
  ·exact⟨_,_,rfl,(Option.some.inj he).symm⟩
  ·cases he)⟩
end
end Go.Proofs.YtdpfilpckndhcaaGreatDoor.Rf

namespace Go.Proofs.YtdpfilpckndhcaaGreatDoor.Rf
set_option linter.unusedVariables false
set_option linter.unusedSimpArgs false
open Go.ChangeShapes Go.RowKit in
theorem Pa2 {C : Checked} {XG : (Nat -> Ow) -> World -> Prop} {X : World -> Array Value -> Prop} {spec : ChangeSpec} {T : Nat -> Ent} {key : Nat} {s : Sig} {fn : Func} {c : Code} {conds : List PathCond} (hX : ∀ (w w' : World) (args : Array Value), w.heap = w'.heap -> X w args -> X w' args) (own : ownKnob C.prog.godebug = none) (laid : laidOutB C.prog = true) (hXG : ∀ w args, X w args -> XG (fun _ => .frz) w) (hc : ∀ n, sU C.prog XG T n key s) (hfn : C.prog.funcs[s.fn]? = some fn) (hname : (fn.name == "runtime.NumGoroutine") = false) (hbody : fn.body = some c)
  {tys:List Ty} (hpar:vK C.prog fn.params.toList=some (s.params,tys)) (hbx:s.boxes=[]) (hres:s.results=[(false,[.sc])]) (hpure:∀ ds,WTs tys ds->∃ n,kY T n key ds=some [.bool true])
  (hread:(fn.params.toList.all fun t=>C.prog.readableRec t&&decide (t<C.prog.types.size))=true) {rt:TypeId} (hrt:fn.resultTypes=#[rt]) (hrb:C.prog.underlying rt=some .bool)
  (hvars:spec.vars=[]) (hspec:∀ (H:Type) (ds:List (DataW H)),ds.length=fn.params.size->spec.fn H ds={ results:=[.lit (.bool true)],args:=ds,vars:=[] }) (hinit:C.prog.inits.idxOf? s.fn=none)
  (os:Os) (started:os.Started) (H:Type) (enc:TypeId×Value->H)
  (witness:∃ (w:World) (tape:Tape) (i:Input),w.os=os/\(w.forCall tape i).Shaped C.prog/\i.vars=[]/\Input.okWide C.prog (w.forCall tape i) .any w.heap.size s.fn i /\
   ((spec.pre enc C.prog fn conds false (w.forCall tape i).memory i.args/\X (w.forCall tape i).memory i.args)/\sizedMet enc C.prog fn (OpenSpec.ofChange spec) false (w.forCall tape i).memory i.args)/\({}:Assume).holds C.prog (lone (Frame.enter C.prog s.fn i.args .normal) [] (w.forCall tape i))) :
  ReturnsInHanded {} C os s.fn .any (fun w args=>(spec.pre enc C.prog fn conds false w args/\X w args)/\sizedMet enc C.prog fn (OpenSpec.ofChange spec) false w args) (spec.post enc C.prog fn false true false false):=by
 refine returnsInHanded_of_change_and hX own started hinit hfn witness ?_
 intro W base args ds gs before hval hW _ hsz hx _
 have hW':=hW
 obtain⟨p,q,hA,hV,rfl,hfz,hnd⟩:=hW
 rw[hvars]at hV
 obtain⟨rfl,rfl⟩:=trodVars_none hV
 have hvt:spec.plain.varTypes C.prog=[]:=by
  simp[ChangeSpec.plain,DataSpec.varTypes,hvars]
 rw[hvt,Rbm,Rbm]at hsz
 have hlen:∀ {ts:List TypeId} {vs:List Value} {ds:List (DataW H)} {ps:List MemPlace},DataW.TrodAll enc C.prog W 0 (fun _=>true) true ts vs ds ps->ds.length=ts.length:=by
  intro ts
  induction ts with
  | nil =>
   intro vs ds ps h
   cases vs<;>cases ds<;>first|rfl|exact h.elim
  | cons t ts ih =>
   intro vs ds ps h
   cases vs<;>cases ds<;>first|exact h.elim|skip
   obtain⟨p,q,-,h2,-⟩:=h
   simp[ih h2]
 have hl:=hlen hA
 refine (Waa hc hfn hname hbody hpar hbx hres hpure hval hA (fun m hm=>?_) (hXG _ _ hx)).mono fun e W' ⟨he,bel⟩=>?_
 ·rw[Rbg]at hsz
  simpa using hsz m hm
 ·subst he
  have hsp:=hspec H (ds++[]) (by simpa using hl)
  refine⟨_,rfl,ds,[],_,[],p,[],hW',?_,?_,?_,bel.frame _,fun h=>by cases h⟩
  ·rw[hsp,hrt]
   exact trodAll_mk1 (shut_bool hrb _)
  ·rw[hsp]
   simp only[Rbm]
   exact Cag laid bel hread hA
  ·rw[hsp,hvars]
   rfl
end Go.Proofs.YtdpfilpckndhcaaGreatDoor.Rf

namespace Go.Proofs.YtdpfilpckndhcaaGreatDoor.Rf
set_option linter.unusedVariables false
set_option linter.unusedSimpArgs false
open Go.Proofs Go.Shelf Go.RowKit Go.Lib
section
variable {P:Program} {ρ:Ren}
def strsOf:List (List D)->Option (List (List UInt8))
 |[]=>some []
 |[.str s]::r=>(strsOf r).map (s::·)
 |_=>none
def Nap:List D->Option (List D)
 |[.rows _ rs,.str sep]=>(strsOf rs).bind fun xs=>if xs≠[]/\xs.length<=140737488355328/\(Lib.join xs sep).length<=140737488355328 then some [.str (Lib.join xs sep)] else none
 |_=>none
theorem Kak:∀ {rs:List (List D)} {xs:List (List UInt8)},strsOf rs=some xs->xs.length=rs.length/\∀ (i:Nat) (s:List UInt8),xs[i]?=some s->rs[i]?=some [D.str s]
 | [], xs, h => by
  obtain rfl:=Option.some.inj h
  exact⟨rfl,fun i s hi=>by simp at hi⟩
 | r :: rs, xs, h => by
  unfold strsOf at h
  split at h
  ·rename_i he;cases he
  ·rename_i s r' he
   obtain⟨rfl,rfl⟩:=List.cons.inj he
   rw[Qb8]at h
   obtain⟨ys,h1,rfl⟩:=h
   obtain⟨h2,h3⟩:=Kak h1
   refine⟨by simp[h2],fun i t hi=>?_⟩
   cases i with
   | zero =>
    simp only[List.getElem?_cons_zero,Option.some.injEq]at hi ⊢
    rw[hi]
   | succ i =>
    simp only[List.getElem?_cons_succ]at hi ⊢
    exact h3 i t hi
  ·cases h
theorem cell_spot {w:World}{a:Addr}{v:Value}(h:w.cell? (a.add 0)=some v):a=⟨a.block,a.off,none⟩/\a.block<w.heap.size:=by
 have e:a.add 0=a:=if_pos rfl
 rw[e]at h
 unfold World.cell? at h
 split at h
 ·rename_i c t f hb
  split at h
  ·cases h
  ·rename_i hs
   refine⟨?_,(Array.getElem?_eq_some_iff.1 hb).1⟩
   cases a with
   | mk b o s =>
    cases s with
    |none=>rfl
    |some x=>simp at hs
 ·cases h
def Hbf (f:Nat):Sig:=⟨f,[(false,[.fz false]),(false,[.sc])],[],[(false,[.sc])]⟩
theorem Za1 (L:Lays.n156 P ρ)(X:Builder.Extra P ρ):Fbf P (Hbf (ρ.f 156)) Nap:=by
 intro vals w G ds ds' hpre hr
 unfold Nap at hr
 split at hr
 case h_2=>cases hr
 rename_i sz rs sep
 rw[Option.bind_eq_some_iff]at hr
 obtain⟨xs,hxs,hr⟩:=hr
 split at hr
 case isFalse=>cases hr
 rename_i hc
 obtain rfl:=Option.some.inj hr
 obtain⟨hne,hN,hlen⟩:=hc
 obtain⟨u,us,vs,rfl,⟨v,vs',rfl,⟨hrd,-⟩,rfl⟩,hsh,u2,us2,vs2,rfl,⟨v2,vs3,rfl,hsc,rfl⟩,hsh2,hnil⟩:=hpre.params
 simp only[Qbr,if_false]at hsh hsh2
 obtain rfl:v=u:=by simpa using hsh
 obtain rfl:v2=u2:=by simpa using hsh2
 simp only[lM]at hnil
 subst hnil
 have hrd':Rd (fun b=>G.own b=.frz) w v (.rows sz rs):=hrd
 have hsc':Sc v2 (.str sep):=hsc
 obtain rfl:v2=.string ⟨sep.toArray⟩:=by cases hsc';rfl
 obtain⟨A,a,n,c,cv,rfl,hn,hcap,hA,hsz,hcell,hrec⟩:=hrd'.inv
 obtain⟨hxl,hxg⟩:=Kak hxs
 have hpos:0<xs.length:=List.length_pos_iff.2 hne
 have hr0:=hxg 0 xs[0] (by rw[Qbz hpos])
 have hsz1:sz=1:=by
  have:=hsz _ (List.mem_of_getElem? hr0)
  simpa using this.symm
 subst hsz1
 obtain rfl:A=some a:=hA.resolve_left (by omega)
 have hc0:=(hcell 0 _ hr0 0 (.str xs[0]) rfl).2
 obtain⟨ea,hblk⟩:=cell_spot (by simpa using hc0)
 have hadd:∀ j,a.add j=⟨a.block,a.off+j,none⟩:=by
  intro j
  rw[ea]
  unfold Addr.add
  split
  ·rename_i h0;subst h0;rfl
  ·rfl
 have hcells:∀ (j:Nat) (x:ByteArray),(xs.map fun s=>(⟨s.toArray⟩:ByteArray))[j]?=some x->w.cell? ⟨a.block,a.off+j,none⟩=some (.string x):=by
  intro j x hj
  rw[Rbu,Qb8]at hj
  obtain⟨s,hs,rfl⟩:=hj
  have h1:=hxg j s hs
  have h2:=(hcell j _ h1 0 (.str s) rfl).2
  rw[Nat.mul_one,Rby,hadd]at h2
  rw[h2]
  have h3:Rd (fun b=>G.own b=.frz) w (cv j 0) (.str s):=hrec j _ h1 0 (.str s) rfl
  revert h3
  generalize cv j 0=x
  intro h3
  cases h3 with
  |sc h=>cases h;rfl
 have hmap:(xs.map fun s=>(⟨s.toArray⟩:ByteArray)).map (·.data.toList)=xs:=by
  rw[List.map_map]
  conv=>rhs;rw[<- List.map_id xs]
  exact List.map_congr_left fun s _=>by simp
 have hJ:=Any.strings_Join L X a.block a.off c (xs.map fun s=>(⟨s.toArray⟩:ByteArray)) ⟨sep.toArray⟩ w hcells hblk (by simpa using hN) (by rw[Rbf];omega) (by rw[hmap];simpa using hlen)
 rw[hmap,Rbf,hxl,hn,<- ea]at hJ
 refine .inl ⟨oU L.f156 rfl rfl _ _,?_⟩
 refine Calls.mono hJ fun e w' ⟨h1,h2⟩=>?_
 subst h1
 refine⟨{ G with own:=G.own },[.string ⟨(Lib.join xs sep).toArray⟩],rfl,qN hpre rfl h2 (fun _ _=>rfl) (fun b hb=>hpre.fresh b (Sbn h2.size hb)),⟨_,_,_,rfl,⟨_,_,rfl,.str _,rfl⟩,rfl,rfl⟩,trivial,trivial⟩
def Eam : String := "internal/strconv.uint64pow10"
def vH (P:Program):(Nat->Ow)->World->Prop:=fun own w=>∃ b,P.globalNamed Eam=some b/\b<w.heap.size/\own b=.frz/\Lib.TabIs P w Eam .u64 Lib.pow10Tab
theorem Ca9:Stable (vH P):=by
 rintro own0 w0 own w hs hk ⟨b,h1,h2,h3,h4⟩
 obtain⟨h5,h6⟩:=hk b h2 h3
 refine⟨b,h1,Nat.lt_of_lt_of_le h2 hs,h6,?_⟩
 unfold Lib.TabIs World.var? at h4 ⊢
 rw[h1,Qb3]at h4 ⊢
 rw[h5]
 exact h4
def Ebm:List D->Option (List D)
 |[.int .i64 n,.int .i64 b]=>if b=10/\-9223372036854775808<=n/\n<=9223372036854775807 then some [.str (Lib.itoa n)] else none
 |_=>none
theorem Fbz (L:LaysM.n246 P ρ):Gba P (vH P) (Naj (ρ.f 246)) Ebm:=by
 intro vals w G ds ds' hpre hX hr
 unfold Ebm at hr
 split at hr
 case h_2=>cases hr
 rename_i n b
 split at hr
 case isFalse=>cases hr
 rename_i hc
 obtain⟨rfl,hn0,hn1⟩:=hc
 obtain rfl:=Option.some.inj hr
 obtain⟨u,us,vs,rfl,⟨v,vs',rfl,hs1,rfl⟩,hsh,u2,us2,vs2,rfl,⟨v2,vs3,rfl,hsc,rfl⟩,hsh2,hnil⟩:=hpre.params
 simp only[Qbr,if_false]at hsh hsh2
 obtain rfl:v=u:=by simpa using hsh
 obtain rfl:v2=u2:=by simpa using hsh2
 simp only[lM]at hnil
 subst hnil
 have hs1':Sc v (.int .i64 n):=hs1
 have hsc':Sc v2 (.int .i64 10):=hsc
 obtain rfl:v=.int .i64 n:=by cases hs1';rfl
 obtain rfl:v2=.int .i64 10:=by cases hsc';rfl
 obtain⟨b,-,-,-,htab⟩:=hX
 have hF:=Any.internal_strconv_FormatInt_10 L n hn0 hn1 w htab
 refine .inl ⟨oU L.f246 rfl rfl _ _,?_⟩
 refine Calls.mono hF fun e w' ⟨h1,k,os,h2⟩=>?_
 subst h1
 have hb:Below w.heap.size w w':=by rw[h2];exact below_grow _ _ (Qbw _) _ _
 refine⟨{ G with own:=G.own },[.string ⟨(Lib.itoa n).toArray⟩],rfl,qN hpre rfl hb (fun _ _=>rfl) (fun b hb'=>hpre.fresh b (Sbn hb.size hb')),⟨_,_,_,rfl,⟨_,_,rfl,.str _,rfl⟩,rfl,rfl⟩,trivial,trivial⟩
theorem Uam {W:World}{name:String}{k:IntKind}{zs:List Int}{g:Nat}{t e:TypeId}{n:Nat}
  (hg:P.globalNamed name=some g) (hty:(P.globals[g]?).map (·.type)=some t) (ht:P.underlying t=some (.array n e)) (he:P.underlying e=some (.int k)) (hce:P.cellsOf e=1) (hct:P.cellsOf t=n) :
  ∀ {l:List (String×DataW Unit)} {ps:List MemPlace},DataW.LaidVars P W l ps->(name,Lib.tabData k zs)∈l->Lib.TabIs P W name k zs
 |[],_,_,hm=>by cases hm
 | (nm, d) :: rest, ps, h, hm => by
  obtain⟨g',t',cs,fuel,p,q,hg',ht',hvar,hd,hs,_⟩:=h
  rcases List.mem_cons.1 hm with e|hm
  ·obtain⟨e1,e2⟩:=Prod.mk.inj e
   subst e1;subst e2
   obtain rfl:=Option.some.inj (hg.symm.trans hg')
   obtain rfl:=Option.some.inj (hty.symm.trans ht')
   unfold Lib.TabIs
   rw[hvar,<- Lib.cells_of_tab ht he hce hct hd]
  ·exact Uam hg hty ht he hce hct hs hm
theorem Uad {W:World}{g:Nat}{t e:TypeId}{n:Nat}
  (hg:P.globalNamed Eam=some g) (hty:(P.globals[g]?).map (·.type)=some t) (ht:P.underlying t=some (.array n e)) (he:P.underlying e=some (.int .u64)) (hce:P.cellsOf e=1) (hct:P.cellsOf t=n)
  {l:List (String×DataW Unit)} (h:laidMet P l W) (hm:(Eam,Lib.tabData .u64 Lib.pow10Tab)∈l):vH P (fun _=>.frz) W:=by
 obtain⟨ps,h1,-⟩:=h
 have htab:=Uam hg hty ht he hce hct h1 hm
 refine⟨g,hg,?_,rfl,htab⟩
 unfold Lib.TabIs World.var? at htab
 rw[hg,Qb3]at htab
 split at htab
 ·rename_i c t' f hb
  exact (Array.getElem?_eq_some_iff.1 hb).1
 ·cases htab
theorem fcX {X:(Nat->Ow)->World->Prop}{T:Nat->Ent}{ti:Nat->Option TI}{sigs:List (Nat×Sig)}{a:Nat×Sig}{l:List (Nat×Sig)}(h:Tam P T ti sigs a.1 a.2)(h':∀ x∈l,Ja7 P X T ti sigs x.1 x.2):∀ x∈a::l,Ja7 P X T ti sigs x.1 x.2:=List.forall_mem_cons.2 ⟨h.toX,h'⟩
theorem Qai {X:(Nat->Ow)->World->Prop}{T:Nat->Ent}{ti:Nat->Option TI}{sigs:List (Nat×Sig)}(h:∀ p∈sigs,Ja7 P X T ti sigs p.1 p.2):∀ key s,(key,s)∈sigs->Ja7 P X T ti sigs key s:=fun key s hm=>h (key,s) hm
end
end Go.Proofs.YtdpfilpckndhcaaGreatDoor.Rf

namespace Go.Proofs.YtdpfilpckndhcaaGreatDoor.Rf
set_option linter.unusedVariables false
set_option linter.unusedSimpArgs false
def ltQ (p q:Int×Int):Bool:=decide (p.1<q.1)||(p.1==q.1&&decide (p.2<q.2))
theorem Sap {p q:Int×Int}:ltQ p q=true↔p.1<q.1\/(p.1=q.1/\p.2<q.2):=by
 unfold ltQ
 simp only[Rbw,Qbq,decide_eq_true_eq,beq_iff_eq]
theorem Iad {p q:Int×Int}:ltQ p q=false↔q.1<p.1\/(p.1=q.1/\q.2<=p.2):=by
 rw[<- Bool.not_eq_true,Sap]
 omega
theorem Eba {p q:Int×Int}(h:ltQ p q=false)(h':ltQ q p=false):p=q:=by
 rw[Iad]at h h'
 apply Prod.ext<;>omega
def Hbh {β:Type}(k:β->Int×Int)(x:β):List β->List β
 |[]=>[x]
 |y::r=>if ltQ (k x) (k y) then x::y::r else y::Hbh k x r
def Ra9 {β:Type}(k:β->Int×Int):List β->List β
 |[]=>[]
 |x::r=>Hbh k x (Ra9 k r)
theorem Iam {β:Type}(k:β->Int×Int)(x:β):∀ l:List β,(Hbh k x l).Perm (x::l)
 |[]=>.refl _
 | y :: r => by
  unfold Hbh
  split
  ·exact .refl _
  ·exact ((Iam k x r).cons y).trans (.swap x y r)
theorem Kap {β:Type}(k:β->Int×Int):∀ l:List β,(Ra9 k l).Perm l
 |[]=>.refl _
 |x::r=>(Iam k x _).trans ((Kap k r).cons x)
def Oac {β:Type}(k:β->Int×Int)(l:List β):Prop:=l.Pairwise fun x y=>ltQ (k y) (k x)=false
theorem Ial {β:Type}(k:β->Int×Int)(x:β):∀ {l:List β},Oac k l->Oac k (Hbh k x l)
 |[],_=>by unfold Hbh Oac;simp
 | y :: r, h => by
  obtain⟨h1,h2⟩:=List.pairwise_cons.1 h
  unfold Hbh
  split
  ·rename_i hx
   refine List.pairwise_cons.2 ⟨fun z hz=>?_,h⟩
   rw[Sap]at hx
   rcases List.mem_cons.1 hz with rfl|hz
   ·rw[Iad];omega
   ·have:=h1 z hz
    rw[Iad]at this ⊢
    omega
  ·rename_i hx
   refine List.pairwise_cons.2 ⟨fun z hz=>?_,Ial k x h2⟩
   rcases List.mem_cons.1 ((Iam k x r).mem_iff.1 hz) with rfl|hz
   ·simpa using hx
   ·exact h1 z hz
theorem Fau {β:Type}(k:β->Int×Int):∀ l:List β,Oac k (Ra9 k l)
 |[]=>List.Pairwise.nil
 |x::r=>Ial k x (Fau k r)
def Nb1 (p:Int×Int):D:=.rows 1 [[.int .i64 p.1],[.int .i64 p.2]]
section
open Go.Proofs Go.Shelf Go.Sort
variable {P:Program} {ρ:Ren} {own:Nat->Ow} {w:World}
end
section
open Go.Proofs Go.Shelf Go.Sort
variable {P:Program} {ρ:Ren} {own:Nat->Ow} {w:World}
def Fb9 (own:Nat->Ow)(w:World)(v:Value)(p:Int×Int):Prop :=
 ∃ a c,v=.slice (some a) 2 c/\2<=c/\own a.block=.frz/\w.cell? a=some (.int .i64 p.1)/\w.cell? (a.add 1)=some (.int .i64 p.2)
theorem Fb9.rd {v:Value}{p:Int×Int}(h:Fb9 own w v p):Rd (fun b=>own b=.frz) w v (Nb1 p):=by
 obtain⟨a,c,rfl,hc,ho,h1,h2⟩:=h
 have e0:a.add 0=a:=if_pos rfl
 refine .rows (some a) a 2 c 1 _ (fun i _=>if i=0 then .int .i64 p.1 else .int .i64 p.2) rfl hc (.inr rfl) (by simp) (fun i r hi j d hj=>?_) (fun i r hi j d hj=>?_)
 ·match i,j with
  |0,0=>exact⟨ho,by simpa[e0] using h1⟩
  |1,0=>exact⟨ho,by simpa using h2⟩
  |0,j+1=>simp at hi;subst hi;simp at hj
  |1,j+1=>simp at hi;subst hi;simp at hj
  |i+2,_=>simp at hi
 ·match i,j with
  |0,0=>simp at hi;subst hi;simp at hj;subst hj;exact .sc (.int _ _)
  |1,0=>simp at hi;subst hi;simp at hj;subst hj;exact .sc (.int _ _)
  |0,j+1=>simp at hi;subst hi;simp at hj
  |1,j+1=>simp at hi;subst hi;simp at hj
  |i+2,_=>simp at hi
end
section
open Go.Proofs Go.Shelf Go.Sort
variable {P:Program} {ρ:Ren} {own:Nat->Ow} {w:World}
end
end Go.Proofs.YtdpfilpckndhcaaGreatDoor.Rf

namespace Go.Proofs.YtdpfilpckndhcaaGreatDoor.Rf
set_option linter.unusedVariables false
set_option linter.unusedSimpArgs false
section
open Go.Proofs Go.Shelf Go.RowKit Go.Lib Go.Sort
variable {P:Program} {ρ:Ren}
set_option maxHeartbeats 4000000 in
set_option maxRecDepth 1000000 in
theorem Hbx (L:SlLaysE0.n45 P ρ){K:Nat}{i0:TypeInfo}{z:Value}(hi0:P.info? (ρ.t 23)=some i0)(hz0:i0.zero=some z)(hz1:i0.size=K)(hzs:z.cells.size=K)(hK:0<K)(hzo:∀ u∈z.cells.toList,u.oneCell'=true)
  (z23:∀ w,(Go.sizeOf (ρ.t 23)).run P w=.ok K w) (blk off n cap i j:Nat) (w:World) (olds:List Value) (hol:olds.length=n*K) (hoc:∀ k u,olds[k]?=some u->w.cell? ⟨blk,off+k,none⟩=some u) (ho1:∀ u∈olds,u.oneCell'=true)
  (hall:∀ k,k<cap*K->∃ u,w.cell? ⟨blk,off+k,none⟩=some u/\w.frozen? ⟨blk,off+k,none⟩=false) (hcap:n<=cap) (hn:n<=4611686018427387904) (hij:i<=j) (hj:j<=n) :
  Calls P (ρ.f 45) #[.slice (some ⟨blk,off,none⟩) n cap,.int .i64 i,.int .i64 j] w fun e w'=>e=.returned (.slice (some ⟨blk,off,none⟩) (n-(j-i)) cap) /\
   ((i=j/\w'=w)\/(i<j/\w'=(w.drew.setCells blk (off+i*K) (olds.drop (j*K))).setCells blk (off+(i+(n-j))*K) (Builtin.zeroCells z.cells (n-(i+(n-j)))).toList)):=by
 have mixed:=L.mixed;have t0:=L.t0;have a0:=L.a0;have z0:=L.z0;have v0:=L.v0;have t3:=L.t3;have a3:=L.a3;have z3:=L.z3;have v3:=L.v3;have t4:=L.t4;have a4:=L.a4;have z4:=L.z4;have v4:=L.v4;have t22:=L.t22;have a22:=L.a22;have z22:=L.z22;have v22:=L.v22
 by_cases heq:i=j
 ·subst heq
  have h0:Calls P (ρ.f 45) #[.slice (some ⟨blk,off,none⟩) n cap,.int .i64 i,.int .i64 i] w fun e w'=>e=.returned (.slice (some ⟨blk,off,none⟩) n cap)/\w'=w:=by
   clear hoc ho1 hall hol
   obtain⟨_,_,FG⟩:=L.f45
   go_enter FG,SlBodyN.n45_ntmps ρ
   go_wp2
   all_goals (go_ret;exact⟨rfl,rfl⟩)
  refine h0.mono ?_
  rintro e w' ⟨rfl,rfl⟩
  exact⟨by rw[Nat.sub_self,Nat.sub_zero],.inl ⟨rfl,rfl⟩⟩
 ·have hlt:i<j:=by omega
  obtain⟨news,hnews⟩:∃ news,news=olds.drop (j*K):=⟨_,rfl⟩
  have hlen:news.length=(n-j)*K:=by rw[hnews,List.length_drop,hol,Nat.sub_mul]
  have hjc:cap≠j->j<cap:=by omega
  have hmul:∀ a b:Nat,a<=b->a*K<=b*K:=fun a b h=>Sbd K h
  obtain⟨A,hA,hsrc⟩:∃ A:Addr,(if cap=j then (some (⟨blk,off,none⟩:Addr)) else some ⟨blk,off+j*K,none⟩)=some A/\Hid (∀ t u,news[t]?=some u->w.drew.cell? (A.add t)=some u):=by
   by_cases h:cap=j
   ·refine⟨⟨blk,off,none⟩,by simp[h],fun t u hu=>?_⟩
    have h0:news.length=0:=by rw[hlen,show n-j=0 by omega,Nat.zero_mul]
    rw[List.length_eq_zero_iff.1 h0]at hu
    simp at hu
   ·refine⟨⟨blk,off+j*K,none⟩,by simp[h],fun t u hu=>?_⟩
    rw[hnews,List.getElem?_drop]at hu
    have:=hoc _ u hu
    rw[Addr.add_lit,show off+j*K+t=off+(j*K+t) by omega]
    exact this
  have s1:Hid (news.length=(n-j)*K):=hlen
  have s2:Hid (∀ u∈news,u.oneCell'=true):=fun u hu=>ho1 u (List.mem_of_mem_drop (hnews▸hu))
  have hroom:i*K+(n-j)*K<=cap*K:=by rw[<- Nat.add_mul];exact hmul _ _ (by omega)
  have s3:Hid (∀ t,t<news.length->(w.drew.cell? ⟨blk,off+i*K+t,none⟩).isSome=true/\w.drew.frozen? ⟨blk,off+i*K+t,none⟩=false):=by
   intro t ht
   rw[hlen]at ht
   obtain⟨u,h1,h2⟩:=hall (i*K+t) (by omega)
   rw[Rbi]
   exact⟨by show (w.cell? _).isSome=true;rw[h1];rfl,h2⟩
  obtain⟨W1,hW1⟩:∃ W1,W1=w.drew.setCells blk (off+i*K) news:=⟨_,rfl⟩
  have hall1:∀ k,k<cap*K->∃ u,W1.cell? ⟨blk,off+k,none⟩=some u/\W1.frozen? ⟨blk,off+k,none⟩=false:=by
   intro k hk
   obtain⟨u,h1,h2⟩:=hall k hk
   rw[hW1]
   obtain⟨u',h3⟩:=qI (w:=w.drew) (B:=blk) (o:=off+i*K) (vs:=news) (b:=⟨blk,off+k,none⟩) (fun _=>rfl) (fun t ht=>(s3.out t ht).1) h1
   exact⟨u',h3,by rw[World.frozen?_setCells];exact h2⟩
  generalize hZ:(Builtin.zeroCells z.cells (n-(i+(n-j)))).toList=Z
  have hZl:Z.length=(n-(i+(n-j)))*K:=by rw[<- hZ];simp[Builtin.zeroCells,hzs]
  have hZ1:∀ u∈Z,u.oneCell'=true:=by
   intro u hu
   rw[<- hZ,Builtin.zeroCells,Array.mem_toList_iff,Array.mem_map]at hu
   obtain⟨q,hq,rfl⟩:=hu
   have hlt:q % z.cells.size<z.cells.size:=Nat.mod_lt _ (by omega)
   rw[getElem!_pos z.cells _ hlt]
   exact hzo _ (Array.getElem_mem_toList hlt)
  have hcl:∀ ty,(Builtin.clear_ #[ρ.t 22] ty #[.slice (some ⟨blk,off+(i+(n-j))*K,none⟩) (n-(i+(n-j))) (cap-(i+(n-j)))]).run P W1=.ok (.tuple #[]) (W1.setCells blk (off+(i+(n-j))*K) Z):=by
   intro ty
   have hcells:∀ t,t<Z.length->∃ u,W1.cell? ⟨blk,off+(i+(n-j))*K+t,none⟩=some u/\W1.frozen? ⟨blk,off+(i+(n-j))*K+t,none⟩=false:=fun t ht=>by
    have h1:(i+(n-j))*K+(n-(i+(n-j)))*K<=cap*K:=by rw[<- Nat.add_mul];exact hmul _ _ (by omega)
    have:=hall1 ((i+(n-j))*K+t) (by omega)
    rwa[<- Rbi]at this
   have hst:=run_storeCells_cells (P:=P) blk (off+(i+(n-j))*K) Z 0 W1 (fun t ht=>by obtain⟨u,h1,-⟩:=hcells t ht;rw[Rby,h1];rfl) (fun t ht=>by rw[Rby];exact (hcells t ht).choose_spec.2) hZ1
   obtain⟨q,hq⟩:∃ q,n-(i+(n-j))=q+1:=⟨n-(i+(n-j))-1,by omega⟩
   rw[hq]at hZ ⊢
   simp only[Rby]at hst
   simp[Builtin.clear_,run_underlying t22,nD hi0 hz0,hZ,hst]
  have hW:Hid (W1=w.drew.setCells blk (off+i*K) news):=hW1
  have hn':Hid (news=olds.drop (j*K)):=hnews
  have hic:i<=cap:=by omega
  have hjc:j<=cap:=by omega
  have hK0:Hid (0<K):=hK
  clear hW1 hnews hlen hall1 hall hoc ho1 hol hmul hroom hZ hZl hZ1 hK
  obtain⟨_,_,FG⟩:=L.f45
  go_enter FG,SlBodyN.n45_ntmps ρ
  go_wp2_with fail
  go_region_law_o (refine step_append_room rfl (.tmp 22) (.tmp 25) (ρ.t 22) rfl (ρ.t 23) i0 K t22 hi0 hz1 blk off i cap (by simp[Act.eval,Act.put]) A (n-j) (cap-j) news (by simp[Act.eval,Act.put]) s1.out hsrc.out s2.out (by omega) s3.out ?_;rw[<- hW.out])
  go_wp2
  go_ret
  refine⟨by rw[show n-(j-i)=i+(n-j) by omega];rfl,.inr ⟨hlt,?_⟩⟩
  rw[hW.out,hn'.out]
end
section
open Go.Proofs Go.Shelf
variable {P:Program} {ρ:Ren}
end
end Go.Proofs.YtdpfilpckndhcaaGreatDoor.Rf

namespace Go.Proofs.YtdpfilpckndhcaaGreatDoor.Rf
set_option linter.unusedVariables false
set_option linter.unusedSimpArgs false
class Enc (α:Type) where
 sz:Nat
 enc:α->List D
 len:∀ a,(enc a).length=sz
instance:Enc Int:=⟨1,fun n=>[i64 n],fun _=>rfl⟩
instance:Enc Bool:=⟨1,fun b=>[.bool b],fun _=>rfl⟩
instance:Enc (List UInt8):=⟨1,fun s=>[.str s],fun _=>rfl⟩
def rL {α:Type}[Enc α](xs:List α):D:=.rows (Enc.sz α) (xs.map Enc.enc)
instance {α:Type} [Enc α]:Enc (List α):=⟨1,fun xs=>[rL xs],fun _=>rfl⟩
def InB {α:Type}(xs:List α)(k:Int):Prop:=0<=k/\k<xs.length
def atI {α:Type}[Inhabited α](xs:List α)(k:Int):α:=xs.getD k.toNat default
def cZ {α:Type}(xs:List α)(k:Int)(a:α):List α:=xs.set k.toNat a
theorem aP {α:Type}{xs:List α}{i:Nat}:InB xs (i:Int)↔i<xs.length:=by unfold InB;omega
theorem Jai {α:Type}[Inhabited α]{xs:List α}{i:Nat}:atI xs (i:Int)=xs.getD i default:=rfl
theorem cK {α:Type}[Inhabited α]{xs:List α}{i:Nat}(h:i<xs.length):atI xs (i:Int)=xs[i]:=by
 rw[Jai,Qb5,Qbz h];rfl
theorem InB.lt {α:Type}{xs:List α}{k:Int}(h:InB xs k):k.toNat<xs.length:=by unfold InB at h;omega
def tick:Nat:=0
def Pb9:Nat:=0
def kW {γ:Type}(c:Bool)(a b:γ):γ:=match c with
 |true=>a
 |false=>b
theorem Wai {γ:Type}{a b:γ}:kW true a b=a:=rfl
theorem Sax {γ:Type}{a b:γ}:kW false a b=b:=rfl
@[congr] theorem Hbs {γ:Type} {c c':Bool} {a b:γ} (h:c=c') {dd:Nat} (hd:tick=dd):kW c a b=kW c' a b:=by rw[h]
theorem aI {γ:Type}{c:Bool}{a b r:γ}(h1:c=true->a=r)(h2:c=false->b=r):kW c a b=r:=by
 cases c with
 |true=>exact h1 rfl
 |false=>exact h2 rfl
section
variable {T:Nat->Ent} {β:Type}
@[congr] theorem Nbf {t:Tm β} {ρ ρ':List D} (h:ρ=ρ') {dd:Nat} (hd:tick=dd):Er T t ρ=Er T t ρ':=by rw[h]
@[congr] theorem Gbq {k:Tm β} {ρ ρ':List D} {n:Nat} {a a':Option (List D)} (h:ρ=ρ') (h2:a=a') {dd:Nat} (hd:tick=dd):stepT T k ρ n a=stepT T k ρ' n a':=by rw[h,h2]
@[congr] theorem Gbl {i:Nat} {k:Tm β} {ρ ρ':List D} {r r':Option (Kind×List D)} (h:ρ=ρ') (h2:r=r') {dd:Nat} (hd:tick=dd):qG T i k ρ r=qG T i k ρ' r':=by rw[h,h2]
@[congr] theorem Lbm {p:aO} {xs xs':List D} (h:xs=xs') {dd:Nat} (hd:tick=dd):p.run xs=p.run xs':=by rw[h]
def nth:List D->Nat->D
 |[],_=>.undef
 |a::_,0=>a
 |_::r,n+1=>nth r n
theorem Ob1 {a:D}{r:List D}:nth (a::r) 0=a:=rfl
theorem Ob0 {a:D}{r:List D}{n:Nat}:nth (a::r) (n+1)=nth r n:=rfl
theorem Uai (r:List D)(n:Nat):r.getD n .undef=nth r n:=by
 induction r generalizing n with
 |nil=>rfl
 | cons a r ih => cases n with
  |zero=>rfl
  |succ n=>exact ih n
def vals (ρ:List D):List aM->List D
 |[]=>[]
 |.v i::r=>nth ρ i::vals ρ r
 |.c d::r=>d::vals ρ r
@[congr] theorem Ibq {ρ ρ':List D} {xs:List aM} (h:ρ=ρ') {dd:Nat} (hd:tick=dd):vals ρ xs=vals ρ' xs:=by rw[h]
theorem Aac (ρ:List D)(xs:List aM):xs.map (·.val ρ)=vals ρ xs:=by
 induction xs with
 |nil=>rfl
 | cons x xs ih =>
  rw[Rbh,ih]
  cases x with
  |v i=>show ρ.getD i .undef::_=_;rw[Uai];rfl
  |c d=>rfl
theorem Ibw {ρ:List D}:vals ρ []=[]:=rfl
theorem Ibv {ρ:List D}{i:Nat}{r:List aM}:vals ρ (.v i::r)=nth ρ i::vals ρ r:=rfl
theorem Ibx {ρ:List D}{d:D}{r:List aM}:vals ρ (.c d::r)=d::vals ρ r:=rfl
def Vai (ρ:List D):aM->D
 |.v i=>nth ρ i
 |.c d=>d
theorem Iby {ρ:List D}{i:Nat}:Vai ρ (.v i)=nth ρ i:=rfl
theorem Ibz {ρ:List D}{d:D}:Vai ρ (.c d)=d:=rfl
theorem Law (ρ:List D)(a:aM):a.val ρ=Vai ρ a:=by
 cases a with
 |v i=>exact Uai ρ i
 |c d=>rfl
@[congr] theorem Ibr {ρ ρ':List D} {a:aM} (h:ρ=ρ') {dd:Nat} (hd:tick=dd):Vai ρ a=Vai ρ' a:=by rw[h]
theorem Ibm (k:Kind)(xs:List aM)(e:β)(ρ:List D):Er T (.leaf k xs e) ρ=some (k,vals ρ xs):=by rw[Ibk,Aac]
theorem Pbm (p:aO)(xs:List aM)(n:Nat)(k:Tm β)(ρ:List D):Er T (.lt none p xs n k) ρ=stepT T k ρ n (p.run (vals ρ xs)):=by rw[Mbn,Aac]
theorem Ibn (f:Nat)(xs:List aM)(n:Nat)(os:List aM)(k:Tm β)(ρ:List D):Er T (.call none f xs n os k) ρ=stepT T k ρ n (Fun T f (vals ρ xs)):=by rw[Fbi,Aac]
def Ba2 (w:Bool)(a b:Option (Kind×List D))(c:D):Option (Kind×List D):=if gdR c w=true then a else b
@[congr] theorem Hbp {w:Bool} {a b:Option (Kind×List D)} {c c':D} (h:c=c') {dd:Nat} (hd:tick=dd):Ba2 w a b c=Ba2 w a b c':=by rw[h]
theorem Hbn {a b:Option (Kind×List D)}{c:Bool}:Ba2 true a b (.bool c)=kW c a b:=by cases c<;>rfl
theorem Hbo {a b:Option (Kind×List D)}{c:Bool}:Ba2 false a b (.bool c)=kW c b a:=by cases c<;>rfl
theorem Hbm {w:Bool}{a b:Option (Kind×List D)}:Ba2 w a b .undef=b:=by simp[Ba2,gdR]
theorem Mbp (a:aM)(w:Bool)(p:aO)(xs:List aM)(n:Nat)(k:Tm β)(ρ:List D) :
  Er T (.lt (some (a,w)) p xs n k) ρ=Ba2 w (stepT T k ρ n (p.run (vals ρ xs))) (Er T k (ρ++Qb0 n .undef)) (Vai ρ a):=by
 rw[Mbm,ltT,Ba2,Aac,Law]
theorem Fbj (a:aM)(w:Bool)(f:Nat)(xs:List aM)(n:Nat)(os:List aM)(k:Tm β)(ρ:List D) :
  Er T (.call (some (a,w)) f xs n os k) ρ=Ba2 w (stepT T k ρ n (Fun T f (vals ρ xs))) (Er T k (ρ++(Qb0 (n-os.length) .undef++vals ρ os))) (Vai ρ a):=by
 rw[Fbh,Hb8,Ba2,Aac,Aac,Law]
def Rar {γ:Type}(a b:Option γ)(c:D):Option γ:=Pb7 c a b
@[congr] theorem Gbm {γ:Type} {a b:Option γ} {c c':D} (h:c=c') {dd:Nat} (hd:tick=dd):Rar a b c=Rar a b c':=by rw[h]
theorem Gbn {γ:Type}{a b:Option γ}{c:Bool}:Rar a b (.bool c)=kW c a b:=by cases c<;>rfl
theorem Mbq (c:aM)(t e:Tm β)(ρ:List D):Er T (.ite c t e) ρ=Rar (Er T t ρ) (Er T e ρ) (Vai ρ c):=by rw[Mbo,Ob5,Rar,Law]
theorem Ibo (i:Nat)(t k:Tm β)(ρ:List D):Er T (.bind i t k) ρ=qG T i k ρ (Er T t ρ):=Ibl i t k ρ
theorem Vam {i:Nat}{k:Tm β}{ρ:List D}{c:Bool}{a b:Option (Kind×List D)}:qG T i k ρ (kW c a b)=kW c (qG T i k ρ a) (qG T i k ρ b):=by cases c<;>rfl
theorem Raq {i j:Nat}{k:Tm β}{ρ ds:List D}:qG T i k ρ (some (.yield j,ds))=if j=i then Er T k (ρ++ds) else some (.yield j,ds):=by
 by_cases h:j=i
 ·subst h;rw[Vak,if_pos rfl]
 ·rw[Dbr h,if_neg h]
noncomputable def fin (o:Option (Kind×List D)):Option (List D):=o.bind Pb2
theorem Ebn {c:Bool}{a b:Option (Kind×List D)}:fin (kW c a b)=kW c (fin a) (fin b):=by cases c<;>rfl
theorem Hbt {ds:List D}:fin (some (.ret,ds))=some ds:=rfl
theorem aK {f:Nat}{t:Tm Unit}(h:T f=.tm t)(args:List D):Fun T f args=fin (Er T t args):=Pbl h args
theorem Pbg {ρ:List D}:ρ++[]=ρ:=Rbm ρ
theorem Pbh {a:D}{r s:List D}:(a::r)++s=a::(r++s):=rfl
theorem Pbi {s:List D}:[]++s=s:=rfl
theorem Gbp {k:Tm β}{ρ ds:List D}{n:Nat}:stepT T k ρ n (some ds)=if ds.length=n then Er T k (ρ++ds) else none:=rfl
end
section
variable {α:Type} [Enc α]
theorem Lbs {xs:List α}:aO.len.run [rL xs]=some [i64 xs.length]:=by simp[rL,aO.run]
theorem Lbt {xs:List α}{k:Int}(h:InB xs k):aO.inb.run [rL xs,i64 k]=some []:=by
 unfold InB at h
 simp only[rL,aO.run,Rbf]
 rw[if_pos ⟨h.1,h.2⟩]
def rowOf (off:Nat)(ks:List Bool)(r:List D):Option (List D):=if off+ks.length<=r.length/\Ea7 ks (r.drop off)=true then some ((r.drop off).take ks.length) else none
theorem mI [Inhabited α]{xs:List α}{k:Int}{sz off:Nat}{ks:List Bool}(hs:Enc.sz α=sz)(h:InB xs k):(aO.row sz off ks).run [rL xs,i64 k]=rowOf off ks (Enc.enc (atI xs k)):=by
 have h2:=h.lt
 unfold InB at h
 subst hs
 have e:xs[k.toNat]?=some (atI xs k):=by
  rw[Qbz h2,atI,Qb5,Qbz h2];rfl
 simp only[rL,aO.run,Rbu,e,Rb5]
 simp only[true_and]
 rw[if_pos h.1]
 rfl
theorem nH [Inhabited α]{xs:List α}{k:Int}{sz off n:Nat}{vs:List D}{a:α}(hs:Enc.sz α=sz)(hl:vs.length=n)(ho:off+n<=sz)(ha:Enc.enc a=(Enc.enc (atI xs k)).take off++vs++(Enc.enc (atI xs k)).drop (off+n))(h:InB xs k) :
  (aO.set sz off n).run (rL xs::i64 k::vs)=some [rL (cZ xs k a)]:=by
 have h2:=h.lt
 unfold InB at h
 subst hs
 have e:xs[k.toNat]?=some (atI xs k):=by
  rw[Qbz h2,atI,Qb5,Qbz h2];rfl
 simp only[rL,aO.run,Rbu,e,Rb5]
 simp only[true_and]
 rw[if_pos h.1,if_pos ⟨by rw[Enc.len];exact ho,hl⟩,<- ha,cZ,List.map_set]
theorem yU {b:Nat}{n:Int}{zero:List D}{a:α}(ha:Enc.enc a=zero)(h:0<=n)(h2:n.toNat*b<=dZ):(aO.make b zero).run [i64 n]=some [rL (Qb0 n.toNat a)]:=by
 simp only[aO.run]
 rw[if_pos ⟨h,h2⟩,rL,List.map_replicate,ha,<- Enc.len a,ha]
theorem Ya9 {sz:Nat}{vs:List D}{a:α}(hs:Enc.sz α=sz)(ha:Enc.enc a=vs):(aO.mk sz 1).run vs=some [rL [a]]:=by
 subst hs;subst ha
 have:=Enc.len a
 simp[rL,aO.run,chunk,this,List.take_of_length_le (Nat.le_of_eq this)]
theorem xU {sz b:Nat}{fl:Bool}{xs ys:List α}(hs:Enc.sz α=sz)(hf:fl=true->∀ a:α,(Enc.enc a).all D.isSc=true)(h:(xs.length+ys.length)*b<=dZ):(aO.app sz b fl).run [rL xs,rL ys]=some [rL (xs++ys)]:=by
 subst hs
 have hall:(!fl||(xs.map Enc.enc++ys.map Enc.enc).all fun r=>r.all D.isSc)=true:=by
  cases fl with
  |false=>rfl
  | true =>
   rw[Rbl,Sb6,<- Tbt,List.all_map,Rbg]
   exact fun a _=>hf rfl a
 simp only[rL,aO.run,Rbf]
 rw[if_pos ⟨trivial,trivial,hall,h⟩,<- Tbt]
theorem rP {sz b:Nat}{fl:Bool}{ys:List α}(hs:Enc.sz α=sz)(hf:fl=true->∀ a:α,(Enc.enc a).all D.isSc=true)(h:ys.length*b<=dZ):(aO.app sz b fl).run [.rows sz [],rL ys]=some [rL ys]:=by
 have:=xU (xs:=[]) (ys:=ys) (b:=b) hs hf (by simpa using h)
 subst hs
 exact this
theorem yT {sz:Nat}{fl:Bool}{xs:List α}{lo hi:Int}(hs:Enc.sz α=sz)(hf:fl=true->∀ a:α,(Enc.enc a).all D.isSc=true)(h0:0<=lo)(h1:lo<=hi)(h2:hi<=xs.length):(aO.sub sz fl).run [rL xs,i64 lo,i64 hi]=some [rL ((xs.take hi.toNat).drop lo.toNat)]:=by
 subst hs
 have hall:(!fl||(xs.map Enc.enc).all fun r=>r.all D.isSc)=true:=by
  cases fl with
  |false=>rfl
  | true =>
   rw[Rbl,Sb6,List.all_map,Rbg]
   exact fun a _=>hf rfl a
 simp only[rL,aO.run,Rbf]
 rw[if_pos ⟨trivial,hall,h0,h1,h2⟩,<- List.map_take,<- List.map_drop]
theorem Fbq {xs:List α}:aO.emp.run [rL xs]=some [.bool xs.isEmpty]:=by simp[rL,aO.run]
theorem Lbr {x:α}{xs:List α}:aO.ne.run [rL (x::xs)]=some []:=by simp[rL,aO.run]
class Fits (α:Type) [Enc α] (m:Nat):Prop where
 fits:∀ a:α,(Enc.enc a).all (sI m)=true
theorem Lbu {m:Nat}[Fits α m]{xs:List α}:(aO.dep (m+1)).run [rL xs]=some []:=by
 have:sI (m+1) (rL xs)=true:=by
  unfold rL
  simp only[sI,List.all_map,Rbg]
  intro a _
  exact Fits.fits a
 simp only[aO.run,this,if_true]
end
instance {m:Nat}:Fits Int m:=⟨fun a=>by cases m<;>rfl⟩
instance {m:Nat}:Fits Bool m:=⟨fun a=>by cases m<;>rfl⟩
instance {m:Nat}:Fits (List UInt8) m:=⟨fun a=>by cases m<;>rfl⟩
theorem Na0 {α:Type}[Enc α]{m:Nat}[Fits α m](xs:List α):sI (m+1) (rL xs)=true:=by
 unfold rL
 simp only[sI,List.all_map,Rbg]
 intro a _
 exact Fits.fits a
instance {α:Type} [Enc α] {m:Nat} [Fits α m]:Fits (List α) (m+1):=⟨fun xs=>by
 show [rL xs].all (sI (m+1))=true
 simp[Na0]⟩
theorem Dbx {a b:Int}:aO.min.run [i64 a,i64 b]=some [i64 (min a b)]:=by
 simp only[aO.run,Nay,Lbz,if_true,Qb3,Rb5]
 congr 3
 by_cases h:b<a
 ·rw[if_pos (by simpa using h)];omega
 ·rw[if_neg (by simpa using h)];omega
theorem Dbz {a b:Int}:aO.max.run [i64 a,i64 b]=some [i64 (max a b)]:=by
 simp only[aO.run,Nay,Lbz,if_true,Qb3,Rb5]
 congr 3
 by_cases h:b>a
 ·rw[if_pos (by simpa using h)];omega
 ·rw[if_neg (by simpa using h)];omega
theorem jN {a b:Int}(h1:-9223372036854775808<=a*b)(h2:a*b<=9223372036854775807):(aO.bin .mul).run [i64 a,i64 b]=some [i64 (a*b)]:=by simp[aO.run,Lal,zJ,wrap_i64 h1 h2]
theorem Vao {a b:Int}(ha:-9223372036854775808<=a)(ha':a<=9223372036854775807)(hb:0<b):-9223372036854775808<=a.tdiv b/\a.tdiv b<=9223372036854775807:=by
 rcases Int.le_total 0 a with h|h
 ·have h1:=Int.tdiv_nonneg h (Int.le_of_lt hb)
  have h2:=Int.tdiv_le_self b h
  omega
 ·have h1:(-a).tdiv b=-(a.tdiv b):=Int.neg_tdiv ..
  have h2:=Int.tdiv_nonneg (show 0<=-a by omega) (Int.le_of_lt hb)
  have h3:=Int.tdiv_le_self b (show 0<=-a by omega)
  omega
theorem Dbw {a b:Int}(ha:0<=a)(ha':a<=9223372036854775807)(hb:0<b):(aO.bin .quo).run [i64 a,i64 b]=some [i64 (a / b)]:=by
 have h:=Vao (by omega) ha' hb
 have hb':¬ b=0:=by omega
 rw[<- Int.tdiv_eq_ediv_of_nonneg ha]
 simp only[aO.run,Lal,zJ,if_true,if_neg hb',Rb5,wrap_i64 h.1 h.2]
theorem Dbv {a b:Int}(ha:0<=a)(hb:0<b):(aO.bin .rem).run [i64 a,i64 b]=some [i64 (a % b)]:=by
 have hb':¬ b=0:=by omega
 simp only[aO.run,Lal,zJ,if_true,if_neg hb',Rb5,Rb2 ha]
theorem Qas:∀ xs ys:List Int,xs.length=ys.length->Ral (Qb0 xs.length 0) (xs.map i64) (ys.map i64)=some (decide (xs=ys))
 |[],[],_=>rfl
 | x :: xs, y :: ys, h => by
  have ih:=Qas xs ys (by simpa using h)
  simp only[Qbt,Uba,Rbh,Ral,eqD,if_true,Qb3,ih,List.cons.injEq,Bool.decide_and]
  by_cases e:x=y
  ·simp[e]
  ·simp[e]
theorem Ebr {p:Prop}[Decidable p](xs ys:List Int)(h:xs.length=ys.length)(hp:p↔xs=ys):(Ral (Qb0 xs.length 0) (xs.map i64) (ys.map i64)).map (fun b=>[D.bool b])=some [.bool (decide p)]:=by
 rw[Qas xs ys h,Rb5,decide_eq_decide.2 hp]
theorem Mbc (i:Nat):((i+1:Nat):Int)=(i:Int)+1:=rfl
theorem SA:(∀ {T β} (k:Kind) (xs:List aM) (e:β) (ρ:List D),Er T (.leaf k xs e) ρ=some (k,vals ρ xs)) /\
  (∀ {T} {β:Type} (p:aO) (xs:List aM) (n:Nat) (k:Tm β) (ρ:List D),Er T (.lt none p xs n k) ρ=stepT T k ρ n (p.run (vals ρ xs))) /\
  (∀ {T} {β:Type} (f:Nat) (xs:List aM) (n:Nat) (os:List aM) (k:Tm β) (ρ:List D),Er T (.call none f xs n os k) ρ=stepT T k ρ n (Fun T f (vals ρ xs))) /\
  (∀ {T} {β:Type} (c:aM) (t e:Tm β) (ρ:List D),Er T (.ite c t e) ρ=Rar (Er T t ρ) (Er T e ρ) (Vai ρ c)) /\
  (∀ {T} {β:Type} (i:Nat) (t k:Tm β) (ρ:List D),Er T (.bind i t k) ρ=qG T i k ρ (Er T t ρ)) /\
  (∀ {T} {β:Type} (a:aM) (w:Bool) (p:aO) (xs:List aM) (n:Nat) (k:Tm β) (ρ:List D),
   Er T (.lt (some (a,w)) p xs n k) ρ=Ba2 w (stepT T k ρ n (p.run (vals ρ xs))) (Er T k (ρ++Qb0 n .undef)) (Vai ρ a)) /\
  (∀ {T} {β:Type} (a:aM) (w:Bool) (f:Nat) (xs:List aM) (n:Nat) (os:List aM) (k:Tm β) (ρ:List D),
   Er T (.call (some (a,w)) f xs n os k) ρ=Ba2 w (stepT T k ρ n (Fun T f (vals ρ xs))) (Er T k (ρ++(Qb0 (n-os.length) .undef++vals ρ os))) (Vai ρ a)) :=
 ⟨Ibm,Pbm,Ibn,Mbq,Ibo,Mbp,Fbj⟩
theorem SB:(tick=Pb9)/\(∀ {γ:Type} {c:Bool} {a b:γ},kW (!c) a b=kW c b a)/\(∀ {a b:Option (Kind×List D)} {c:Bool},Ba2 true a b (.bool c)=kW c a b)/\(∀ {a b:Option (Kind×List D)} {c:Bool},Ba2 false a b (.bool c)=kW c b a) /\
  (∀ {w:Bool} {a b:Option (Kind×List D)},Ba2 w a b .undef=b)/\(∀ {γ:Type} {a b:Option γ} {c:Bool},Rar a b (.bool c)=kW c a b) /\
  (∀ {T} {β:Type} {i:Nat} {k:Tm β} {ρ:List D} {c:Bool} {a b:Option (Kind×List D)},qG T i k ρ (kW c a b)=kW c (qG T i k ρ a) (qG T i k ρ b)) /\
  (∀ {T} {β:Type} {i j:Nat} {k:Tm β} {ρ ds:List D},qG T i k ρ (some (.yield j,ds))=if j=i then Er T k (ρ++ds) else some (.yield j,ds)) /\
  (∀ {T} {β:Type} {i:Nat} {k:Tm β} {ρ ds:List D},qG T i k ρ (some (.ret,ds))=some (.ret,ds))/\(∀ {T} {β:Type} {i:Nat} {k:Tm β} {ρ ds:List D},qG T i k ρ (some (.cont,ds))=some (.cont,ds)) /\
  (∀ {c:Bool} {a b:Option (Kind×List D)},fin (kW c a b)=kW c (fin a) (fin b))/\(∀ {ds:List D},fin (some (.ret,ds))=some ds) /\
  (∀ {γ:Type} {a b:γ},kW true a b=a)/\(∀ {γ:Type} {a b:γ},kW false a b=b) :=
 ⟨rfl,by intro γ c a b;cases c<;>rfl,Hbn,Hbo,Hbm,Gbn,Vam,Raq,Xap,Van,Ebn,Hbt,Wai,Sax⟩
theorem SC:(∀ {a:D} {r:List D},nth (a::r) 0=a)/\(∀ {a:D} {r:List D} {n:Nat},nth (a::r) (n+1)=nth r n) /\
  (∀ {ρ:List D},vals ρ []=[])/\(∀ {ρ:List D} {i:Nat} {r:List aM},vals ρ (.v i::r)=nth ρ i::vals ρ r)/\(∀ {ρ:List D} {d:D} {r:List aM},vals ρ (.c d::r)=d::vals ρ r) /\
  (∀ {ρ:List D} {i:Nat},Vai ρ (.v i)=nth ρ i)/\(∀ {ρ:List D} {d:D},Vai ρ (.c d)=d) /\
  (∀ {ρ:List D},ρ++[]=ρ)/\(∀ {a:D} {r s:List D},(a::r)++s=a::(r++s))/\(∀ {s:List D},[]++s=s) /\
  (∀ {T} {β:Type} {k:Tm β} {ρ ds:List D} {n:Nat},stepT T k ρ n (some ds)=if ds.length=n then Er T k (ρ++ds) else none) /\
  (∀ {α:Type} {a:α} {l:List α},(a::l).length=l.length+1)/\(∀ {α:Type},([]:List α).length=0)/\(∀ {α:Type} {x:α} {n:Nat},Qb0 (n+1) x=x::Qb0 n x)/\(∀ {α:Type} {x:α},Qb0 0 x=[]) :=
 ⟨Ob1,Ob0,Ibw,Ibv,Ibx,Iby,Ibz,Pbg,Pbh,Pbi,Gbp,Qbt,Qbu,Uba,List.replicate_zero⟩
theorem SP:(∀ {a b:Int},(aO.bin .lss).run [i64 a,i64 b]=some [.bool (decide (a<b))])/\(∀ {a b:Int},(aO.bin .gtr).run [i64 a,i64 b]=some [.bool (decide (b<a))]) /\
  (∀ {a b:Int},(aO.bin .leq).run [i64 a,i64 b]=some [.bool (decide (a<=b))])/\(∀ {a b:Int},(aO.bin .geq).run [i64 a,i64 b]=some [.bool (decide (b<=a))]) /\
  (∀ {a b:Int},(aO.bin .neq).run [i64 a,i64 b]=some [.bool (!(a==b))])/\(∀ {a b:Int},(aO.bin .eql).run [i64 a,i64 b]=some [.bool (a==b)]) /\
  (∀ {b:Bool},aO.not.run [.bool b]=some [.bool (!b)])/\(∀ {c:Bool} {a b:D},aO.pick.run [.bool c,a,b]=some [kW c a b])/\(∀ {a b:Bool},(aO.eqb true).run [.bool a,.bool b]=some [.bool (!(a==b))])/\(∀ {a b:Bool},(aO.eqb false).run [.bool a,.bool b]=some [.bool (a==b)]) /\
  (∀ {d:D},aO.id.run [d]=some [d])/\(∀ {α:Type} [Enc α] {xs:List α},aO.len.run [rL xs]=some [i64 xs.length]) /\
  (∀ {α:Type} [Enc α] {xs:List α} {k:Int},InB xs k->aO.inb.run [rL xs,i64 k]=some []) /\
  (∀ {a b:Int},aO.min.run [i64 a,i64 b]=some [i64 (min a b)])/\(∀ {a b:Int},aO.max.run [i64 a,i64 b]=some [i64 (max a b)]) /\
  (∀ {α:Type} [Enc α] {m:Nat} [Fits α m] {xs:List α},(aO.dep (m+1)).run [rL xs]=some []) :=
 ⟨Gbv,Gbx,Gbw,Gby,Gbu,Gbz,Gbt,by intro c a b;cases c<;>rfl,Gb0,rfl,Lbl,Lbs,Lbt,Dbx,Dbz,Lbu⟩
end Go.Proofs.YtdpfilpckndhcaaGreatDoor.Rf

namespace Go.Proofs.YtdpfilpckndhcaaGreatDoor.Rf
set_option linter.unusedVariables false
set_option maxRecDepth 4000
structure nS where
 kind:Int
 id:Int
 src:Int
 dst:Int
 amt:Int
 deriving DecidableEq
instance:Inhabited nS:=⟨⟨0,0,0,0,0⟩⟩
instance:Enc nS:=⟨5,fun x=>[i64 x.kind,i64 x.id,i64 x.src,i64 x.dst,i64 x.amt],fun _=>rfl⟩
instance {m:Nat}:Fits nS m:=⟨fun x=>by cases m<;>rfl⟩
structure gT where
 seq:Int
 deps:(List Int)
 deriving DecidableEq
instance:Inhabited gT:=⟨⟨0,[]⟩⟩
instance:Enc gT:=⟨2,fun x=>[i64 x.seq,rL x.deps],fun _=>rfl⟩
theorem Abz (x:gT):Enc.enc x=[i64 x.seq,rL x.deps]:=rfl
instance {m:Nat}:Fits gT (m+1):=⟨fun x=>by
 rw[Abz]
 simp only[Tbf,Ubg,Sbh,Qbq]
 refine⟨?_,?_⟩
 all_goals first|rfl|exact Na0 _⟩
structure bL where
 ballot:Int
 vote:Int
 state:Int
 cmd:nS
 attr:gT
 deriving DecidableEq
instance:Inhabited bL:=⟨⟨0,0,0,default,default⟩⟩
instance:Enc bL:=⟨10,fun x=>[i64 x.ballot,i64 x.vote,i64 x.state,i64 x.cmd.kind,i64 x.cmd.id,i64 x.cmd.src,i64 x.cmd.dst,i64 x.cmd.amt,i64 x.attr.seq,rL x.attr.deps],fun _=>rfl⟩
theorem Ebv (x:bL):Enc.enc x=[i64 x.ballot,i64 x.vote,i64 x.state,i64 x.cmd.kind,i64 x.cmd.id,i64 x.cmd.src,i64 x.cmd.dst,i64 x.cmd.amt,i64 x.attr.seq,rL x.attr.deps]:=rfl
instance {m:Nat}:Fits bL (m+1):=⟨fun x=>by
 rw[Ebv]
 simp only[Tbf,Ubg,Sbh,Qbq]
 refine⟨?_,?_,?_,?_,?_,?_,?_,?_,?_,?_⟩
 all_goals first|rfl|exact Na0 _⟩
structure aR where
 n:Int
 rows:(List (List bL))
 deriving DecidableEq
instance:Inhabited aR:=⟨⟨0,[]⟩⟩
instance:Enc aR:=⟨2,fun x=>[i64 x.n,rL x.rows],fun _=>rfl⟩
theorem War (x:aR):Enc.enc x=[i64 x.n,rL x.rows]:=rfl
instance {m:Nat}:Fits aR (m+3):=⟨fun x=>by
 rw[War]
 simp only[Tbf,Ubg,Sbh,Qbq]
 refine⟨?_,?_⟩
 all_goals first|rfl|exact Na0 _⟩
theorem Mbe:(∀ x:nS,nS.mk x.kind x.id x.src x.dst x.amt=x) /\
  (∀ x:gT,gT.mk x.seq x.deps=x) /\
  (∀ x:bL,bL.mk x.ballot x.vote x.state x.cmd x.attr=x) /\
  (∀ x:aR,aR.mk x.n x.rows=x) :=
 ⟨fun _=>rfl,
  fun _=>rfl,
  fun _=>rfl,
  fun _=>rfl⟩
theorem aJ:(∀ {xs:List Int} {k:Int},InB xs k->(aO.row 1 0 [true]).run [rL xs,i64 k]=some [i64 (atI xs k)]) /\
  (∀ {xs:List (List UInt8)} {k:Int},InB xs k->(aO.row 1 0 [true]).run [rL xs,i64 k]=some [.str (atI xs k)]) /\
  (∀ {xs:List (List Int)} {k:Int},InB xs k->(aO.row 1 0 [false]).run [rL xs,i64 k]=some [rL (atI xs k)]) /\
  (∀ {xs:List (List bL)} {k:Int},InB xs k->(aO.row 1 0 [false]).run [rL xs,i64 k]=some [rL (atI xs k)]) /\
  (∀ {xs:List (List (List Int))} {k:Int},InB xs k->(aO.row 1 0 [false]).run [rL xs,i64 k]=some [rL (atI xs k)]) /\
  (∀ {xs:List nS} {k:Int},InB xs k->(aO.row 5 0 [true,true,true,true,true]).run [rL xs,i64 k]=some [i64 (atI xs k).kind,i64 (atI xs k).id,i64 (atI xs k).src,i64 (atI xs k).dst,i64 (atI xs k).amt]) /\
  (∀ {xs:List bL} {k:Int},InB xs k->(aO.row 10 0 [true,true,true,true,true,true,true,true,true,false]).run [rL xs,i64 k]=some [i64 (atI xs k).ballot,i64 (atI xs k).vote,i64 (atI xs k).state,i64 (atI xs k).cmd.kind,i64 (atI xs k).cmd.id,i64 (atI xs k).cmd.src,i64 (atI xs k).cmd.dst,i64 (atI xs k).cmd.amt,i64 (atI xs k).attr.seq,rL (atI xs k).attr.deps]) /\
  (∀ {xs:List bL} {k:Int},InB xs k->(aO.row 10 0 [true]).run [rL xs,i64 k]=some [i64 (atI xs k).ballot]) /\
  (∀ {xs:List bL} {k:Int},InB xs k->(aO.row 10 1 [true]).run [rL xs,i64 k]=some [i64 (atI xs k).vote]) /\
  (∀ {xs:List bL} {k:Int},InB xs k->(aO.row 10 2 [true]).run [rL xs,i64 k]=some [i64 (atI xs k).state]) /\
  (∀ {xs:List bL} {k:Int},InB xs k->(aO.row 10 3 [true,true,true,true,true]).run [rL xs,i64 k]=some [i64 (atI xs k).cmd.kind,i64 (atI xs k).cmd.id,i64 (atI xs k).cmd.src,i64 (atI xs k).cmd.dst,i64 (atI xs k).cmd.amt]) /\
  (∀ {xs:List bL} {k:Int},InB xs k->(aO.row 10 3 [true]).run [rL xs,i64 k]=some [i64 (atI xs k).cmd.kind]) /\
  (∀ {xs:List bL} {k:Int},InB xs k->(aO.row 10 4 [true]).run [rL xs,i64 k]=some [i64 (atI xs k).cmd.id]) /\
  (∀ {xs:List bL} {k:Int},InB xs k->(aO.row 10 5 [true]).run [rL xs,i64 k]=some [i64 (atI xs k).cmd.src]) /\
  (∀ {xs:List bL} {k:Int},InB xs k->(aO.row 10 6 [true]).run [rL xs,i64 k]=some [i64 (atI xs k).cmd.dst]) /\
  (∀ {xs:List bL} {k:Int},InB xs k->(aO.row 10 7 [true]).run [rL xs,i64 k]=some [i64 (atI xs k).cmd.amt]) /\
  (∀ {xs:List bL} {k:Int},InB xs k->(aO.row 10 8 [true,false]).run [rL xs,i64 k]=some [i64 (atI xs k).attr.seq,rL (atI xs k).attr.deps]) /\
  (∀ {xs:List bL} {k:Int},InB xs k->(aO.row 10 8 [true]).run [rL xs,i64 k]=some [i64 (atI xs k).attr.seq]) /\
  (∀ {xs:List bL} {k:Int},InB xs k->(aO.row 10 9 [false]).run [rL xs,i64 k]=some [rL (atI xs k).attr.deps]) /\
  (∀ {xs:List aR} {k:Int},InB xs k->(aO.row 2 0 [true]).run [rL xs,i64 k]=some [i64 (atI xs k).n]) :=
 ⟨fun h=>(mI rfl h),
  fun h=>(mI rfl h),
  fun h=>(mI rfl h),
  fun h=>(mI rfl h),
  fun h=>(mI rfl h),
  fun h=>(mI rfl h),
  fun h=>(mI rfl h),
  fun h=>(mI rfl h),
  fun h=>(mI rfl h),
  fun h=>(mI rfl h),
  fun h=>(mI rfl h),
  fun h=>(mI rfl h),
  fun h=>(mI rfl h),
  fun h=>(mI rfl h),
  fun h=>(mI rfl h),
  fun h=>(mI rfl h),
  fun h=>(mI rfl h),
  fun h=>(mI rfl h),
  fun h=>(mI rfl h),
  fun h=>(mI rfl h)⟩
theorem dI:(∀ {xs:List Int} {k:Int} {v:Int},InB xs k->(aO.set 1 0 1).run [rL xs,i64 k,i64 v]=some [rL (cZ xs k v)]) /\
  (∀ {xs:List (List UInt8)} {k:Int} {v:(List UInt8)},InB xs k->(aO.set 1 0 1).run [rL xs,i64 k,.str v]=some [rL (cZ xs k v)]) /\
  (∀ {xs:List (List Int)} {k:Int} {v:(List Int)},InB xs k->(aO.set 1 0 1).run [rL xs,i64 k,rL v]=some [rL (cZ xs k v)]) /\
  (∀ {xs:List (List bL)} {k:Int} {v:(List bL)},InB xs k->(aO.set 1 0 1).run [rL xs,i64 k,rL v]=some [rL (cZ xs k v)]) /\
  (∀ {xs:List (List (List Int))} {k:Int} {v:(List (List Int))},InB xs k->(aO.set 1 0 1).run [rL xs,i64 k,rL v]=some [rL (cZ xs k v)]) /\
  (∀ {xs:List bL} {k:Int} {v:Int},InB xs k->(aO.set 10 0 1).run [rL xs,i64 k,i64 v]=some [rL (cZ xs k { (atI xs k) with ballot:=v })]) /\
  (∀ {xs:List bL} {k:Int} {v_ballot v_vote v_state v_cmd_kind v_cmd_id v_cmd_src v_cmd_dst v_cmd_amt v_attr_seq:Int} {v_attr_deps:(List Int)},InB xs k->(aO.set 10 0 10).run [rL xs,i64 k,i64 v_ballot,i64 v_vote,i64 v_state,i64 v_cmd_kind,i64 v_cmd_id,i64 v_cmd_src,i64 v_cmd_dst,i64 v_cmd_amt,i64 v_attr_seq,rL v_attr_deps]=some [rL (cZ xs k ⟨v_ballot,v_vote,v_state,⟨v_cmd_kind,v_cmd_id,v_cmd_src,v_cmd_dst,v_cmd_amt⟩,⟨v_attr_seq,v_attr_deps⟩⟩)]) /\
  (∀ {xs:List bL} {k:Int} {v:Int},InB xs k->(aO.set 10 1 1).run [rL xs,i64 k,i64 v]=some [rL (cZ xs k { (atI xs k) with vote:=v })]) /\
  (∀ {xs:List bL} {k:Int} {v:Int},InB xs k->(aO.set 10 2 1).run [rL xs,i64 k,i64 v]=some [rL (cZ xs k { (atI xs k) with state:=v })]) /\
  (∀ {xs:List bL} {k:Int} {v:Int},InB xs k->(aO.set 10 3 1).run [rL xs,i64 k,i64 v]=some [rL (cZ xs k { (atI xs k) with cmd:={ (atI xs k).cmd with kind:=v } })]) /\
  (∀ {xs:List bL} {k:Int} {v:Int},InB xs k->(aO.set 10 4 1).run [rL xs,i64 k,i64 v]=some [rL (cZ xs k { (atI xs k) with cmd:={ (atI xs k).cmd with id:=v } })]) /\
  (∀ {xs:List bL} {k:Int} {v:Int},InB xs k->(aO.set 10 5 1).run [rL xs,i64 k,i64 v]=some [rL (cZ xs k { (atI xs k) with cmd:={ (atI xs k).cmd with src:=v } })]) /\
  (∀ {xs:List bL} {k:Int} {v:Int},InB xs k->(aO.set 10 6 1).run [rL xs,i64 k,i64 v]=some [rL (cZ xs k { (atI xs k) with cmd:={ (atI xs k).cmd with dst:=v } })]) /\
  (∀ {xs:List bL} {k:Int} {v:Int},InB xs k->(aO.set 10 7 1).run [rL xs,i64 k,i64 v]=some [rL (cZ xs k { (atI xs k) with cmd:={ (atI xs k).cmd with amt:=v } })]) /\
  (∀ {xs:List bL} {k:Int} {v:Int},InB xs k->(aO.set 10 8 1).run [rL xs,i64 k,i64 v]=some [rL (cZ xs k { (atI xs k) with attr:={ (atI xs k).attr with seq:=v } })]) /\
  (∀ {xs:List bL} {k:Int} {v:(List Int)},InB xs k->(aO.set 10 9 1).run [rL xs,i64 k,rL v]=some [rL (cZ xs k { (atI xs k) with attr:={ (atI xs k).attr with deps:=v } })]) /\
  (∀ {xs:List aR} {k:Int} {v:Int},InB xs k->(aO.set 2 0 1).run [rL xs,i64 k,i64 v]=some [rL (cZ xs k { (atI xs k) with n:=v })]) /\
  (∀ {xs:List aR} {k:Int} {v_n:Int} {v_rows:(List (List bL))},InB xs k->(aO.set 2 0 2).run [rL xs,i64 k,i64 v_n,rL v_rows]=some [rL (cZ xs k ⟨v_n,v_rows⟩)]) /\
  (∀ {xs:List aR} {k:Int} {v:(List (List bL))},InB xs k->(aO.set 2 1 1).run [rL xs,i64 k,rL v]=some [rL (cZ xs k { (atI xs k) with rows:=v })]) :=
 ⟨fun h=>(nH rfl rfl (by decide) rfl h),
  fun h=>(nH rfl rfl (by decide) rfl h),
  fun h=>(nH rfl rfl (by decide) rfl h),
  fun h=>(nH rfl rfl (by decide) rfl h),
  fun h=>(nH rfl rfl (by decide) rfl h),
  fun h=>(nH rfl rfl (by decide) rfl h),
  fun h=>(nH rfl rfl (by decide) rfl h),
  fun h=>(nH rfl rfl (by decide) rfl h),
  fun h=>(nH rfl rfl (by decide) rfl h),
  fun h=>(nH rfl rfl (by decide) rfl h),
  fun h=>(nH rfl rfl (by decide) rfl h),
  fun h=>(nH rfl rfl (by decide) rfl h),
  fun h=>(nH rfl rfl (by decide) rfl h),
  fun h=>(nH rfl rfl (by decide) rfl h),
  fun h=>(nH rfl rfl (by decide) rfl h),
  fun h=>(nH rfl rfl (by decide) rfl h),
  fun h=>(nH rfl rfl (by decide) rfl h),
  fun h=>(nH rfl rfl (by decide) rfl h),
  fun h=>(nH rfl rfl (by decide) rfl h)⟩
theorem iZ:(∀ {v0:Int},(aO.mk 1 1).run [i64 v0]=some [rL [v0]]) /\
  (∀ {v0 v1:Int},(aO.mk 1 2).run [i64 v0,i64 v1]=some [rL [v0,v1]]) /\
  (∀ {v0 v1 v2:Int},(aO.mk 1 3).run [i64 v0,i64 v1,i64 v2]=some [rL [v0,v1,v2]]) /\
  (∀ {v0 v1 v2 v3:Int},(aO.mk 1 4).run [i64 v0,i64 v1,i64 v2,i64 v3]=some [rL [v0,v1,v2,v3]]) /\
  (∀ {v0 v1 v2 v3 v4:Int},(aO.mk 1 5).run [i64 v0,i64 v1,i64 v2,i64 v3,i64 v4]=some [rL [v0,v1,v2,v3,v4]]) /\
  (∀ {v0 v1 v2 v3 v4 v5 v6:Int},(aO.mk 1 7).run [i64 v0,i64 v1,i64 v2,i64 v3,i64 v4,i64 v5,i64 v6]=some [rL [v0,v1,v2,v3,v4,v5,v6]]) /\
  (∀ {v0 v1 v2 v3 v4 v5 v6 v7:Int},(aO.mk 1 8).run [i64 v0,i64 v1,i64 v2,i64 v3,i64 v4,i64 v5,i64 v6,i64 v7]=some [rL [v0,v1,v2,v3,v4,v5,v6,v7]]) /\
  (∀ {v0 v1 v2 v3 v4 v5 v6 v7 v8:Int},(aO.mk 1 9).run [i64 v0,i64 v1,i64 v2,i64 v3,i64 v4,i64 v5,i64 v6,i64 v7,i64 v8]=some [rL [v0,v1,v2,v3,v4,v5,v6,v7,v8]]) /\
  (∀ {v0:(List UInt8)},(aO.mk 1 1).run [.str v0]=some [rL [v0]]) /\
  (∀ {v0 v1:(List UInt8)},(aO.mk 1 2).run [.str v0,.str v1]=some [rL [v0,v1]]) /\
  (∀ {v0 v1 v2:(List UInt8)},(aO.mk 1 3).run [.str v0,.str v1,.str v2]=some [rL [v0,v1,v2]]) /\
  (∀ {v0 v1 v2 v3:(List UInt8)},(aO.mk 1 4).run [.str v0,.str v1,.str v2,.str v3]=some [rL [v0,v1,v2,v3]]) /\
  (∀ {v0 v1 v2 v3 v4:(List UInt8)},(aO.mk 1 5).run [.str v0,.str v1,.str v2,.str v3,.str v4]=some [rL [v0,v1,v2,v3,v4]]) /\
  (∀ {v0 v1 v2 v3 v4 v5 v6:(List UInt8)},(aO.mk 1 7).run [.str v0,.str v1,.str v2,.str v3,.str v4,.str v5,.str v6]=some [rL [v0,v1,v2,v3,v4,v5,v6]]) /\
  (∀ {v0 v1 v2 v3 v4 v5 v6 v7:(List UInt8)},(aO.mk 1 8).run [.str v0,.str v1,.str v2,.str v3,.str v4,.str v5,.str v6,.str v7]=some [rL [v0,v1,v2,v3,v4,v5,v6,v7]]) /\
  (∀ {v0 v1 v2 v3 v4 v5 v6 v7 v8:(List UInt8)},(aO.mk 1 9).run [.str v0,.str v1,.str v2,.str v3,.str v4,.str v5,.str v6,.str v7,.str v8]=some [rL [v0,v1,v2,v3,v4,v5,v6,v7,v8]]) /\
  (∀ {v0:(List Int)},(aO.mk 1 1).run [rL v0]=some [rL [v0]]) /\
  (∀ {v0:(List bL)},(aO.mk 1 1).run [rL v0]=some [rL [v0]]) /\
  (∀ {v0:(List (List Int))},(aO.mk 1 1).run [rL v0]=some [rL [v0]]) /\
  (∀ {v_kind v_id v_src v_dst v_amt:Int},(aO.mk 5 1).run [i64 v_kind,i64 v_id,i64 v_src,i64 v_dst,i64 v_amt]=some [rL [(⟨v_kind,v_id,v_src,v_dst,v_amt⟩:nS)]]) /\
  (∀ {v_ballot v_vote v_state v_cmd_kind v_cmd_id v_cmd_src v_cmd_dst v_cmd_amt v_attr_seq:Int} {v_attr_deps:(List Int)},(aO.mk 10 1).run [i64 v_ballot,i64 v_vote,i64 v_state,i64 v_cmd_kind,i64 v_cmd_id,i64 v_cmd_src,i64 v_cmd_dst,i64 v_cmd_amt,i64 v_attr_seq,rL v_attr_deps]=some [rL [(⟨v_ballot,v_vote,v_state,⟨v_cmd_kind,v_cmd_id,v_cmd_src,v_cmd_dst,v_cmd_amt⟩,⟨v_attr_seq,v_attr_deps⟩⟩:bL)]]) /\
  (∀ {v_n:Int} {v_rows:(List (List bL))},(aO.mk 2 1).run [i64 v_n,rL v_rows]=some [rL [(⟨v_n,v_rows⟩:aR)]]) :=
 ⟨rfl,
  rfl,
  rfl,
  rfl,
  rfl,
  rfl,
  rfl,
  rfl,
  rfl,
  rfl,
  rfl,
  rfl,
  rfl,
  rfl,
  rfl,
  rfl,
  rfl,
  rfl,
  rfl,
  (Ya9 rfl rfl),
  (Ya9 rfl rfl),
  (Ya9 rfl rfl)⟩
theorem mQ:(∀ {n:Int},0<=n->n<=100000000000->(aO.make 8 [(.int .i64 0)]).run [i64 n]=some [rL (Qb0 n.toNat (0:Int))]) /\
  (∀ {n:Int},0<=n->n<=100000000000->(aO.make 16 [(.str [])]).run [i64 n]=some [rL (Qb0 n.toNat ([]:(List UInt8)))]) /\
  (∀ {n:Int},0<=n->n<=100000000000->(aO.make 24 [(.rows 1 [])]).run [i64 n]=some [rL (Qb0 n.toNat ([]:(List Int)))]) /\
  (∀ {n:Int},0<=n->n<=100000000000->(aO.make 24 [(.rows 10 [])]).run [i64 n]=some [rL (Qb0 n.toNat ([]:(List bL)))]) /\
  (∀ {n:Int},0<=n->n<=100000000000->(aO.make 24 [(.rows 1 [])]).run [i64 n]=some [rL (Qb0 n.toNat ([]:(List (List Int))))]) /\
  (∀ {n:Int},0<=n->n<=100000000000->(aO.make 40 [(.int .i64 0),(.int .i64 0),(.int .i64 0),(.int .i64 0),(.int .i64 0)]).run [i64 n]=some [rL (Qb0 n.toNat (default:nS))]) /\
  (∀ {n:Int},0<=n->n<=100000000000->(aO.make 96 [(.int .i64 0),(.int .i64 0),(.int .i64 0),(.int .i64 0),(.int .i64 0),(.int .i64 0),(.int .i64 0),(.int .i64 0),(.int .i64 0),(.rows 1 [])]).run [i64 n]=some [rL (Qb0 n.toNat (default:bL))]) /\
  (∀ {n:Int},0<=n->n<=100000000000->(aO.make 32 [(.int .i64 0),(.rows 1 [])]).run [i64 n]=some [rL (Qb0 n.toNat (default:aR))]) :=
 ⟨fun h h2=>(yU rfl h (by unfold dZ;omega)),
  fun h h2=>(yU rfl h (by unfold dZ;omega)),
  fun h h2=>(yU rfl h (by unfold dZ;omega)),
  fun h h2=>(yU rfl h (by unfold dZ;omega)),
  fun h h2=>(yU rfl h (by unfold dZ;omega)),
  fun h h2=>(yU rfl h (by unfold dZ;omega)),
  fun h h2=>(yU rfl h (by unfold dZ;omega)),
  fun h h2=>(yU rfl h (by unfold dZ;omega))⟩
theorem iQ:(∀ {xs ys:List Int},xs.length+ys.length<=100000000000->(aO.app 1 8 true).run [rL xs,rL ys]=some [rL (xs++ys)]) /\
  (∀ {ys:List Int},ys.length<=100000000000->(aO.app 1 8 true).run [.rows 1 [],rL ys]=some [rL ys]) /\
  (∀ {xs ys:List Int},xs.length+ys.length<=100000000000->(aO.app 1 8 false).run [rL xs,rL ys]=some [rL (xs++ys)]) /\
  (∀ {ys:List Int},ys.length<=100000000000->(aO.app 1 8 false).run [.rows 1 [],rL ys]=some [rL ys]) /\
  (∀ {xs ys:List (List UInt8)},xs.length+ys.length<=100000000000->(aO.app 1 16 true).run [rL xs,rL ys]=some [rL (xs++ys)]) /\
  (∀ {ys:List (List UInt8)},ys.length<=100000000000->(aO.app 1 16 true).run [.rows 1 [],rL ys]=some [rL ys]) /\
  (∀ {xs ys:List (List UInt8)},xs.length+ys.length<=100000000000->(aO.app 1 16 false).run [rL xs,rL ys]=some [rL (xs++ys)]) /\
  (∀ {ys:List (List UInt8)},ys.length<=100000000000->(aO.app 1 16 false).run [.rows 1 [],rL ys]=some [rL ys]) /\
  (∀ {xs ys:List (List Int)},xs.length+ys.length<=100000000000->(aO.app 1 24 false).run [rL xs,rL ys]=some [rL (xs++ys)]) /\
  (∀ {ys:List (List Int)},ys.length<=100000000000->(aO.app 1 24 false).run [.rows 1 [],rL ys]=some [rL ys]) /\
  (∀ {xs ys:List (List bL)},xs.length+ys.length<=100000000000->(aO.app 1 24 false).run [rL xs,rL ys]=some [rL (xs++ys)]) /\
  (∀ {ys:List (List bL)},ys.length<=100000000000->(aO.app 1 24 false).run [.rows 1 [],rL ys]=some [rL ys]) /\
  (∀ {xs ys:List (List (List Int))},xs.length+ys.length<=100000000000->(aO.app 1 24 false).run [rL xs,rL ys]=some [rL (xs++ys)]) /\
  (∀ {ys:List (List (List Int))},ys.length<=100000000000->(aO.app 1 24 false).run [.rows 1 [],rL ys]=some [rL ys]) /\
  (∀ {xs ys:List nS},xs.length+ys.length<=100000000000->(aO.app 5 40 true).run [rL xs,rL ys]=some [rL (xs++ys)]) /\
  (∀ {ys:List nS},ys.length<=100000000000->(aO.app 5 40 true).run [.rows 5 [],rL ys]=some [rL ys]) /\
  (∀ {xs ys:List nS},xs.length+ys.length<=100000000000->(aO.app 5 40 false).run [rL xs,rL ys]=some [rL (xs++ys)]) /\
  (∀ {ys:List nS},ys.length<=100000000000->(aO.app 5 40 false).run [.rows 5 [],rL ys]=some [rL ys]) /\
  (∀ {xs ys:List bL},xs.length+ys.length<=100000000000->(aO.app 10 96 false).run [rL xs,rL ys]=some [rL (xs++ys)]) /\
  (∀ {ys:List bL},ys.length<=100000000000->(aO.app 10 96 false).run [.rows 10 [],rL ys]=some [rL ys]) /\
  (∀ {xs ys:List aR},xs.length+ys.length<=100000000000->(aO.app 2 32 false).run [rL xs,rL ys]=some [rL (xs++ys)]) /\
  (∀ {ys:List aR},ys.length<=100000000000->(aO.app 2 32 false).run [.rows 2 [],rL ys]=some [rL ys]) :=
 ⟨fun h=>(xU rfl (fun _ _=>rfl) (by unfold dZ;omega)),
  fun h=>(rP rfl (fun _ _=>rfl) (by unfold dZ;omega)),
  fun h=>(xU rfl (fun h=>by cases h) (by unfold dZ;omega)),
  fun h=>(rP rfl (fun h=>by cases h) (by unfold dZ;omega)),
  fun h=>(xU rfl (fun _ _=>rfl) (by unfold dZ;omega)),
  fun h=>(rP rfl (fun _ _=>rfl) (by unfold dZ;omega)),
  fun h=>(xU rfl (fun h=>by cases h) (by unfold dZ;omega)),
  fun h=>(rP rfl (fun h=>by cases h) (by unfold dZ;omega)),
  fun h=>(xU rfl (fun h=>by cases h) (by unfold dZ;omega)),
  fun h=>(rP rfl (fun h=>by cases h) (by unfold dZ;omega)),
  fun h=>(xU rfl (fun h=>by cases h) (by unfold dZ;omega)),
  fun h=>(rP rfl (fun h=>by cases h) (by unfold dZ;omega)),
  fun h=>(xU rfl (fun h=>by cases h) (by unfold dZ;omega)),
  fun h=>(rP rfl (fun h=>by cases h) (by unfold dZ;omega)),
  fun h=>(xU rfl (fun _ _=>rfl) (by unfold dZ;omega)),
  fun h=>(rP rfl (fun _ _=>rfl) (by unfold dZ;omega)),
  fun h=>(xU rfl (fun h=>by cases h) (by unfold dZ;omega)),
  fun h=>(rP rfl (fun h=>by cases h) (by unfold dZ;omega)),
  fun h=>(xU rfl (fun h=>by cases h) (by unfold dZ;omega)),
  fun h=>(rP rfl (fun h=>by cases h) (by unfold dZ;omega)),
  fun h=>(xU rfl (fun h=>by cases h) (by unfold dZ;omega)),
  fun h=>(rP rfl (fun h=>by cases h) (by unfold dZ;omega))⟩
theorem Ja6:(∀ {xs:List Int} {lo hi:Int},0<=lo->lo<=hi->hi<=xs.length->(aO.sub 1 true).run [rL xs,i64 lo,i64 hi]=some [rL ((xs.take hi.toNat).drop lo.toNat)]) /\
  (∀ {xs:List Int} {lo hi:Int},0<=lo->lo<=hi->hi<=xs.length->(aO.sub 1 false).run [rL xs,i64 lo,i64 hi]=some [rL ((xs.take hi.toNat).drop lo.toNat)]) /\
  (∀ {xs:List (List UInt8)} {lo hi:Int},0<=lo->lo<=hi->hi<=xs.length->(aO.sub 1 true).run [rL xs,i64 lo,i64 hi]=some [rL ((xs.take hi.toNat).drop lo.toNat)]) /\
  (∀ {xs:List (List UInt8)} {lo hi:Int},0<=lo->lo<=hi->hi<=xs.length->(aO.sub 1 false).run [rL xs,i64 lo,i64 hi]=some [rL ((xs.take hi.toNat).drop lo.toNat)]) /\
  (∀ {xs:List (List Int)} {lo hi:Int},0<=lo->lo<=hi->hi<=xs.length->(aO.sub 1 false).run [rL xs,i64 lo,i64 hi]=some [rL ((xs.take hi.toNat).drop lo.toNat)]) /\
  (∀ {xs:List (List bL)} {lo hi:Int},0<=lo->lo<=hi->hi<=xs.length->(aO.sub 1 false).run [rL xs,i64 lo,i64 hi]=some [rL ((xs.take hi.toNat).drop lo.toNat)]) /\
  (∀ {xs:List (List (List Int))} {lo hi:Int},0<=lo->lo<=hi->hi<=xs.length->(aO.sub 1 false).run [rL xs,i64 lo,i64 hi]=some [rL ((xs.take hi.toNat).drop lo.toNat)]) /\
  (∀ {xs:List nS} {lo hi:Int},0<=lo->lo<=hi->hi<=xs.length->(aO.sub 5 true).run [rL xs,i64 lo,i64 hi]=some [rL ((xs.take hi.toNat).drop lo.toNat)]) /\
  (∀ {xs:List nS} {lo hi:Int},0<=lo->lo<=hi->hi<=xs.length->(aO.sub 5 false).run [rL xs,i64 lo,i64 hi]=some [rL ((xs.take hi.toNat).drop lo.toNat)]) /\
  (∀ {xs:List bL} {lo hi:Int},0<=lo->lo<=hi->hi<=xs.length->(aO.sub 10 false).run [rL xs,i64 lo,i64 hi]=some [rL ((xs.take hi.toNat).drop lo.toNat)]) /\
  (∀ {xs:List aR} {lo hi:Int},0<=lo->lo<=hi->hi<=xs.length->(aO.sub 2 false).run [rL xs,i64 lo,i64 hi]=some [rL ((xs.take hi.toNat).drop lo.toNat)]) :=
 ⟨fun h0 h1 h2=>(yT rfl (fun _ _=>rfl) h0 h1 h2),
  fun h0 h1 h2=>(yT rfl (fun h=>by cases h) h0 h1 h2),
  fun h0 h1 h2=>(yT rfl (fun _ _=>rfl) h0 h1 h2),
  fun h0 h1 h2=>(yT rfl (fun h=>by cases h) h0 h1 h2),
  fun h0 h1 h2=>(yT rfl (fun h=>by cases h) h0 h1 h2),
  fun h0 h1 h2=>(yT rfl (fun h=>by cases h) h0 h1 h2),
  fun h0 h1 h2=>(yT rfl (fun h=>by cases h) h0 h1 h2),
  fun h0 h1 h2=>(yT rfl (fun _ _=>rfl) h0 h1 h2),
  fun h0 h1 h2=>(yT rfl (fun h=>by cases h) h0 h1 h2),
  fun h0 h1 h2=>(yT rfl (fun h=>by cases h) h0 h1 h2),
  fun h0 h1 h2=>(yT rfl (fun h=>by cases h) h0 h1 h2)⟩
theorem Gaq:(∀ {a_kind a_id a_src a_dst a_amt b_kind b_id b_src b_dst b_amt:Int},(aO.eqs [0,0,0,0,0]).run [i64 a_kind,i64 a_id,i64 a_src,i64 a_dst,i64 a_amt,i64 b_kind,i64 b_id,i64 b_src,i64 b_dst,i64 b_amt]=some [.bool (decide ((⟨a_kind,a_id,a_src,a_dst,a_amt⟩:nS)=⟨b_kind,b_id,b_src,b_dst,b_amt⟩))]) :=
 (fun {a_kind a_id a_src a_dst a_amt b_kind b_id b_src b_dst b_amt}=>Ebr [a_kind,a_id,a_src,a_dst,a_amt] [b_kind,b_id,b_src,b_dst,b_amt] rfl (by simp[nS.mk.injEq]))
end Go.Proofs.YtdpfilpckndhcaaGreatDoor.Rf

namespace Go.Proofs.YtdpfilpckndhcaaGreatDoor.Rf
set_option linter.unusedVariables false
set_option linter.unusedSimpArgs false
section
variable {T:Nat->Ent} {β:Type} {α:Type} [Inhabited α]
inductive Rd1 (σ:Type) where
 |go (s:σ)
 |out (r:Kind×List D)
def Iar {σ:Type}(f:Nat->α->σ->Rd1 σ):Nat->List α->σ->Rd1 σ
 |_,[],s=>.go s
 | i, x :: xs, s => match f i x s with
  |.go s'=>Iar f (i+1) xs s'
  |.out r=>.out r
def Qbb {σ:Type}(vs:Int->σ->List D)(i:Int):Rd1 σ->Kind×List D
 |.go s=>(.cont,vs (i+1) s)
 |.out r=>r
theorem Ob3 {σ:Type}{body:Tm β}{ρ:List D}{init:List aM}(xs:List α)(vs:Int->σ->List D)(s0:σ)(f:Nat->α->σ->Rd1 σ)(inv:Nat->σ->Prop)(fin:σ->Kind×List D)
  (h0:init.map (·.val ρ)=vs 0 s0) (hi:inv 0 s0)
  (h1:∀ (i:Nat) s,i<xs.length->inv i s->Er T body (ρ++vs i s)=some (Qbb vs i (f i (atI xs i) s))/\(∀ s',f i (atI xs i) s=.go s'->inv (i+1) s')/\∀ r,f i (atI xs i) s=.out r->r.1≠.cont)
  (h2:∀ s,inv xs.length s->Er T body (ρ++vs xs.length s)=some (fin s)/\(fin s).1≠.cont) :
  ∃ r,Er T (.loop init body) ρ=some r/\((∃ s,Iar f 0 xs s0=.go s/\inv xs.length s/\r=fin s)\/Iar f 0 xs s0=.out r):=by
 have key:=Zat (T:=T) (body:=body) (ρ:=ρ) (γ:=Nat×σ) (fun c=>xs.length-c.1) (fun c=>c.1<=xs.length/\inv c.1 c.2/\Iar f c.1 (xs.drop c.1) c.2=Iar f 0 xs s0) (fun c=>vs (c.1:Int) c.2)
  (fun r=>(∃ s,Iar f 0 xs s0=.go s/\inv xs.length s/\r=fin s)\/Iar f 0 xs s0=.out r)
  (fun ⟨i,s⟩ ⟨hle,hv,hf⟩=>by
   simp only at hle hv hf ⊢
   rcases Rbj i xs.length with hlt|hge
   ·obtain⟨h3,h4,h5⟩:=h1 i s hlt hv
    have hd:xs.drop i=atI xs i::xs.drop (i+1):=by
     rw[Sbz hlt,cK hlt]
    rw[hd,Iar]at hf
    refine⟨_,h3,?_⟩
    cases e:f i (atI xs i) s with
    | go s' =>
     rw[e]at hf
     exact .inl ⟨rfl,(i+1,s'),⟨by simp only;omega,h4 s' e,hf⟩,by simp only;omega,rfl⟩
    | out r =>
     rw[e]at hf
     exact .inr ⟨h5 r e,.inr hf.symm⟩
   ·obtain rfl:i=xs.length:=by omega
    obtain⟨h3,h4⟩:=h2 s hv
    rw[List.drop_length,Iar]at hf
    exact⟨_,h3,.inr ⟨h4,.inl ⟨s,hf.symm,hv,rfl⟩⟩⟩)
  xs.length (0,s0) (by simp) ⟨by simp,hi,by simp⟩ init h0
 exact key
theorem Va2 {body:Tm β}{ρ:List D}(j:Nat)(n:Nat)(p:Nat->Bool)(r:List D)
  (h1:∀ i:Nat,i<n->p i=true->Er T body (ρ++[i64 i])=some (.cont,[i64 ((i:Int)+1)]))
  (h2:∀ i:Nat,i<n->p i=false->Er T body (ρ++[i64 i])=some (.ret,r))
  (h3:Er T body (ρ++[i64 n])=some (.yield j,[])) :
  Er T (.loop [.c (i64 0)] body) ρ=kW (Xac p n) (some (.yield j,[])) (some (.ret,r)):=by
 have key:=Zat (T:=T) (body:=body) (ρ:=ρ) (fun i=>n-i) (fun i=>i<=n/\∀ j,j<i->p j=true) (fun i=>[i64 (i:Nat)])
  (fun q=>(∀ j,j<n->p j=true)/\q=(.yield j,[])\/(∃ j,j<n/\p j=false)/\q=(.ret,r))
  (fun i ⟨hi,hall⟩=>by
   rcases Rbj i n with hlt|hge
   ·cases e:p i with
    | true => exact ⟨_, h1 i hlt e, .inl ⟨rfl, i + 1, ⟨by omega, fun j hj => by
      rcases Rbj j i with h|h
      ·exact hall j h
      ·obtain rfl:j=i:=by omega
       exact e⟩,by omega,rfl⟩⟩
    |false=>exact⟨_,h2 i hlt e,.inr ⟨by simp,.inr ⟨⟨i,hlt,e⟩,rfl⟩⟩⟩
   ·obtain rfl:i=n:=by omega
    exact⟨_,h3,.inr ⟨by simp,.inl ⟨hall,rfl⟩⟩⟩)
  n 0 (by omega) ⟨by omega,fun j hj=>by omega⟩ [.c (i64 0)] (by simp[aM.val])
 obtain⟨q,h4,h5⟩:=key
 rw[h4]
 rcases h5 with ⟨h6,rfl⟩|⟨h6,rfl⟩
 ·rw[sP.2 h6];rfl
 ·rw[Laq.2 h6];rfl
theorem Fbc (xs:List α)(p:α->Bool):Xac (fun i=>p (atI xs i)) xs.length=xs.all p:=by
 cases e:xs.all p with
 | true =>
  rw[Rbg]at e
  rw[sP]
  intro i hi
  rw[cK hi]
  exact e _ (Tbc hi)
 | false =>
  rw[List.all_eq_false]at e
  obtain⟨x,hx,hp⟩:=e
  obtain⟨i,hi,rfl⟩:=List.getElem_of_mem hx
  exact Laq.2 ⟨i,hi,by rw[cK hi];simpa using hp⟩
theorem qB [DecidableEq α]{xs ys:List α}(hl:xs.length=ys.length):Xac (fun i=>decide (atI xs i=atI ys i)) xs.length=decide (xs=ys):=by
 by_cases e:xs=ys
 ·subst e
  rw[decide_eq_true rfl,sP]
  exact fun i _=>decide_eq_true rfl
 ·rw[decide_eq_false e]
  cases h:Xac (fun i=>decide (atI xs i=atI ys i)) xs.length with
  |false=>rfl
  | true =>
   rw[sP]at h
   refine absurd (List.ext_getElem hl fun i h1 h2=>?_) e
   have:=of_decide_eq_true (h i h1)
   rwa[cK h1,cK h2]at this
theorem xY {xs ys:List α}[DecidableEq α](h:¬ xs.length=ys.length):decide (xs=ys)=false:=decide_eq_false fun e=>h (by rw[e])
theorem Pbj {body:Tm β}{ρ:List D}(j:Nat)(xs:List α)(p:α->Bool)(r:List D)
  (h1:∀ i:Nat,i<xs.length->InB xs (i:Int)->decide ((i:Int)<xs.length)=true->p (atI xs i)=true->Er T body (ρ++[i64 i])=some (.cont,[i64 ((i:Int)+1)]))
  (h2:∀ i:Nat,i<xs.length->InB xs (i:Int)->decide ((i:Int)<xs.length)=true->p (atI xs i)=false->Er T body (ρ++[i64 i])=some (.ret,r))
  (h3:decide ((xs.length:Int)<xs.length)=false->Er T body (ρ++[i64 xs.length])=some (.yield j,[])) :
  Er T (.loop [.c (i64 0)] body) ρ=kW (xs.all p) (some (.yield j,[])) (some (.ret,r)):=by
 rw[Va2 j xs.length (fun i=>p (atI xs i)) r (fun i hi hp=>h1 i hi (aP.2 hi) (by simp;omega) hp) (fun i hi hp=>h2 i hi (aP.2 hi) (by simp;omega) hp) (h3 (by simp)),Fbc]
omit [Inhabited α] in
theorem Pag {body:Tm β}{ρ:List D}(j:Nat)(n:Nat)(p:Nat->Bool)(r:List D)
  (h1:∀ i:Nat,i<n->decide ((i:Int)<n)=true->Er T body (ρ++[i64 i])=kW (p i) (some (.cont,[i64 ((i:Int)+1)])) (some (.ret,r)))
  (h3:decide ((n:Int)<n)=false->Er T body (ρ++[i64 n])=some (.yield j,[])) :
  Er T (.loop [.c (i64 0)] body) ρ=kW (Xac p n) (some (.yield j,[])) (some (.ret,r)) :=
 Va2 j n p r (fun i hi hp=>by rw[h1 i hi (by simp;omega),hp];rfl) (fun i hi hp=>by rw[h1 i hi (by simp;omega),hp];rfl) (h3 (by simp))
theorem Nbe {body:Tm β}{ρ:List D}(j:Nat)(xs:List α)(p:α->Bool)(r:List D)
  (h1:∀ i:Nat,i<xs.length->InB xs (i:Int)->decide ((i:Int)<xs.length)=true->atI xs (i:Int)∈xs->Er T body (ρ++[i64 i])=kW (p (atI xs i)) (some (.cont,[i64 ((i:Int)+1)])) (some (.ret,r)))
  (h3:decide ((xs.length:Int)<xs.length)=false->Er T body (ρ++[i64 xs.length])=some (.yield j,[])) :
  Er T (.loop [.c (i64 0)] body) ρ=kW (xs.all p) (some (.yield j,[])) (some (.ret,r)) :=
 Pbj j xs p r (fun i hi hb hl hp=>by rw[h1 i hi hb hl (by rw[cK hi];exact Tbc hi),hp];rfl) (fun i hi hb hl hp=>by rw[h1 i hi hb hl (by rw[cK hi];exact Tbc hi),hp];rfl) h3
def ixF (p:α->Bool)(xs:List α):Int:=match xs.findIdx? p with
 |some i=>i
 |none=>-1
omit [Inhabited α] in
theorem oI (p:α->Bool)(xs:List α):decide (0<=ixF p xs)=xs.any p:=by
 unfold ixF
 cases h:xs.findIdx? p with
 | none =>
  rw[List.findIdx?_eq_none_iff]at h
  have:xs.any p=false:=by
   rw[List.any_eq_false]
   exact fun x hx=>by simp[h x hx]
  rw[this];rfl
 | some i =>
  have:xs.any p=true:=by
   rw[List.findIdx?_eq_some_iff_getElem]at h
   obtain⟨hi,hp,-⟩:=h
   rw[List.any_eq_true]
   exact⟨_,Tbc hi,hp⟩
  rw[this];simp
theorem Ja3 {body:Tm β}{ρ:List D}(j:Nat)(xs:List α)(p:α->Bool)(rf:Int->List D)
  (h1:∀ i:Nat,i<xs.length->InB xs (i:Int)->decide ((i:Int)<xs.length)=true->p (atI xs i)=true->Er T body (ρ++[i64 i])=some (.ret,rf i))
  (h2:∀ i:Nat,i<xs.length->InB xs (i:Int)->decide ((i:Int)<xs.length)=true->p (atI xs i)=false->Er T body (ρ++[i64 i])=some (.cont,[i64 ((i:Int)+1)]))
  (h3:decide ((xs.length:Int)<xs.length)=false->Er T body (ρ++[i64 xs.length])=some (.yield j,[])) :
  Er T (.loop [.c (i64 0)] body) ρ=kW (xs.any p) (some (.ret,rf (ixF p xs))) (some (.yield j,[])):=by
 have hall:∀ (i:Nat) (ys:List α),Iar (fun (i:Nat) x (_:Unit)=>if p x then Rd1.out (.ret,rf i) else .go ()) i ys ()=match ys.findIdx? p with|some k=>.out (.ret,rf ((i+k:Nat):Int))|none=>.go ():=by
  intro i ys
  induction ys generalizing i with
  |nil=>rfl
  | cons y ys ih =>
   rw[Iar,List.findIdx?_cons]
   cases p y with
   |true=>simp
   | false =>
    simp only[Qbr,if_false]
    rw[ih (i+1)]
    cases ys.findIdx? p with
    |none=>rfl
    |some k=>simp only[Rb5];congr 4;omega
 obtain⟨q,h4,h5⟩:=Ob3 (T:=T) (body:=body) (ρ:=ρ) (init:=[.c (i64 0)]) xs (fun i (_:Unit)=>[i64 i]) () (fun i x _=>if p x then .out (.ret,rf i) else .go ()) (fun _ _=>True) (fun _=>(.yield j,[])) rfl trivial
  (fun i _ hi _=>by
   cases e:p (atI xs i) with
   |true=>exact⟨by rw[h1 i hi (aP.2 hi) (by simp;omega) e];rfl,fun _ _=>trivial,fun r h=>by simp at h;rw[<- h];simp⟩
   |false=>exact⟨by rw[h2 i hi (aP.2 hi) (by simp;omega) e];rfl,fun _ _=>trivial,fun r h=>by simp at h⟩)
  (fun _ _=>⟨h3 (by simp),by simp⟩)
 rw[h4,<- oI]
 rw[hall]at h5
 unfold ixF
 cases e:xs.findIdx? p with
 | none =>
  rw[e]at h5
  rcases h5 with ⟨s,-,-,rfl⟩|h5
  ·rfl
  ·simp at h5
 | some k =>
  rw[e]at h5
  rcases h5 with ⟨s,h5,-⟩|h5
  ·simp at h5
  ·simp only[Nat.zero_add,Rd1.out.injEq]at h5
   rw[<- h5]
   simp[kW]
theorem at_mem {xs:List α}{i:Nat}(h:i<xs.length):atI xs (i:Int)∈xs:=by rw[cK h];exact Tbc h
omit [Inhabited α] in
theorem Gak {body:Tm β}{ρ:List D}{init:List aM}(n:Nat)(vs:Nat->List D)(r:Kind×List D)(h0:init.map (·.val ρ)=vs 0)(hr:r.1≠.cont)
  (h1:∀ i:Nat,i<n->decide ((i:Int)<n)=true->Er T body (ρ++vs i)=some (.cont,vs (i+1)))
  (h2:decide ((n:Int)<n)=false->Er T body (ρ++vs n)=some r):Er T (.loop init body) ρ=some r:=by
 obtain⟨q,h3,rfl⟩:=Zat (T:=T) (body:=body) (ρ:=ρ) (fun i=>n-i) (fun i=>i<=n) vs (fun q=>q=r)
  (fun i hi=>by
   rcases Rbj i n with hlt|hge
   ·exact⟨_,h1 i hlt (by simp;omega),.inl ⟨rfl,i+1,by omega,by omega,rfl⟩⟩
   ·obtain rfl:i=n:=by omega
    exact⟨_,h2 (by simp),.inr ⟨hr,rfl⟩⟩) n 0 (by omega) (by omega) init h0
 exact h3
omit [Inhabited α] in
theorem bV {γ:Type}{body:Tm β}{ρ:List D}{init:List aM}(r:Kind×List D)(m:γ->Nat)(inv:γ->Prop)(vs:γ->List D)(c0:γ)(h0:init.map (·.val ρ)=vs c0)(hi:inv c0)(hr:r.1≠.cont)
  (h:∀ c,inv c->(∃ c',Er T body (ρ++vs c)=some (.cont,vs c')/\inv c'/\m c'<m c)\/Er T body (ρ++vs c)=some r):Er T (.loop init body) ρ=some r:=by
 obtain⟨q,h1,rfl⟩:=Zat (T:=T) (body:=body) (ρ:=ρ) m inv vs (fun q=>q=r)
  (fun c hc=>by
   rcases h c hc with ⟨c',h2,h3,h4⟩|h2
   ·exact⟨_,h2,.inl ⟨rfl,c',h3,h4,rfl⟩⟩
   ·exact⟨_,h2,.inr ⟨hr,rfl⟩⟩) (m c0) c0 (Qbw _) hi init h0
 exact h1
end
theorem take_at {α:Type}[Inhabited α]{xs:List α}{i:Nat}(h:i<xs.length):xs.take i++[atI xs (i:Int)]=xs.take (i+1):=by rw[List.take_succ_eq_append_getElem h,cK h]
theorem yL {α:Type}[Inhabited α]{xs:List α}{k:Int}(h:InB xs k):cZ xs k (atI xs k)=xs:=by
 have h2:=h.lt
 unfold cZ atI
 rw[Qb5,Qbz h2]
 exact List.set_getElem_self h2
def Hbk {α:Type}[Enc α](xs:List (List α))(k:Int):D:=.rows 1 ((xs.map Enc.enc).set k.toNat [.hole])
theorem uD:(∀ {α:Type} [Enc α] {xs:List (List α)} {k:Int},InB xs k->(aO.set 1 0 1).run [rL xs,i64 k,.hole]=some [Hbk xs k])/\(∀ {α:Type} [Enc α] {xs:List (List α)} {k j:Int},InB xs j->aO.inb.run [Hbk xs k,i64 j]=some []) /\
  (∀ {α:Type} [Enc α] {xs:List (List α)} {k:Int} {l:List α},InB xs k->(aO.set 1 0 1).run [Hbk xs k,i64 k,rL l]=some [rL (cZ xs k l)]):=by
 refine⟨?_,?_,?_⟩
 ·intro α _ xs k h
  have h2:=h.lt
  unfold InB at h
  have e:(xs.map Enc.enc)[k.toNat]?=some [rL xs[k.toNat]]:=by rw[Rbu,Qbz h2];rfl
  show (if _ then _ else _)=_
  rw[if_pos ⟨rfl,h.1⟩,e]
  rfl
 ·intro α _ xs k j h
  unfold InB at h
  show (if _ then _ else _)=_
  rw[if_pos ⟨h.1,by simpa using h.2⟩]
 ·intro α _ xs k l h
  have h2:=h.lt
  unfold InB at h
  have e:((xs.map Enc.enc).set k.toNat [.hole])[k.toNat]?=some [.hole]:=by rw[List.getElem?_set_self (by simpa using h2)]
  show (if _ then _ else _)=_
  rw[if_pos ⟨rfl,h.1⟩,e]
  show some _=_
  simp only[rL,cZ,List.map_set,List.set_set]
  rfl
theorem SQ:(∀ {a b:Int},-9223372036854775808<=a+b->a+b<=9223372036854775807->(aO.bin .add).run [i64 a,i64 b]=some [i64 (a+b)]) /\
  (∀ {a b:Int},-9223372036854775808<=a-b->a-b<=9223372036854775807->(aO.bin .sub).run [i64 a,i64 b]=some [i64 (a-b)]) /\
  (∀ {a b:Int},0<=a->a<=9223372036854775807->0<b->(aO.bin .quo).run [i64 a,i64 b]=some [i64 (a / b)])/\(∀ {a b:Int},0<=a->0<b->(aO.bin .rem).run [i64 a,i64 b]=some [i64 (a % b)]) :=
 ⟨Ya0,Gbs,Dbw,Dbv⟩
end Go.Proofs.YtdpfilpckndhcaaGreatDoor.Rf

namespace Go.Proofs.YtdpfilpckndhcaaGreatDoor.Rf
set_option linter.unusedVariables false
set_option linter.unusedSimpArgs false
theorem fU:(∀ {α:Type} [Inhabited α] {xs:List α} {k:Int} {a:α},InB xs k->atI (cZ xs k a) k=a)/\(∀ {α:Type} {xs:List α} {k:Int} {a b:α},cZ (cZ xs k a) k b=cZ xs k b) /\
  (∀ {α:Type} {xs:List α} {j k:Int} {a:α},InB (cZ xs j a) k=InB xs k)/\(∀ {α:Type} {xs:List α} {j:Int} {a:α},(cZ xs j a).length=xs.length):=by
 refine⟨?_,?_,?_,?_⟩
 ·intro α _ xs k a h
  have:=h.lt
  rw[cZ,atI,Qb5,List.getElem?_set_self this];rfl
 ·intro α xs k a b
  rw[cZ,cZ,cZ,List.set_set]
 ·intro α xs j k a
  unfold InB cZ
  rw[Sbp]
 ·intro α xs j a
  exact Sbp ..
def szL {α:Type}(f:α->Nat)(xs:List α):Nat:=xs.length+(xs.map f).sum
theorem Tax {α:Type}{f:α->Nat}{x:α}{xs:List α}:szL f (x::xs)=1+f x+szL f xs:=by simp[szL];omega
theorem Rax {α:Type}{f:α->Nat}:∀ {xs:List α} {x:α},x∈xs->1+f x<=szL f xs
 |[],x,h=>by cases h
 | y :: ys, x, h => by
  rw[Tax]
  rcases List.mem_cons.1 h with rfl|h
  ·omega
  ·have:=Rax (f:=f) h
   omega
theorem Dbt {α:Type}{xs:List α}:szL (fun _=>0) xs=xs.length:=by
 have:∀ xs:List α,(xs.map fun _=>0).sum=0:=fun xs=>by
  induction xs with
  |nil=>rfl
  |cons x xs ih=>simp only[Rbh,List.sum_cons,ih]
 rw[szL,this];rfl
theorem Xau {α:Type}{f:α->Nat}{xs:List α}:xs.length<=szL f xs:=by unfold szL;omega
section
variable {T:Nat->Ent} {β:Type} {α:Type} [Inhabited α]
end
end Go.Proofs.YtdpfilpckndhcaaGreatDoor.Rf

namespace Go.Proofs.YtdpfilpckndhcaaGreatDoor.Rf
set_option linter.unusedVariables false
set_option linter.unusedSimpArgs false
def Dbs (x:gT):Nat:=szL (fun _=>0) x.deps
def rD (x:bL):Nat:=Dbs x.attr
end Go.Proofs.YtdpfilpckndhcaaGreatDoor.Rf

namespace Go.Proofs.YtdpfilpckndhcaaGreatDoor.Rf
set_option linter.unusedVariables false
set_option linter.unusedSimpArgs false
theorem SZ:(∀ b:Bool,(b&&true)=b)/\(∀ b:Bool,(true&&b)=b)/\(∀ b:Bool,(b&&false)=false)/\(∀ b:Bool,(false&&b)=false) /\
  (∀ b:Bool,(b||true)=true)/\(∀ b:Bool,(true||b)=true)/\(∀ b:Bool,(b||false)=b)/\(∀ b:Bool,(false||b)=b)/\((!true)=false)/\((!false)=true) :=
 ⟨Sbh,Sbg,Bool.and_false,Rbp,Bool.or_true,Bool.true_or,Bool.or_false,Sb6,rfl,rfl⟩
theorem aH {γ:Type}{a r:γ}(h:kW true a r=r):a=r:=h
theorem S0:type_of% (And.intro Qbr (And.intro @ite_true.{1} (And.intro @ite_false.{1} (And.intro @SA (And.intro @SB (And.intro @SC (And.intro @SP (And.intro @SQ (And.intro @SZ (And.intro @beq_self_eq_true.{0} (And.intro @decide_true (And.intro @decide_false (And.intro @Mbc @Mbe))))))))))))):=And.intro Qbr (And.intro @ite_true.{1} (And.intro @ite_false.{1} (And.intro @SA (And.intro @SB (And.intro @SC (And.intro @SP (And.intro @SQ (And.intro @SZ (And.intro @beq_self_eq_true.{0} (And.intro @decide_true (And.intro @decide_false (And.intro @Mbc @Mbe))))))))))))
theorem Haa {x y:Bool}(h:x=true↔y=true):some [D.bool x]=some [D.bool y]:=by rw[Bool.eq_iff_iff.2 h]
def bD (n:Int):Bool:=n==3||n==5
theorem aY {n:Int}(h:bD n=true):n=3\/n=5:=by simpa[bD] using h
def inst (n rep no:Int):Bool:=inR rep 0 (n-1)&&inR no 1 6
def dC (c:nS):Bool :=
 if c.kind==0 then decide (c=⟨0,0,0,0,0⟩) else if c.kind==1 then inR c.id 1 999&&inR c.src 0 3&&inR c.dst 0 3&&!(c.src==c.dst)&&inR c.amt 1 1000
 else c.kind==2&&inR c.id 1 999&&inR c.src 0 3&&c.dst==0&&c.amt==0
def nP (c:nS):Int :=
 if !inR c.src 0 3||(c.kind==1&&!inR c.dst 0 3) then 4 else if c.kind==1&&c.src==c.dst then 5 else if !inR c.id 1 999||(c.kind==1&&!inR c.amt 1 1000) then 6 else 0
def fC (n:Int)(a:gT):Bool:=inR a.seq 0 999&&(a.deps.length:Int)==n&&a.deps.all fun x=>inR x 0 6
def none0 (n:Int):gT:=⟨0,Qb0 n.toNat 0⟩
def rowOk (n:Int)(r:bL):Bool :=
 inR r.ballot 0 9999&&inR r.vote 0 r.ballot&&inR r.state 0 3&&(if r.state==0 then r.vote==0&&decide (r.cmd=⟨0,0,0,0,0⟩)&&decide (r.attr=none0 n) else dC r.cmd&&fC n r.attr)
theorem Ga4 {n:Int}(h:bD n=true):fC n (none0 n)=true:=by
 rcases aY h with rfl|rfl<;>rfl
theorem Tad {c:nS}(h:decide (c=⟨0,0,0,0,0⟩)=true):dC c=true:=by
 rw[of_decide_eq_true h];rfl
theorem Ua8 {c:nS}:(nP c==0)=(inR c.src 0 3&&inR c.id 1 999&&(!(c.kind==1)||(inR c.dst 0 3&&!(c.src==c.dst)&&inR c.amt 1 1000))):=by
 unfold nP
 cases inR c.src 0 3<;>cases inR c.id 1 999<;>cases c.kind==1<;>cases inR c.dst 0 3<;>cases c.src==c.dst<;>cases inR c.amt 1 1000<;>rfl
def Ta5 (xs:List bL):Prop:=xs.length<=10000000000/\∀ r∈xs,r.attr.deps.length<=10000000000
def mR (rows:List (List bL)):Prop:=rows.length<=10000000000/\∀ l∈rows,Ta5 l
theorem Fbl (r:bL):rD r=r.attr.deps.length:=Dbt
theorem Xa1 {xs:List bL}(h:szL rD xs<=1048576):Ta5 xs:=by
 refine⟨Sbn (Xau (f:=rD)) (by omega),fun r hr=>?_⟩
 have h1:=Rax (f:=rD) hr
 rw[Fbl]at h1
 omega
theorem Ta4 {rows:List (List bL)}(h:szL (szL rD) rows<=1048576):mR rows:=by
 refine⟨Sbn (Xau (f:=szL rD)) (by omega),fun l hl=>Xa1 ?_⟩
 have h1:=Rax (f:=szL rD) hl
 omega
def eQ (t:aR):Bool:=bD t.n&&(t.rows.length:Int)==t.n&&t.rows.all fun l=>l.all (fun r=>rowOk t.n r)&&decide ((l.length:Int)<=6)
def row0 (n:Int):bL:=⟨0,0,0,⟨0,0,0,0,0⟩,none0 n⟩
def Caf (t:aR)(rep no:Int):bL:=if no<=(atI t.rows rep).length then atI (atI t.rows rep) (no-1) else row0 t.n
def Gb2:bL:=⟨0,0,0,⟨0,0,0,0,0⟩,⟨0,[]⟩⟩
def nV (t:aR)(rep no:Int):bL×Bool:=if eQ t&&inst t.n rep no then (Caf t rep no,true) else (Gb2,false)
theorem Oad:(rL ([]:List Int)=.rows 1 [])/\(rL ([]:List (List Int))=.rows 1 [])/\(rL ([]:List bL)=.rows 10 [])/\(rL ([]:List (List bL))=.rows 1 []):=⟨rfl,rfl,rfl,rfl⟩
theorem dS {n rep no:Int}(h:inst n rep no=true):0<=rep/\rep<=n-1/\1<=no/\no<=6:=by
 simp only[inst,inR,Qbq,decide_eq_true_eq]at h
 omega
theorem gB {t:aR}(h:eQ t=true):bD t.n=true:=by
 simp only[eQ,Qbq]at h;exact h.1.1
theorem lD {t:aR}(h:eQ t=true):(t.rows.length:Int)=t.n:=by
 simp only[eQ,Qbq,beq_iff_eq]at h;exact h.1.2
theorem Cal {t:aR}{rep no:Int}(h:eQ t=true)(hi:inst t.n rep no=true):InB t.rows rep:=by
 have:=lD h
 have:=dS hi
 unfold InB;omega
theorem kJ {t:aR}(h:eQ t=true){l:List bL}(hl:l∈t.rows):l.length<=6/\∀ r∈l,rowOk t.n r=true:=by
 simp only[eQ,Qbq,Rbg,decide_eq_true_eq]at h
 have:=h.2 l hl
 exact⟨by omega,this.1⟩
theorem Va6 {n:Int}{r:bL}(h:rowOk n r=true)(hg:bD n=true):(r.attr.deps.length:Int)=n:=by
 have h2:fC n r.attr=true:=by
  simp only[rowOk,Qbq]at h
  have h3:=h.2
  split at h3
  ·simp only[Qbq]at h3
   rw[of_decide_eq_true h3.2]
   exact Ga4 hg
  ·simp only[Qbq]at h3
   exact h3.2
 simp only[fC,Qbq,beq_iff_eq]at h2
 exact h2.1.2
theorem nG {n:Int}{r:bL}(h:rowOk n r=true):dC r.cmd=true:=by
 simp only[rowOk,Qbq]at h
 have h3:=h.2
 split at h3
 ·simp only[Qbq]at h3
  exact Tad h3.1.2
 ·simp only[Qbq]at h3
  exact h3.1
theorem dG {α:Type}[Inhabited α]{xs:List α}{k:Int}(h:InB xs k):atI xs k∈xs:=by
 have h2:=h.lt
 have e:((k.toNat:Nat):Int)=k:=by unfold InB at h;omega
 rw[<- e]
 exact at_mem h2
theorem Xaj {t:aR}{rep no:Int}(h:eQ t=true)(hi:inst t.n rep no=true):rowOk t.n (Caf t rep no)=true:=by
 unfold Caf
 have hb:=Cal h hi
 have hr:=dS hi
 split
 ·exact (kJ h (dG hb)).2 _ (dG (by unfold InB;omega))
 ·rcases aY (gB h) with e|e<;>rw[e]<;>rfl
theorem Xak {t:aR}{rep no:Int}(h:eQ t=true)(hi:inst t.n rep no=true):((Caf t rep no).attr.deps.length:Int)=t.n:=Va6 (Xaj h hi) (gB h)
def ext (n:Int)(l:List bL)(no:Int):List bL:=l++Qb0 (no-l.length).toNat (row0 n)
def sV (t:aR)(rep no:Int)(r:bL):aR:=⟨t.n,cZ t.rows rep (cZ (ext t.n (atI t.rows rep) no) (no-1) r)⟩
theorem Ba3 {n:Int}{l:List bL}{no:Int}(h:0<=no):((ext n l no).length:Int)=max (l.length:Int) no:=by
 simp only[ext,Qbs,Rbo]
 omega
def nb (b me:Int):Int:=if b<8+me then 8+me else b+1+(me-b-1) % 8
theorem Hbi {x lo hi:Int}(h:inR x lo hi=true):lo<=x/\x<=hi:=by
 simpa[inR] using h
end Go.Proofs.YtdpfilpckndhcaaGreatDoor.Rf

namespace Go.Proofs.YtdpfilpckndhcaaGreatDoor.Rf
set_option linter.unusedVariables false
set_option linter.unusedSimpArgs false
theorem dR {α:Type}{xs:List α}{k:Int}{a:α}:(cZ xs k a).length=xs.length:=Sbp ..
theorem Vab {α:Type}[Inhabited α]{xs:List α}{j k:Int}{a:α}(hj:0<=j)(hk:0<=k)(h:j≠k):atI (cZ xs j a) k=atI xs k:=by
 unfold atI cZ
 rw[Qb5,Qb5,List.getElem?_set_ne (by omega)]
theorem Qa3 {c:nS}(h:dC c=true):(c.kind=0\/c.kind=1\/c.kind=2)/\(c.kind=1->(0<=c.src/\c.src<=3)/\(0<=c.dst/\c.dst<=3)/\c.src≠c.dst/\1<=c.amt/\c.amt<=1000)/\(c.kind=2->0<=c.src/\c.src<=3):=by
 unfold dC at h
 split at h
 ·rename_i h0
  have:c.kind=0:=by simpa using h0
  exact⟨.inl this,by omega,by omega⟩
 ·split at h
  ·rename_i h1
   have:c.kind=1:=by simpa using h1
   simp only[Qbq,inR,decide_eq_true_eq,Rbe,beq_eq_false_iff_ne]at h
   exact⟨by omega,fun _=>⟨h.1.1.1.2,h.1.1.2,h.1.2,h.2⟩,by omega⟩
  ·simp only[Qbq,inR,decide_eq_true_eq,beq_iff_eq]at h
   exact⟨by omega,by omega,fun _=>h.1.1.2⟩
end Go.Proofs.YtdpfilpckndhcaaGreatDoor.Rf

namespace Go.Proofs.YtdpfilpckndhcaaGreatDoor.Rf
set_option linter.unusedVariables false
set_option linter.unusedSimpArgs false
def Waf (xs:List Int)(n:Int):Bool:=xs.any fun x=>x==n
def kZ (xs:List Int)(n:Int):Nat:=(xs.takeWhile fun x=>decide (x<n)).length
def Rak (xs:List Int)(n:Int):List Int:=if decide ((kZ xs n:Int)<xs.length)&&(atI xs (kZ xs n:Nat)==n) then xs else xs.take (kZ xs n)++[n]++xs.drop (kZ xs n)
theorem Zaa (xs:List Int)(n:Int):kZ xs n<=xs.length:=(List.takeWhile_sublist _).length_le
theorem Saj:∀ {xs:List Int} {n:Int} {k:Nat},k<kZ xs n->atI xs (k:Int)<n
 |[],n,k,h=>by simp[kZ]at h
 | x :: xs, n, k, h => by
  unfold kZ at h
  rw[List.takeWhile_cons]at h
  by_cases hx:x<n
  ·rw[if_pos (by simpa using hx)]at h
   cases k with
   |zero=>exact hx
   |succ k=>exact Saj (xs:=xs) (k:=k) (by simpa[kZ] using h)
  ·rw[if_neg (by simpa using hx)]at h
   simp at h
theorem Sak:∀ {xs:List Int} {n:Int},kZ xs n<xs.length->¬ atI xs (kZ xs n:Nat)<n
 |[],n,h=>by simp at h
 | x :: xs, n, h => by
  unfold kZ at h ⊢
  rw[List.takeWhile_cons]at h ⊢
  by_cases hx:x<n
  ·rw[if_pos (by simpa using hx)]at h ⊢
   exact Sak (xs:=xs) (n:=n) (by simpa[kZ] using h)
  ·rw[if_neg (by simpa using hx)]
   exact hx
def sZ (c:nS):List Int:=if c.kind==1 then [min c.src c.dst,max c.src c.dst] else if c.kind==2 then [c.src] else []
theorem Aaf (c:nS):(sZ c).length<=2:=by
 unfold sZ
 split
 ·simp
 ·split<;>simp
def Iak (a b:nS):Bool:=(sZ a).any fun k=>Waf (sZ b) k
theorem Pb4 {a b:Int}(h:a≠b):Rak [a] b=[min a b,max a b]:=by
 by_cases hx:a<b
 ·have e:kZ [a] b=1:=by simp[kZ,hx]
  unfold Rak
  rw[e]
  simp[Int.min_eq_left (Int.le_of_lt hx),Int.max_eq_right (Int.le_of_lt hx)]
 ·have e:kZ [a] b=0:=by simp[kZ,hx]
  unfold Rak
  rw[e]
  simp[atI,h,Int.min_eq_right (by omega:b<=a),Int.max_eq_left (by omega:b<=a)]
def Hbz (l:List bL)(k:Int)(m:Nat):List (List Int):=(Ubc m).flatMap fun i:Nat=>if (atI l (i:Int)).state==3 then [[k,(i:Int)+1]] else []
def Qbm (rows:List (List bL))(m:Nat):List (List Int):=(Ubc m).flatMap fun k:Nat=>Hbz (atI rows (k:Int)) k (atI rows (k:Int)).length
def Qbn (rows:List (List bL)):List (List Int):=Qbm rows rows.length
end Go.Proofs.YtdpfilpckndhcaaGreatDoor.Rf

namespace Go.Proofs.YtdpfilpckndhcaaGreatDoor.Rf
set_option linter.unusedVariables false
set_option linter.unusedSimpArgs false
end Go.Proofs.YtdpfilpckndhcaaGreatDoor.Rf

namespace Go.Proofs.YtdpfilpckndhcaaGreatDoor.Rf
set_option linter.unusedVariables false
set_option linter.unusedSimpArgs false
def Abr (l:List (List Int))(x:List Int):Int:=ixF (fun y=>decide (x=y)) l
def Fb2 (k:Int)(rep no:Int)(m:Nat):List (List Int):=(Ubc m).flatMap fun i:Nat=>if !(k==rep)||!((i:Int)+1==no) then [[k,(i:Int)+1]] else []
def Pba (deps:List Int)(rep no:Int)(m:Nat):List (List Int):=(Ubc m).flatMap fun k:Nat=>Fb2 k rep no (atI deps (k:Int)).toNat
def Nba (t:aR)(rep no:Int):List (List Int):=Pba (Caf t rep no).attr.deps rep no (Caf t rep no).attr.deps.length
theorem Va7 {n:Int}{r:bL}(h:rowOk n r=true)(hg:bD n=true):∀ d∈r.attr.deps,0<=d/\d<=6:=by
 have h2:fC n r.attr=true:=by
  simp only[rowOk,Qbq]at h
  have h3:=h.2
  split at h3
  ·simp only[Qbq]at h3
   rw[of_decide_eq_true h3.2]
   exact Ga4 hg
  ·simp only[Qbq]at h3
   exact h3.2
 simp only[fC,Qbq,Rbg]at h2
 exact fun d hd=>Hbi (h2.2 d hd)
theorem Ebx {deps:List Int}{rep no:Int}{m:Nat}{y:List Int}:y∈Pba deps rep no m↔∃ k i:Nat,k<m/\(i:Int)<atI deps (k:Int)/\¬((k:Int)=rep/\(i:Int)+1=no)/\y=[(k:Int),(i:Int)+1]:=by
 unfold Pba Fb2
 simp only[List.mem_flatMap,List.mem_range]
 constructor
 ·rintro⟨k,hk,i,hi,hy⟩
  split at hy
  ·rename_i hc
   refine⟨k,i,hk,by omega,?_,by simpa using hy⟩
   simp only[Rbw,Rbe,beq_eq_false_iff_ne,ne_eq]at hc
   omega
  ·cases hy
 ·rintro⟨k,i,hk,hi,hne,rfl⟩
  refine⟨k,hk,i,by omega,?_⟩
  rw[if_pos]
  ·simp
  ·simp only[Rbw,Rbe,beq_eq_false_iff_ne,ne_eq]
   omega
def pI (xs:List Int):Prop:=xs.Pairwise (· < ·)
theorem Eaz:∀ {xs ys:List Int},pI xs->pI ys->(∀ x,x∈xs↔x∈ys)->xs=ys
 |[],[],_,_,_=>rfl
 |[],y::ys,_,_,h=>by have:=(h y).2 Qb7;cases this
 |x::xs,[],_,_,h=>by have:=(h x).1 Qb7;cases this
 | x :: xs, y :: ys, hx, hy, h => by
  unfold pI at hx hy
  rw[Tbo]at hx hy
  have e:x=y:=by
   rcases List.mem_cons.1 ((h x).1 Qb7) with h1|h1
   ·exact h1
   ·rcases List.mem_cons.1 ((h y).2 Qb7) with h2|h2
    ·exact h2.symm
    ·have:=hx.1 y h2
     have:=hy.1 x h1
     omega
  subst e
  congr 1
  refine Eaz hx.2 hy.2 fun z=>?_
  constructor
  ·intro hz
   rcases List.mem_cons.1 ((h z).1 (Qb2 _ hz)) with h1|h1
   ·subst h1
    exact absurd (hx.1 z hz) (by omega)
   ·exact h1
  ·intro hz
   rcases List.mem_cons.1 ((h z).2 (Qb2 _ hz)) with h1|h1
   ·subst h1
    exact absurd (hy.1 z hz) (by omega)
   ·exact h1
theorem Par {x n:Int}{xs:List Int}:Rak (x::xs) n=if x<n then x::Rak xs n else if x==n then x::xs else n::x::xs:=by
 by_cases h:x<n
 ·rw[if_pos h]
  have e:kZ (x::xs) n=kZ xs n+1:=by simp[kZ,h]
  have ea:atI (x::xs) ((kZ xs n+1:Nat):Int)=atI xs (kZ xs n:Nat):=by
   rw[Jai,Jai,List.getD_cons_succ]
  have el:decide (((kZ xs n+1:Nat):Int)<(x::xs).length)=decide (((kZ xs n:Nat):Int)<xs.length):=by
   simp only[Qbt,decide_eq_decide];omega
  unfold Rak
  rw[e,ea,el]
  split
  ·rfl
  ·simp
 ·rw[if_neg h]
  have e:kZ (x::xs) n=0:=by simp[kZ,h]
  unfold Rak
  rw[e]
  have ea:atI (x::xs) ((0:Nat):Int)=x:=rfl
  rw[ea]
  have el:decide (((0:Nat):Int)<(x::xs).length)=true:=by simp
  rw[el,Sbg]
  split
  ·rfl
  ·simp
theorem Ma8:∀ {xs:List Int} {n x:Int},x∈Rak xs n↔x∈xs\/x=n
 |[],n,x=>by simp[Rak,kZ]
 | y :: ys, n, x => by
  rw[Par]
  split
  ·rw[Rbk,Ma8,Rbk,or_assoc]
  ·split
   ·rename_i h
    have:y=n:=by simpa using h
    subst this
    simp[or_comm]
   ·simp only[Rbk]
    constructor
    ·rintro (h|h|h)
     ·exact .inr h
     ·exact .inl (.inl h)
     ·exact .inl (.inr h)
    ·rintro ((h|h)|h)
     ·exact .inr (.inl h)
     ·exact .inr (.inr h)
     ·exact .inl h
theorem Ha9:∀ {xs:List Int} {n:Int},pI xs->pI (Rak xs n)
 |[],n,_=>by simp[Rak,kZ,pI]
 | y :: ys, n, h => by
  have h':=h
  unfold pI at h
  rw[Tbo]at h
  rw[Par]
  split
  ·unfold pI
   rw[Tbo]
   refine⟨fun z hz=>?_,Ha9 h.2⟩
   rcases Ma8.1 hz with h1|h1
   ·exact h.1 z h1
   ·omega
  ·split
   ·exact h'
   ·rename_i h1 h2
    have:y≠n:=by simpa using h2
    unfold pI
    rw[Tbo]
    refine⟨fun z hz=>?_,h'⟩
    rcases List.mem_cons.1 hz with h3|h3
    ·omega
    ·have:=h.1 z h3
     omega
theorem Ebf {α:Type}[Inhabited α]{p:α->Bool}{xs:List α}(h:0<=ixF p xs):InB xs (ixF p xs)/\p (atI xs (ixF p xs))=true/\∀ k:Nat,(k:Int)<ixF p xs->p (atI xs (k:Int))=false:=by
 unfold ixF at h ⊢
 cases e:xs.findIdx? p with
 |none=>rw[e]at h;simp at h
 | some i =>
  rw[List.findIdx?_eq_some_iff_getElem]at e
  obtain⟨hi,hp,hmin⟩:=e
  refine⟨aP.2 hi,by simp only;rw[cK hi];exact hp,fun k hk=>?_⟩
  have hk':k<i:=by simp only at hk;omega
  rw[cK (by omega)]
  have:=hmin k hk'
  simpa using this
theorem Lb4 {α:Type}[Inhabited α]{p:α->Bool}{xs:List α}{k:Nat}(hk:k<xs.length)(hp:p (atI xs (k:Int))=true):0<=ixF p xs:=by
 have h:xs.any p=true:=List.any_eq_true.2 ⟨_,at_mem hk,hp⟩
 rw[<- oI]at h
 exact of_decide_eq_true h
end Go.Proofs.YtdpfilpckndhcaaGreatDoor.Rf

namespace Go.Proofs.YtdpfilpckndhcaaGreatDoor.Rf
set_option linter.unusedVariables false
set_option linter.unusedSimpArgs false
section
variable {T:Nat->Ent} {β:Type}
end
end Go.Proofs.YtdpfilpckndhcaaGreatDoor.Rf

namespace Go.Proofs.YtdpfilpckndhcaaGreatDoor.Rf
set_option linter.unusedVariables false
set_option linter.unusedSimpArgs false
def Bbn (n:Int)(t:aR):Prop:=t.n=n/\(t.rows.length:Int)=n/\∀ l∈t.rows,l.length<=6/\∀ r∈l,r.attr.deps.length<=5
theorem qU {n:Int}(h:0<=n):Bbn n ⟨n,Qb0 n.toNat []⟩:=by
 refine⟨rfl,by simp;omega,fun l hl=>?_⟩
 obtain⟨-,rfl⟩:=List.mem_replicate.1 hl
 exact⟨by simp,fun r hr=>by cases hr⟩
theorem Ead {n:Int}{t:aR}(h:Bbn n t)(hn:n<=5){rep no:Int}{r:bL}(hb:InB t.rows rep)(h1:1<=no)(h2:no<=6)(hr:r.attr.deps.length<=5):Bbn n (sV t rep no r):=by
 obtain⟨e1,e2,e3⟩:=h
 refine⟨e1,by simp only[sV,cZ,Sbp];exact e2,fun l hl=>?_⟩
 simp only[sV,cZ]at hl
 rcases Sb2 hl with hl|rfl
 ·exact e3 l hl
 ·obtain⟨f1,f2⟩:=e3 _ (dG hb)
  have f3:=Ba3 (n:=t.n) (l:=atI t.rows rep) (no:=no) (by omega)
  refine⟨by rw[Sbp];omega,fun q hq=>?_⟩
  rcases Sb2 hq with hq|rfl
  ·unfold ext at hq
   rcases List.mem_append.1 hq with hq|hq
   ·exact f2 q hq
   ·obtain⟨-,rfl⟩:=List.mem_replicate.1 hq
    simp only[row0,none0,Rbo]
    omega
  ·exact hr
theorem Oab {n:Int}{t:aR}(h:Bbn n t)(hn:n<=5):mR t.rows:=by
 obtain⟨e1,e2,e3⟩:=h
 exact⟨by omega,fun l hl=>⟨by have:=(e3 l hl).1;omega,fun r hr=>by have:=(e3 l hl).2 r hr;omega⟩⟩
theorem Xav {α:Type}{f:α->Nat}{k:Nat}:∀ {xs:List α},(∀ x∈xs,f x<=k)->szL f xs<=xs.length*(k+1)
 |[],_=>by simp[szL]
 | x :: xs, h => by
  have h1:=h x Qb7
  have h2:=Xav (f:=f) (k:=k) (xs:=xs) fun y hy=>h y (Qb2 _ hy)
  rw[Tax,Qbt,Nat.succ_mul]
  omega
theorem Ibf {n:Int}{t:aR}(h:Bbn n t)(hn:n<=5):szL (szL rD) t.rows<=1000:=by
 obtain⟨e1,e2,e3⟩:=h
 have h1:=Xav (f:=szL rD) (k:=100) (xs:=t.rows) fun l hl=>by
  have h2:=Xav (f:=rD) (k:=5) (xs:=l) fun r hr=>by rw[Fbl];exact (e3 l hl).2 r hr
  have h3:=(e3 l hl).1
  have:l.length*6<=6*6:=Sbd 6 h3
  omega
 have h4:t.rows.length<=5:=by omega
 have:t.rows.length*101<=5*101:=Sbd 101 h4
 omega
end Go.Proofs.YtdpfilpckndhcaaGreatDoor.Rf

namespace Go.Proofs.YtdpfilpckndhcaaGreatDoor.Rf
set_option linter.unusedVariables false
set_option linter.unusedSimpArgs false
theorem oO {α:Type}{xs:List α}{k:Int}{a x:α}(h:x∈cZ xs k a):x∈xs\/x=a:=Sb2 h
end Go.Proofs.YtdpfilpckndhcaaGreatDoor.Rf

namespace Go.Proofs.YtdpfilpckndhcaaGreatDoor.Rf
set_option linter.unusedVariables false
set_option linter.unusedSimpArgs false
def isBytes (d:D):Prop:=WT (.sl 1 [.int .u8]) d
def Jap (d:D):Nat:=match d with
 |.rows _ rs=>rs.length
 |_=>0
theorem sN {d:D}(h:isBytes d):aO.len.run [d]=some [i64 (Jap d)]/\Jap d<=140737488351232:=by
 obtain⟨rs,rfl,h1,h2⟩:=h
 refine⟨rfl,?_⟩
 simp only[Jap]
 have:reachBytes=140737488351232:=rfl
 omega
theorem bytes_at {d:D}(h:isBytes d){k:Int}(h0:0<=k)(h1:k<(Jap d:Nat)):aO.inb.run [d,i64 k]=some []/\∃ b,(aO.row 1 0 [true]).run [d,i64 k]=some [.int .u8 b]/\0<=b/\b<=255:=by
 obtain⟨rs,rfl,h2,h3⟩:=h
 simp only[Jap]at h1
 refine⟨by simp only[aO.run];rw[if_pos ⟨h0,h1⟩],?_⟩
 have hk:k.toNat<rs.length:=by omega
 have hm:=h3 _ (Tbc hk)
 simp only[WTs]at hm
 obtain⟨d1,r1,e,⟨b,rfl,hb1,hb2⟩,rfl⟩:=hm
 refine⟨b,?_,hb1,hb2⟩
 simp only[aO.run]
 rw[if_pos ⟨rfl,h0⟩,Qbz hk,e]
 rfl
def u64 (n:Int):D:=.int .u64 n
theorem Nbi {a b:Int}:(aO.bin .mul).run [u64 a,.int .u64 b]=some [u64 (IntKind.u64.wrap (a*b))]:=rfl
theorem Nbl {a b:Int}:(aO.bin .add).run [u64 a,u64 b]=some [u64 (IntKind.u64.wrap (a+b))]:=rfl
theorem Ib0 {a b:Int}:(aO.bin .add).run [u64 a,.int .u64 b]=some [u64 (IntKind.u64.wrap (a+b))]:=rfl
theorem Nbh {a:Int}:(aO.bin .shr).run [u64 a,.int .u64 40]=some [u64 (a.fdiv (2 ^ 40))]:=rfl
theorem Nbk {a:Int}:(aO.bin .and).run [u64 a,.int .u64 255]=some [u64 (IntKind.u64.wrap (BitVec.ofInt 64 a &&& BitVec.ofInt 64 255).toNat)]:=rfl
theorem u_conv {a:Int}:(aO.conv .u64).run [i64 a]=some [u64 (IntKind.u64.wrap a)]:=rfl
theorem pM {a:Int}(h0:0<=a)(h1:a<=255):(aO.conv .i64).run [.int .u8 a]=some [i64 a]:=by
 show some [D.int .i64 (IntKind.i64.wrap a)]=_
 rw[wrap_i64 (by omega) (by omega)]
def Lb1 (a:Int):Int:=IntKind.i64.wrap (IntKind.u64.wrap (BitVec.ofInt 64 a &&& BitVec.ofInt 64 255).toNat)
theorem Nbj {a:Int}:(aO.conv .i64).run [u64 (IntKind.u64.wrap (BitVec.ofInt 64 a &&& BitVec.ofInt 64 255).toNat)]=some [i64 (Lb1 a)]:=rfl
theorem Ga5 (a:Int):0<=Lb1 a/\Lb1 a<=255:=by
 unfold Lb1
 have h1:(BitVec.ofInt 64 a &&& BitVec.ofInt 64 255).toNat<=255:=by
  rw[BitVec.toNat_and]
  exact Nat.and_le_right
 generalize (BitVec.ofInt 64 a &&& BitVec.ofInt 64 255).toNat=n at h1
 have h2:IntKind.u64.wrap (n:Int)=n:=IntWalk.u64_in n ⟨by omega,by omega⟩
 rw[h2,wrap_i64 (by omega) (by omega)]
 omega
theorem oL {a b:Int}(h0:0<=a)(hb:0<b):(aO.bin .rem).run [i64 a,i64 b]=some [i64 (a % b)]:=by
 simp only[aO.run,Lal,zJ,if_true]
 rw[if_neg (by omega)]
 rw[Rb2 h0]
 rfl
theorem nJ {T:Nat->Ent}{β γ:Type}{body:Tm β}{ρ:List D}{init:List aM}(m:γ->Nat)(inv:γ->Prop)(vs:γ->List D)(Q:Kind×List D->Prop)(c0:γ)(h0:init.map (·.val ρ)=vs c0)(hi:inv c0)
  (h:∀ c,inv c->(∃ c',Er T body (ρ++vs c)=some (.cont,vs c')/\inv c'/\m c'<m c)\/(∃ q,Er T body (ρ++vs c)=some q/\q.1≠.cont/\Q q)):∃ q,Er T (.loop init body) ρ=some q/\Q q :=
 Zat (T:=T) (body:=body) (ρ:=ρ) m inv vs Q (fun c hc=>by
  rcases h c hc with ⟨c',h2,h3,h4⟩|⟨q,h2,h3,h4⟩
  ·exact⟨_,h2,.inl ⟨rfl,c',h3,h4,rfl⟩⟩
  ·exact⟨_,h2,.inr ⟨h3,h4⟩⟩) (m c0) c0 (Qbw _) hi init h0
theorem Fbd:(∀ {a b:Int},(aO.bin .mul).run [u64 a,.int .u64 b]=some [u64 (IntKind.u64.wrap (a*b))])/\(∀ {a b:Int},(aO.bin .add).run [u64 a,u64 b]=some [u64 (IntKind.u64.wrap (a+b))]) /\
  (∀ {a b:Int},(aO.bin .add).run [u64 a,.int .u64 b]=some [u64 (IntKind.u64.wrap (a+b))])/\(∀ {a:Int},(aO.bin .shr).run [u64 a,.int .u64 40]=some [u64 (a.fdiv (2 ^ 40))]) /\
  (∀ {a:Int},(aO.bin .and).run [u64 a,.int .u64 255]=some [u64 (IntKind.u64.wrap (BitVec.ofInt 64 a &&& BitVec.ofInt 64 255).toNat)])/\(∀ {a:Int},(aO.conv .u64).run [i64 a]=some [u64 (IntKind.u64.wrap a)]) /\
  (∀ {a:Int},(aO.conv .i64).run [u64 (IntKind.u64.wrap (BitVec.ofInt 64 a &&& BitVec.ofInt 64 255).toNat)]=some [i64 (Lb1 a)]):=⟨Nbi,Nbl,Ib0,Nbh,Nbk,u_conv,Nbj⟩
end Go.Proofs.YtdpfilpckndhcaaGreatDoor.Rf

namespace Go.Proofs.YtdpfilpckndhcaaGreatDoor.Rf
set_option linter.unusedVariables false
set_option linter.unusedSimpArgs false
theorem Bbl {n:Int}{a:gT}(h1:0<=a.seq/\a.seq<=999)(h2:(a.deps.length:Int)=n)(h3:∀ k:Nat,k<a.deps.length->0<=atI a.deps (k:Int)/\atI a.deps (k:Int)<=6):fC n a=true:=by
 simp only[fC,Qbq,beq_iff_eq,Rbg]
 refine⟨⟨by simp[inR,h1],h2⟩,fun x hx=>?_⟩
 obtain⟨k,hk,rfl⟩:=List.getElem_of_mem hx
 have:=h3 k hk
 rw[cK hk]at this
 simp[inR,this]
theorem kM {n:Int}{r:bL}(h:rowOk n r=true)(hg:bD n=true):fC n r.attr=true:=by
 simp only[rowOk,Qbq]at h
 have h3:=h.2
 have hn:=aY hg
 split at h3
 ·simp only[Qbq,decide_eq_true_eq]at h3
  rw[h3.2]
  refine Bbl (by simp[none0]) (by simp[none0];omega) fun k hk=>?_
  rw[cK hk]
  simp[none0]
 ·simp only[Qbq]at h3
  exact h3.2
end Go.Proofs.YtdpfilpckndhcaaGreatDoor.Rf

namespace Go.Proofs.YtdpfilpckndhcaaGreatDoor.Rf
set_option linter.unusedVariables false
set_option linter.unusedSimpArgs false
theorem Ibb {α:Type}[Inhabited α]{xs ys:List α}{k:Int}(h0:0<=k)(h:k<(xs.length:Int)):atI (xs++ys) k=atI xs k:=by
 unfold atI
 rw[Qb5,Qb5,List.getElem?_append_left (by omega)]
theorem Iba {α:Type}[Inhabited α]{xs:List α}{a:α}{n:Nat}{k:Int}(h:(xs.length:Int)<=k)(h2:k<(xs.length:Int)+n):atI (xs++Qb0 n a) k=a:=by
 unfold atI
 rw[Qb5,List.getElem?_append_right (by omega),List.getElem?_replicate_of_lt (by omega)]
 rfl
theorem Oan {t:aR}{rep no:Int}{r:bL}(h:eQ t=true)(hi:inst t.n rep no=true){k i:Int}(hk:inst t.n k i=true):Caf (sV t rep no r) k i=if k=rep/\i=no then r else Caf t k i:=by
 obtain⟨r1,r2,r3,r4⟩:=dS hi
 obtain⟨k1,k2,k3,k4⟩:=dS hk
 have hb:=Cal h hi
 have hb2:=Cal h hk
 have hl:=Ba3 (n:=t.n) (l:=atI t.rows rep) (no:=no) (by omega)
 unfold Caf
 simp only[sV]
 by_cases hkr:k=rep
 ·subst hkr
  have e:atI (cZ t.rows k (cZ (ext t.n (atI t.rows k) no) (no-1) r)) k=cZ (ext t.n (atI t.rows k) no) (no-1) r:=fU.1 hb
  simp only[e,dR,true_and]
  by_cases hin:i=no
  ·subst hin
   rw[if_pos (by omega),if_pos rfl]
   exact fU.1 (by unfold InB;omega)
  ·rw[if_neg hin]
   rw[Vab (by omega) (by omega) (by omega)]
   by_cases h1:i<=((atI t.rows k).length:Int)
   ·rw[if_pos (by omega),if_pos h1]
    exact Ibb (by omega) (by omega)
   ·rw[if_neg h1]
    split
    ·exact Iba (by omega) (by omega)
    ·rfl
 ·rw[if_neg (fun hc=>hkr hc.1)]
  have e:atI (cZ t.rows rep (cZ (ext t.n (atI t.rows rep) no) (no-1) r)) k=atI t.rows k:=Vab (by omega) (by omega) (fun e=>hkr e.symm)
  simp only[e]
theorem Ya2 {n:Int}(h:bD n=true):rowOk n (row0 n)=true:=by
 have hn:=aY h
 rcases hn with rfl|rfl<;>decide
theorem Rao {t:aR}{rep no:Int}{r:bL}(h:eQ t=true)(hi:inst t.n rep no=true)(hr:rowOk t.n r=true):eQ (sV t rep no r)=true:=by
 obtain⟨r1,r2,r3,r4⟩:=dS hi
 have hb:=Cal h hi
 have hg:=gB h
 have hlen:=lD h
 have hl:=Ba3 (n:=t.n) (l:=atI t.rows rep) (no:=no) (by omega)
 obtain⟨h6,hrows⟩:=kJ h (dG hb)
 simp only[eQ,sV,Qbq,Rbg,beq_iff_eq,decide_eq_true_eq,dR]
 refine⟨⟨hg,hlen⟩,fun l hl2=>?_⟩
 rcases oO hl2 with hl2|rfl
 ·obtain⟨q1,q2⟩:=kJ h hl2
  exact⟨q2,by omega⟩
 ·refine⟨fun x hx=>?_,by rw[dR];omega⟩
  rcases oO hx with hx|rfl
  ·unfold ext at hx
   rcases List.mem_append.1 hx with hx|hx
   ·exact hrows x hx
   ·rw[List.eq_of_mem_replicate hx]
    exact Ya2 hg
  ·exact hr
end Go.Proofs.YtdpfilpckndhcaaGreatDoor.Rf

namespace Go.Proofs.YtdpfilpckndhcaaGreatDoor.Rf
set_option linter.unusedVariables false
set_option linter.unusedSimpArgs false
theorem kV {x lo hi:Int}:inR x lo hi=true↔lo<=x/\x<=hi:=by simp[inR]
end Go.Proofs.YtdpfilpckndhcaaGreatDoor.Rf

namespace Go.Proofs.YtdpfilpckndhcaaGreatDoor.Rf
set_option linter.unusedVariables false
set_option linter.unusedSimpArgs false
def splitB (b:UInt8):List UInt8->List (List UInt8)
 |[]=>[[]]
 | c :: r => if c = b then [] :: splitB b r else match splitB b r with
  |[]=>[[c]]
  |w::ws=>(c::w)::ws
theorem mY (b:UInt8)(s:List UInt8):splitB b s≠[]:=by
 cases s with
 |nil=>simp[splitB]
 | cons c r =>
  simp only[splitB]
  split
  ·simp
  ·split<;>simp
theorem mX {b:UInt8}:∀ {p:List UInt8},b∉p->splitB b p=[p]
 |[],_=>rfl
 | c :: r, h => by
  simp only[Rbk,not_or]at h
  simp only[splitB]
  rw[if_neg (fun e=>h.1 e.symm),mX h.2]
theorem mG {b:UInt8}:∀ {p:List UInt8} (r:List UInt8),b∉p->splitB b (p++b::r)=p::splitB b r
 |[],r,_=>by simp[splitB]
 | c :: p, r, h => by
  simp only[Rbk,not_or]at h
  simp only[Sbk,splitB]
  rw[if_neg (fun e=>h.1 e.symm),mG r h.2]
theorem gZ (b:UInt8):∀ s:List UInt8,(splitB b s).length=s.count b+1
 |[]=>rfl
 | c :: r => by
  have ih:=gZ b r
  simp only[splitB,List.count_cons]
  by_cases h:c=b
  ·rw[if_pos h,h]
   simp[ih]
  ·rw[if_neg h]
   have hb:(c==b)=false:=by simpa using h
   rw[hb]
   cases hs:splitB b r with
   |nil=>exact absurd hs (mY b r)
   | cons w ws =>
    rw[hs]at ih
    simpa using ih
theorem dB {b:UInt8}:∀ {s w:List UInt8},w∈splitB b s->b∉w/\w.length<=s.length
 | [], w, h => by
  simp only[splitB,List.mem_singleton]at h
  subst h
  simp
 | c :: r, w, h => by
  simp only[splitB]at h
  split at h
  ·rcases List.mem_cons.1 h with rfl|h
   ·simp
   ·obtain⟨h1,h2⟩:=dB h
    exact⟨h1,by simp only[Qbt];omega⟩
  ·rename_i hc
   split at h
   ·rename_i hs
    exact absurd hs (mY b r)
   ·rename_i w0 ws hs
    rcases List.mem_cons.1 h with rfl|h
    ·obtain⟨h1,h2⟩:=dB (b:=b) (s:=r) (w:=w0) (by rw[hs];exact Qb7)
     refine⟨?_,by simp only[Qbt];omega⟩
     simp only[Rbk,not_or]
     exact⟨fun e=>hc e.symm,h1⟩
    ·obtain⟨h1,h2⟩:=dB (b:=b) (s:=r) (w:=w) (by rw[hs];exact Qb2 _ h)
     exact⟨h1,by simp only[Qbt];omega⟩
def bH (b:UInt8):List (List UInt8)->List UInt8
 |[]=>[]
 |[w]=>w
 |w::v::ws=>w++b::bH b (v::ws)
theorem oH (b:UInt8):∀ s:List UInt8,bH b (splitB b s)=s
 |[]=>rfl
 | c :: r => by
  have ih:=oH b r
  simp only[splitB]
  by_cases h:c=b
  ·rw[if_pos h]
   cases hs:splitB b r with
   |nil=>exact absurd hs (mY b r)
   | cons w ws =>
    rw[hs]at ih
    simp only[bH,Rb9,ih,h]
  ·rw[if_neg h]
   cases hs:splitB b r with
   |nil=>exact absurd hs (mY b r)
   | cons w ws =>
    rw[hs]at ih
    cases ws with
    |nil=>simp only[bH]at ih ⊢;rw[ih]
    |cons v ws=>simp only[bH,Sbk]at ih ⊢;rw[ih]
def cB (c:UInt8):Bool:=!(decide (c.toNat<48)||decide (57<c.toNat))
def lC (s:List UInt8):Int:=s.foldl (fun (n:Int) c=>10*n+((c.toNat:Int)-48)) 0
def lead (s:List UInt8):Bool:=match s with
 |[]=>true
 |c::r=>c==48&&!r.isEmpty
def bP (s:List UInt8)(most:Int):Int:=if s.all cB&&decide ((s.length:Int)<=most)&&!lead s then lC s else -1
theorem Nak {s:List UInt8}(h:s≠[]):lead s=(atI s 0==48&&decide ((1:Int)<(s.length:Int))):=by
 cases s with
 |nil=>exact absurd rfl h
 | cons c r =>
  have e:atI (c::r) 0=c:=rfl
  rw[e]
  unfold lead
  cases r with
  |nil=>simp
  |cons d r=>simp;omega
theorem jY {c:UInt8}(h:cB c=true):48<=c.toNat/\c.toNat<=57:=by
 simp only[cB,Rbe,Bool.or_eq_false_iff,decide_eq_false_iff_not]at h
 omega
theorem vU (s:List UInt8)(c:UInt8):lC (s++[c])=10*lC s+((c.toNat:Int)-48):=by
 unfold lC
 rw[List.foldl_append]
 rfl
theorem Ya3 {P:List UInt8->Prop}(h0:P [])(h1:∀ s c,P s->P (s++[c])):∀ s,P s:=by
 intro s
 have:∀ n (s:List UInt8),s.length=n->P s:=by
  intro n
  induction n with
  |zero=>intro s hs;rw[List.eq_nil_of_length_eq_zero hs];exact h0
  | succ n ih =>
   intro s hs
   have hne:s≠[]:=by intro e;rw[e]at hs;cases hs
   rw[<- List.dropLast_concat_getLast hne]
   exact h1 _ _ (ih _ (by simp[hs]))
 exact this _ s rfl
theorem Gar (s:List UInt8):s.all cB=true->0<=lC s/\lC s<10 ^ s.length:=by
 refine Ya3 (P:=fun s=>s.all cB=true->0<=lC s/\lC s<10 ^ s.length) ?_ ?_ s
 ·intro _;simp[lC]
 ·intro s c ih h
  simp only[Tbv,Tbf,Ubg,Sbh,Qbq]at h
  obtain⟨h1,h2⟩:=ih h.1
  have h3:=jY h.2
  rw[vU,Qbs,Qbt,Qbu,Int.pow_succ]
  omega
def Jax (n:Nat):List UInt8:=if n<10 then [UInt8.ofNat (48+n)] else Jax (n / 10)++[UInt8.ofNat (48+n % 10)]
termination_by n
decreasing_by omega
theorem rU {n:Nat}(h:n<10):Jax n=[UInt8.ofNat (48+n)]:=by rw[Jax,if_pos h]
theorem wQ {n:Nat}(h:10<=n):Jax n=Jax (n / 10)++[UInt8.ofNat (48+n % 10)]:=by rw[Jax,if_neg (by omega)]
theorem Pax {c:UInt8}{d:Nat}(h:(c.toNat:Int)-48=d)(h2:48<=c.toNat):UInt8.ofNat (48+d)=c:=by
 have:48+d=c.toNat:=by omega
 rw[this]
 exact UInt8.ofNat_toNat
theorem Db9 (s:List UInt8):s.all cB=true->lead s=false->Jax (lC s).toNat=s/\(s≠[48]->1<=lC s):=by
 refine Ya3 (P:=fun s=>s.all cB=true->lead s=false->Jax (lC s).toNat=s/\(s≠[48]->1<=lC s)) ?_ ?_ s
 ·intro _ h;cases h
 ·intro s c ih h hl
  simp only[Tbv,Tbf,Ubg,Sbh,Qbq]at h
  have hc:=jY h.2
  rw[vU]
  cases s with
  | nil =>
   have e:lC []=0:=rfl
   rw[e]
   refine⟨?_,fun hne=>?_⟩
   ·have e2:(10*0+((c.toNat:Int)-48)).toNat=c.toNat-48:=by omega
    rw[e2,rU (by omega),Rb9]
    congr 1
    exact Pax (by omega) hc.1
   ·rcases Rbj 48 c.toNat with h48|h48
    ·omega
    ·exfalso
     apply hne
     have:c=48:=by
      apply UInt8.toNat_inj.1
      show c.toNat=48
      omega
     rw[this]
     rfl
  | cons d r =>
   have hl2:(d==48)=false:=by
    cases hd:d==48
    ·rfl
    ·simp only[lead,Sbk,hd,Sbg]at hl
     cases r<;>simp at hl
   have hl3:lead (d::r)=false:=by simp only[lead,hl2,Rbp]
   obtain⟨h1,h2⟩:=ih h.1 hl3
   have hne:d::r≠[48]:=by
    intro e
    simp only[List.cons.injEq]at e
    rw[e.1]at hl2
    simp at hl2
   have h3:=h2 hne
   refine⟨?_,fun _=>by omega⟩
   have e1:(10*lC (d::r)+((c.toNat:Int)-48)).toNat=10*(lC (d::r)).toNat+(c.toNat-48):=by omega
   rw[e1,wQ (by omega)]
   have e2:(10*(lC (d::r)).toNat+(c.toNat-48)) / 10=(lC (d::r)).toNat:=by omega
   have e3:(10*(lC (d::r)).toNat+(c.toNat-48)) % 10=c.toNat-48:=by omega
   rw[e2,e3,h1]
   congr 2
   exact Pax (by omega) hc.1
theorem Ia4 {s:List UInt8}{most:Int}(h:0<=bP s most):s.all cB=true/\(s.length:Int)<=most/\lead s=false/\bP s most=lC s:=by
 unfold bP at h ⊢
 split
 ·rename_i hc
  simp only[Qbq,decide_eq_true_eq,Rbe]at hc
  exact⟨hc.1.1,hc.1.2,hc.2,rfl⟩
 ·rename_i hc
  rw[if_neg hc]at h
  omega
theorem Ua4 {s:List UInt8}{most:Int}(h:0<=bP s most):Jax (bP s most).toNat=s:=by
 obtain⟨h1,h2,h3,h4⟩:=Ia4 h
 rw[h4]
 exact (Db9 s h1 h3).1
theorem Sa7 {s:List UInt8}{most:Int}(h1:s.all cB=true)(h2:(s.length:Int)<=most)(h3:lead s=false):bP s most=lC s:=by
 unfold bP
 rw[h1,h3,decide_eq_true h2]
 rfl
theorem Bby {s:List UInt8}(h:s.all cB=true)(hl:lead s=false):(10:Int) ^ (s.length-1)<=lC s\/s.length<=1:=by
 cases s with
 |nil=>exact .inr (by simp)
 | cons c r =>
  cases r with
  |nil=>exact .inr (by simp)
  | cons d r =>
   left
   have hc:(c==48)=false:=by
    cases hd:c==48
    ·rfl
    ·simp[lead,hd]at hl
   have hcd:49<=c.toNat:=by
    have h5:=jY (by simp only[Tbf,Qbq]at h;exact h.1)
    rcases Rbj 48 c.toNat with h6|h6
    ·omega
    ·exfalso
     have:c=48:=by apply UInt8.toNat_inj.1;show c.toNat=48;omega
     rw[this]at hc
     simp at hc
   have key:∀ (t:List UInt8),t.all cB=true->∀ n:Int,1<=n->(10:Int) ^ t.length*n<=t.foldl (fun (n:Int) c=>10*n+((c.toNat:Int)-48)) n:=by
    intro t
    induction t with
    |nil=>intro _ n hn;simp
    | cons x t ih =>
     intro ht n hn
     simp only[Tbf,Qbq]at ht
     have hx:=jY ht.1
     have h7:=ih ht.2 (10*n+((x.toNat:Int)-48)) (by omega)
     simp only[Sby,Qbt,Int.pow_succ]
     refine Int.le_trans ?_ h7
     have h8:(10:Int) ^ t.length*10*n=10 ^ t.length*(10*n):=by rw[Int.mul_assoc]
     rw[h8]
     exact Int.mul_le_mul_of_nonneg_left (by omega) (Int.pow_nonneg (by decide))
   have h9:=key (d::r) (by simp only[Tbf,Qbq]at h ⊢;exact h.2) ((c.toNat:Int)-48) (by omega)
   have h10:lC (c::d::r)=(d::r).foldl (fun (n:Int) c=>10*n+((c.toNat:Int)-48)) ((c.toNat:Int)-48):=by
    unfold lC
    rw[Sby]
    congr 1
    omega
   rw[h10]
   refine Int.le_trans ?_ h9
   have h11:(c::d::r).length-1=(d::r).length:=by simp
   rw[h11]
   have h12:(0:Int)<=10 ^ (d::r).length:=Int.pow_nonneg (by decide)
   have h13:=Int.mul_le_mul_of_nonneg_left (show (1:Int)<=(c.toNat:Int)-48 by omega) h12
   omega
def u8 (c:UInt8):D:=.int .u8 (c.toNat:Nat)
theorem aG {s:List UInt8}:aO.slen.run [.str s]=some [i64 s.length]:=rfl
theorem kS {s:List UInt8}{k:Int}(h0:0<=k)(h1:k<s.length):aO.sidx.run [.str s,i64 k]=some [u8 (atI s k)]:=by
 have hk:k.toNat<s.length:=by omega
 show (if 0<=k then match s[k.toNat]? with
  |some b=>some [D.int .u8 b.toNat]
  |none=>none else none)=_
 rw[if_pos h0,Qbz hk]
 unfold atI u8
 rw[Qb5,Qbz hk]
 rfl
theorem dX {s:List UInt8}{lo hi:Int}(h0:0<=lo)(h1:lo<=hi)(h2:hi<=s.length):aO.ssub.run [.str s,i64 lo,i64 hi]=some [.str ((s.take hi.toNat).drop lo.toNat)]:=if_pos ⟨h0,h1,h2⟩
theorem bS {a b:List UInt8}(h:a.length+b.length<=4611686018427387904):(aO.bin .add).run [.str a,.str b]=some [.str (a++b)]:=by
 show ((if a.length+b.length<=4611686018427387904 then some (D.str (a++b)) else none).map fun d=>[d])=_
 rw[if_pos h]
 rfl
theorem tH {a b:List UInt8}:(aO.bin .eql).run [.str a,.str b]=some [.bool (a==b)]:=rfl
theorem Gaj {a b:List UInt8}:(aO.bin .neq).run [.str a,.str b]=some [.bool (!(a==b))]:=rfl
theorem Nbm {c:UInt8}{k:Nat}:(aO.bin .lss).run [u8 c,.int .u8 (k:Int)]=some [.bool (decide (c.toNat<k))]:=by
 show some [D.bool (decide ((c.toNat:Int)<(k:Int)))]=_
 simp
theorem Nbn {c:UInt8}{k:Nat}:(aO.bin .gtr).run [u8 c,.int .u8 (k:Int)]=some [.bool (decide (k<c.toNat))]:=by
 show some [D.bool (decide ((c.toNat:Int)>(k:Int)))]=_
 simp
theorem iT {c:UInt8}:(aO.bin .lss).run [u8 c,.int .u8 48]=some [.bool (decide (c.toNat<48))]:=Nbm (k:=48)
theorem mU {c:UInt8}:(aO.bin .gtr).run [u8 c,.int .u8 57]=some [.bool (decide (57<c.toNat))]:=Nbn (k:=57)
theorem Xah {c d:UInt8}:(aO.bin .eql).run [u8 c,u8 d]=some [.bool (c==d)]:=by
 show some [D.bool ((c.toNat:Int)==(d.toNat:Int))]=_
 congr 3
 rw[Bool.eq_iff_iff]
 simp only[beq_iff_eq]
 constructor
 ·intro h;exact UInt8.toNat_inj.1 (by omega)
 ·intro h;rw[h]
theorem pK {c:UInt8}:(aO.bin .eql).run [u8 c,.int .u8 48]=some [.bool (c==48)]:=Xah (d:=48)
theorem Kab {c:UInt8}:(aO.bin .sub).run [u8 c,.int .u8 48]=some [.int .u8 (IntKind.u8.wrap ((c.toNat:Int)-48))]:=rfl
theorem Kac {c:UInt8}(h:cB c=true):(aO.conv .i64).run [.int .u8 (IntKind.u8.wrap ((c.toNat:Int)-48))]=some [i64 ((c.toNat:Int)-48)]:=by
 have h1:=jY h
 have h2:IntKind.u8.wrap ((c.toNat:Int)-48)=(c.toNat:Int)-48:=by simp[IntKind.wrap,IntKind.bits,IntKind.signed];omega
 rw[h2]
 exact pM (by omega) (by omega)
theorem Pbn (b:UInt8):((b.toNat:Nat):Int).toNat.toUInt8=b:=by
 rw[Int.toNat_natCast]
 exact UInt8.ofNat_toNat
theorem Ab6 {s:List UInt8}{b:UInt8}:Hb6 [.str s,u8 b]=some [i64 (s.count b:Nat)]:=by
 show some [D.int .i64 (Ebz s (b.toNat:Nat))]=_
 unfold Ebz
 rw[Pbn]
theorem Fbw {s:List UInt8}{b:UInt8}:ixE [.str s,u8 b]=some [i64 (Lib.indexByte s b)]:=by
 show some [D.int .i64 (Mb8 s (b.toNat:Nat))]=_
 unfold Mb8
 rw[Pbn]
theorem Saq {b:UInt8}:∀ {s:List UInt8},b∉s->Lib.indexByte s b=-1
 |[],_=>rfl
 | c :: s, h => by
  simp only[Rbk,not_or]at h
  have hc:(c==b)=false:=by
   have:=h.1
   cases hcb:c==b
   ·rfl
   ·exact absurd (by simpa using hcb) (fun e:c=b=>this e.symm)
  unfold Lib.indexByte
  rw[hc,Saq h.2]
  rfl
theorem Iaj {b:UInt8}:∀ {s:List UInt8},b∈s->∃ p r,s=p++b::r/\b∉p/\Lib.indexByte s b=p.length
 |[],h=>by cases h
 | c :: s, h => by
  unfold Lib.indexByte
  by_cases hc:c=b
  ·subst hc
   exact⟨[],s,rfl,by simp,by simp⟩
  ·have hcb:(c==b)=false:=by simpa using hc
   have hm:b∈s:=by
    rcases List.mem_cons.1 h with e|e
    ·exact absurd e.symm hc
    ·exact e
   obtain⟨p,r,h1,h2,h3⟩:=Iaj hm
   refine⟨c::p,r,by rw[h1];rfl,?_,?_⟩
   ·simp only[Rbk,not_or]
    exact⟨fun e=>hc e.symm,h2⟩
   ·rw[hcb,h3]
    have:((p.length:Int)==-1)=false:=by simp
    rw[this]
    simp
theorem Lae {α:Type}[Inhabited α]{s:List α}{f i:Nat}(h1:f<=i)(h2:i<s.length):s.drop f=(s.take i).drop f++atI s (i:Int)::s.drop (i+1):=by
 have h3:s.drop i=atI s (i:Int)::s.drop (i+1):=by rw[Sbz h2,cK h2]
 rw[<- h3]
 conv=>lhs;rw[<- List.take_append_drop i s]
 rw[List.drop_append_of_le_length (by rw[Qb9];omega)]
theorem take_drop_succ {α:Type}[Inhabited α]{s:List α}{f i:Nat}(h1:f<=i)(h2:i<s.length):(s.take (i+1)).drop f=(s.take i).drop f++[atI s (i:Int)]:=by
 rw[<- take_at h2,List.drop_append_of_le_length (by rw[Qb9];omega)]
end Go.Proofs.YtdpfilpckndhcaaGreatDoor.Rf
