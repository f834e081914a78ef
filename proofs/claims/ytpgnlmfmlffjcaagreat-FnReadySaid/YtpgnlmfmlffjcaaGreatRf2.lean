/- Terms for the program's functions, and that they are right: part 2 of 10. -/
import Derived.Test.YtpgnlmfmlffjcaaGreatRf1
import Derived.WalkKit
import Derived.Laws.StructEq
import Derived.Laws.BytesArg
open Array renaming ext' → Wbs
open Bool renaming and_eq_true → Sbu, false_eq_true → Sbv, not_eq_true' → Tbm, or_eq_true → Uba
open List renaming getElem?_eq_getElem → Sb0, length_map → Sb5, getElem?_cons_zero → Sb8, mem_singleton → Sb9, mem_cons_of_mem → Tba, append_nil → Tbb, length_take → Tbc, mem_cons_self → Tbe, mem_of_getElem? → Tbg, map_cons → Tbn, getElem?_map → Tbo, all_eq_true → Tbp, map_nil → Tbw, length_drop → Tbx, map_append → Tby, getElem?_drop → Tb5, getElem?_cons_succ → Tb9, getElem?_take → Ubg, eq_nil_of_length_eq_zero → Ubh, length_singleton → Ubi, getElem?_eq_none → Ubk, cons_append → Ub3, mem_of_mem_drop → Vbe, mem_of_mem_take → Vbq
open Nat renaming lt_or_ge → Tbi, add_assoc → Tbl, zero_add → Tbt, beq_eq → Tbv, ble_eq → Ubf
open Option renaming bind_eq_some_iff → Sbt, bind_some → Sb6, map_eq_some_iff → Tbd, map_some → Ubd
set_option linter.unusedSimpArgs false
set_option linter.unusedVariables false
set_option linter.unnecessarySimpa false
set_option linter.unusedSectionVars false
namespace Go.Proofs.YtpgnlmfmlffjcaaGreat.Rf
set_option linter.unusedVariables false
set_option linter.unusedSimpArgs false
theorem RdM.run_eval {α:Type}{look:Nat->Option aW}{m:RdM α}{x:α}{log:List Nat}(h:m.run look=some (x,log)):m.eval look=some x:=by
 induction m generalizing log with
 | ret a =>
  simp only[RdM.run,Option.some.injEq,Prod.mk.injEq]at h
  rw[h.1];rfl
 |no=>cases h
 | rd k f ih =>
  simp only[RdM.run,Tbd]at h
  obtain⟨⟨y,l⟩,h1,h2⟩:=h
  simp only[Prod.mk.injEq]at h2
  obtain⟨rfl,_⟩:=h2
  exact ih _ h1
theorem RdM.run_same {α:Type}{look look':Nat->Option aW}{m:RdM α}{x:α}{log:List Nat}(h:m.run look=some (x,log))(hs:∀ k∈log,look' k=look k):m.run look'=some (x,log):=by
 induction m generalizing log with
 |ret a=>exact h
 |no=>cases h
 | rd k f ih =>
  simp only[RdM.run,Tbd]at h ⊢
  obtain⟨⟨y,l⟩,h1,h2⟩:=h
  simp only[Prod.mk.injEq]at h2
  obtain⟨rfl,rfl⟩:=h2
  refine⟨(y,l),?_,rfl⟩
  rw[hs k Tbe]
  exact ih _ h1 fun j hj=>hs j (Tba _ hj)
section
variable {α γ:Type} {look:Nat->Option aW}
theorem aH (a:α):(RdM.ret a).eval look=some a:=rfl
theorem dI:(RdM.no:RdM α).eval look=none:=rfl
theorem Fbl (k:Nat)(f:Option aW->RdM α):(RdM.rd k f).eval look=(f (look k)).eval look:=rfl
theorem aC (m:RdM α)(f:α->RdM γ):(m >>= f).eval look=(m.eval look).bind fun x=>(f x).eval look:=by
 show (RdM.bind m f).eval look=_
 induction m with
 |ret a=>rfl
 |no=>rfl
 |rd k g ih=>exact ih _
theorem aX (k:Nat):(rdK k).eval look=some (look k):=rfl
theorem bF (x:Option α):(tQ x).eval look=x:=by cases x<;>rfl
theorem aP (b:Bool):(dD b).eval look=if b=true then some () else none:=by cases b<;>rfl
theorem jW (c:Bool)(x y:RdM α):(bif c then x else y).eval look=if c=true then x.eval look else y.eval look:=by cases c<;>rfl
end
def Bbl (cf:Nat->List D->Option (List D))(ρ:List D)(g:Option (aO×Bool))(nv:Nat):Step->Prop
 | .prim p xs n => (gOn ρ g = true -> ∃ ds, p.run (xs.map (·.val ρ)) = some ds /\ ds.length = n /\ ∀ j d, ds[j]? = some d -> (aO.v (nv + j)).val ρ = d) /\
   (gOn ρ g=false->∀ j,j<n->(aO.v (nv+j)).val ρ=.undef)
 | .call f xs n olds => (gOn ρ g = true -> ∃ ds, cf f (xs.map (·.val ρ)) = some ds /\ ds.length = n /\ ∀ j d, ds[j]? = some d -> (aO.v (nv + j)).val ρ = d) /\
   (gOn ρ g=false->∀ j d,(List.replicate (n-olds.length) D.undef++olds.map (·.val ρ))[j]?=some d->(aO.v (nv+j)).val ρ=d)
def aR (cf:Nat->List D->Option (List D))(ρ:List D)(g:Option (aO×Bool)):Nat->List Step->Prop
 |_,[]=>True
 |nv,s::r=>Bbl cf ρ g nv s/\aR cf ρ g (nv+s.n) r
structure Aaj (P:Program) (ti:Nat->Option TI):Prop where
 ok:∀ t i,ti t=some i->oH P t=some i
structure dW (P:Program) (t:TypeId) (i:TI) (info:TypeInfo) (u:TypeDesc):Prop where
 info_:P.info? t=some info
 und:P.underlying t=some u
 cells:(flat P 12 t).map (·.map (uB P))=some i.cells
 len:i.cells.length=i.size
 zero:Xa4 i.agg info.zero i.cells=true
 eq:i=Rb0 P t info u i.cells
theorem bG {P:Program}{t:TypeId}{i:TI}(h:oH P t=some i):∃ info u,dW P t i info u:=by
 unfold oH at h
 cases h1:P.info? t with
 |none=>rw[h1]at h;cases h
 | some info =>
  cases h2:P.underlying t with
  |none=>rw[h1,h2]at h;cases h
  | some u =>
   cases h3:(flat P 12 t).map (·.map (uB P)) with
   |none=>rw[h1,h2,h3]at h;cases h
   | some cs =>
    rw[h1,h2,h3]at h
    dsimp only at h
    cases hb:(Nat.beq cs.length info.size&&Xa4 (Na0 u) info.zero cs) with
    |false=>rw[hb]at h;cases h
    | true =>
     rw[hb]at h
     obtain rfl:=Option.some.inj h
     simp only[Sbu,Tbv]at hb
     exact⟨info,u,h1,h2,h3,hb.1,hb.2,rfl⟩
section
variable {P:Program} {t:TypeId} {i:TI} {info:TypeInfo} {u:TypeDesc}
theorem dW.agg (h:dW P t i info u):i.agg=Na0 u:=by rw[h.eq];rfl
theorem dW.size (h:dW P t i info u):i.size=info.size:=by rw[h.eq];rfl
theorem dW.elem (h:dW P t i info u):i.elem=Fbs u:=by rw[h.eq];rfl
theorem dW.flds (h:dW P t i info u):i.flds=Fbi u:=by rw[h.eq];rfl
theorem dW.bytes (h:dW P t i info u):i.bytes=info.bytes:=by rw[h.eq];rfl
theorem dW.ik (h:dW P t i info u):i.ik=Qby u:=by rw[h.eq];rfl
theorem Tau (h:P.underlying t=some u)(w:World):(Go.isAgg t).run P w=.ok (Na0 u) w:=by
 simp only[Go.isAgg,underlying,program,bind,pure,Sem.bind,Sem.run,h]
 cases u<;>rfl
theorem run_sizeOf (h:P.info? t=some info)(w:World):(Go.sizeOf t).run P w=.ok info.size w:=by
 simp only[Go.sizeOf,typeInfo,program,bind,pure,Sem.bind,Sem.run,h]
theorem run_underlying (h:P.underlying t=some u)(w:World):(Go.underlying t).run P w=.ok u w:=by
 simp only[underlying,program,bind,pure,Sem.bind,Sem.run,h]
theorem dW.isAgg (h:dW P t i info u)(w:World):(Go.isAgg t).run P w=.ok i.agg w:=by rw[Tau h.und,h.agg]
theorem dW.sizeOf (h:dW P t i info u)(w:World):(Go.sizeOf t).run P w=.ok i.size w:=by rw[run_sizeOf h.info_,h.size]
end
theorem D.beq0_eq {a b:D}(h:a.beq0 b=true):a=b:=by
 unfold D.beq0 at h
 split at h<;>first|cases h|skip
 ·simp only[Sbu,Qbz,decide_eq_true_eq]at h
  rw[h.1,h.2]
 ·simp only[beq_iff_eq]at h;rw[h]
 ·simp only[beq_iff_eq]at h;rw[h]
 ·simp only[Tbv]at h;rw[h]
 ·rfl
 ·rfl
theorem aO.beq0_eq {a b:aO}(h:a.beq0 b=true):a=b:=by
 unfold aO.beq0 at h
 split at h
 ·simp only[Tbv]at h;rw[h]
 ·rw[D.beq0_eq h]
 ·cases h
theorem Xag {g h:Option (aO×Bool)}(e:Nbe g h=true):g=h:=by
 unfold Nbe at e
 split at e
 ·rfl
 ·simp only[Sbu,beq_iff_eq]at e
  rw[aO.beq0_eq e.1,e.2]
 ·cases e
section
variable {P:Program} {E:Env} {F:cB} {σ:Nat->Option aW} {ρ:List D} {a:Act} {w:World} {G:Gh} {g:Option (aO×Bool)}
theorem Lb3 (hg:gOn ρ g=true){v:SV}{u:Value}(h:eB σ ρ G w v u):eB σ ρ G w (unG g v) u:=by
 unfold unG
 split
 ·rename_i h' x
  cases e:Nbe g (some h') with
  |false=>exact h
  | true =>
   simp only[eB,aD,cond_true]at h ⊢
   exact h.2 (Xag e▸hg)
 ·exact h
theorem Xap {ti:Nat->Option TI}{t:TypeId}{v:Value}{sv:SV}(h:Xaq ti t v=some sv):eB σ ρ G w sv v:=by
 unfold Xaq at h
 split at h
 ·obtain rfl:=Option.some.inj h;exact .int _ _
 ·obtain rfl:=Option.some.inj h;exact .bool _
 ·obtain rfl:=Option.some.inj h
  rename_i s
  have:=Sc.str s.data.toList
  simpa[eB,aD,aO.val] using this
 ·split at h
  ·obtain rfl:=Option.some.inj h
   simp only[eB,aD]
   refine⟨⟨rfl,by simp⟩,fun _=>⟨?_,?_,trivial⟩⟩
   ·exact .rows none ⟨0,0,none⟩ 0 0 _ [] (fun _ _=>undef) rfl (Nat.le_refl _) (.inl rfl) (by simp) (by simp) (by simp)
   ·exact fun _ z _=>trivial
  ·cases h
 ·obtain rfl:=Option.some.inj h;rfl
 ·cases h
theorem jG (hR:R E.ntmps F σ ρ a w G)(hg:gOn ρ g=true){t:TypeId}{x:Operand}{sv:SV}(h:(Ta3 E g t x).eval σ=some sv):eB σ ρ G w sv (a.eval x):=by
 cases x with
 | tmp k =>
  simp only[Ta3,Fbl]at h
  split at h
  ·rename_i g' v hk
   rw[jW]at h
   split at h
   ·rename_i hb
    simp only[Sbu]at hb
    simp only[aH,Option.some.injEq]at h
    subst h
    refine Lb3 hg ?_
    have hg':gOn ρ g'=true:=by
     cases g' with
     |none=>rfl
     |some z=>exact Xag hb.1▸hg
    have:=hR.slot hk hg'
    unfold Eaq at this
    rw[if_pos (by simpa using hb.2)]at this
    exact this
   ·cases h
  ·cases h
 | const v =>
  simp only[Ta3,bF]at h
  exact Xap h
 |global _=>cases h
 | func f =>
  simp only[Ta3,aH,Option.some.injEq]at h
  subst h
  simp only[eB,aD]
  exact⟨[],rfl,by simp[aK]⟩
theorem iP (hR:R E.ntmps F σ ρ a w G)(hg:gOn ρ g=true){t:TypeId}{x:Operand}{l:aZ}(h:(rdL E g t x).eval σ=some l):aD σ ρ G w l (a.eval x):=by
 simp only[rdL,aC,Sbt]at h
 obtain⟨sv,h1,h2⟩:=h
 have:=jG hR hg h1
 unfold one at h2
 split at h2
 ·simp only[aH,Option.some.injEq]at h2
  subst h2
  exact this
 ·cases h2
theorem nE (hg:gOn ρ g=true){l:aZ}{x:aO}{v:Value}(h:Aae g l=some x)(hl:aD σ ρ G w l v):Sc v (x.val ρ):=by
 unfold Aae at h
 split at h
 ·obtain rfl:=Option.some.inj h
  simpa[aD] using hl
 ·rename_i h' y
  cases e:Nbe g (some h') with
  |false=>rw[e]at h;cases h
  | true =>
   rw[e]at h
   obtain rfl:=Option.some.inj h
   simp only[aD]at hl
   exact hl.2 (Xag e▸hg)
 ·cases h
theorem mG (hR:R E.ntmps F σ ρ a w G)(hg:gOn ρ g=true){t:TypeId}{x:Operand}{y:aO}(h:(rdA E g t x).eval σ=some y):Sc (a.eval x) (y.val ρ):=by
 simp only[rdA,aC,Sbt,bF]at h
 obtain⟨l,h1,h2⟩:=h
 exact nE hg h2 (iP hR hg h1)
end
end Go.Proofs.YtpgnlmfmlffjcaaGreat.Rf

namespace Go.Proofs.YtpgnlmfmlffjcaaGreat.Rf
set_option linter.unusedVariables false
set_option linter.unusedSimpArgs false
def Nx (n:Nat)(F:cB)(σ:Nat->Option aW)(ρ:List D)(u:List (Nat×aW))(a:Act)(w:World):Prop:=∃ G,R n F (upds σ u) ρ a w G
def iJ (n:Nat)(o:Oper):Prop:=∀ d,o.dst=some d->d<n
section
variable {P:Program} {E:Env} {F:cB} {σ:Nat->Option aW} {ρ:List D} {a:Act} {w w':World} {G:Gh} {g:Option (aO×Bool)} {o:Oper} {cf:Nat->List D->Option (List D)} {Q:Exit->Act->World->Prop} {next:Act->World->Prop}
theorem tK {v:Value}(h:(execOp a.eval o).run P w=.ok (.value v) w')(hn:next (a.put o.dst v) w'):o.wp P a w next Q:=by
 unfold Oper.wp
 rw[h]
 exact hn
theorem Xa5 (h:(execOp a.eval o).run P w=.ok .skip w')(hn:next (a.put o.dst undef) w'):o.wp P a w next Q:=by
 unfold Oper.wp
 rw[h]
 exact hn
theorem Pa1 (hR:R E.ntmps F σ ρ a w G)(hd:iJ E.ntmps o)(hg:gOn ρ g=true){v:Value}{nv:Nat}(h:(execOp a.eval o).run P w=.ok (.value v) w)
  (hv:Sc v ((aO.v nv).val ρ)):o.wp P a w (Nx E.ntmps F σ ρ (fU o none (mkS g (.v nv)))) Q:=by
 refine tK h ⟨G,hR.pure o hd none _ v fun _=>?_⟩
 cases g with
 |none=>exact hv
 | some z =>
  simp only[mkS,eB,aD]
  exact⟨.inl hv,fun _=>hv⟩
theorem Mb1 (hR:R E.ntmps F σ ρ a w G)(hd:iJ E.ntmps o)(hg:gOn ρ g=false){nv:Nat}(hv:(aO.v nv).val ρ=.undef) :
  Nx E.ntmps F σ ρ (fU o none (mkS g (.v nv))) (a.put o.dst undef) w:=by
 refine⟨G,hR.pure o hd none _ undef fun _=>?_⟩
 cases g with
 |none=>cases hg
 | some z =>
  simp only[mkS,eB,aD]
  exact⟨.inr ⟨trivial,hv⟩,fun h=>by rw[h]at hg;cases hg⟩
theorem Ob9 (hR:R E.ntmps F σ ρ a w G)(hd:iJ E.ntmps o)(hg:gOn ρ g=false){sv:SV} :
  Nx E.ntmps F σ ρ (fU o g sv) (a.put o.dst undef) w:=⟨G,hR.pure o hd g _ undef fun h=>by rw[h]at hg;cases hg⟩
def jR (P:Program)(E:Env)(F:cB)(σ:Nat->Option aW)(ρ:List D)(a:Act)(w:World)(g:Option (aO×Bool))(o:Oper)(Q:Exit->Act->World->Prop)(u:List (Nat×aW)):Prop :=
 (gOn ρ g=true->o.wp P a w (Nx E.ntmps F σ ρ u) Q)/\(gOn ρ g=false->Nx E.ntmps F σ ρ u (a.put o.dst undef) w)
theorem step1 {p:aN}{xs:List aO}{nv n:Nat}(h:aR cf ρ g nv [.prim p xs n])(hg:gOn ρ g=true) :
  ∃ ds,p.run (xs.map (·.val ρ))=some ds/\ds.length=n/\∀ j d,ds[j]?=some d->(aO.v (nv+j)).val ρ=d:=h.1.1 hg
theorem jD {p:aN}{xs:List aO}{nv:Nat}(h:aR cf ρ g nv [.prim p xs 1])(hg:gOn ρ g=true) :
  ∃ d,p.run (xs.map (·.val ρ))=some [d]/\(aO.v nv).val ρ=d:=by
 obtain⟨ds,h1,h2,h3⟩:=step1 h hg
 match ds,h2 with
 |[d],_=>exact⟨d,h1,h3 0 d rfl⟩
theorem Kax {p:aN}{xs:List aO}{nv:Nat}(h:aR cf ρ g nv [.prim p xs 1])(hg:gOn ρ g=false):(aO.v nv).val ρ=.undef:=h.1.2 hg 0 (by omega)
theorem Jak (o:Oper)(g:Option (aO×Bool))(v:SV):(match o.dst with|some d=>[(kT d,aW.slot g v)]|none=>[])=fU o g v:=rfl
theorem eH (hR:R E.ntmps F σ ρ a w G)(hd:iJ E.ntmps o){nv:Nat}{p:aN}{xs:List aO}{res:dG}
  (h:(yZ o g nv p xs).eval σ=some res) (hs:aR cf ρ g nv res.lets)
  (hv:gOn ρ g=true->∀ d,p.run (xs.map (·.val ρ))=some [d]->∃ v,Sc v d/\(execOp a.eval o).run P w=.ok (.value v) w):jR P E F σ ρ a w g o Q res.upd:=by
 simp only[yZ,aH,Option.some.injEq]at h
 subst h
 simp only[Jak]
 refine⟨fun hg=>?_,fun hg=>Mb1 hR hd hg (Kax hs hg)⟩
 obtain⟨d,h1,h2⟩:=jD hs hg
 obtain⟨v,h3,h4⟩:=hv hg d h1
 exact Pa1 hR hd hg h4 (h2▸h3)
theorem fC (hR:R E.ntmps F σ ρ a w G)(hd:iJ E.ntmps o){lets:List Step}{sv:SV}{res:dG}{nv:Nat}
  (h:(zA o g lets sv []).eval σ=some res) (hs:aR cf ρ g nv res.lets)
  (hv:gOn ρ g=true->aR cf ρ g nv lets->∃ v,eB σ ρ G w sv v/\(execOp a.eval o).run P w=.ok (.value v) w):jR P E F σ ρ a w g o Q res.upd:=by
 simp only[zA,aH,Option.some.injEq]at h
 subst h
 simp only[Jak,Tbb]
 refine⟨fun hg=>?_,fun hg=>Ob9 hR hd hg⟩
 obtain⟨v,h1,h2⟩:=hv hg hs
 exact tK h2 ⟨G,hR.pure o hd g _ v fun _=>h1⟩
theorem Cad (hR:R E.ntmps F σ ρ a w G)(hd:iJ E.ntmps o){sv:SV}{res:dG}{nv:Nat}
  (h:(Ebe o g nv sv).eval σ=some res) (hs:aR cf ρ g nv res.lets)
  (hv:gOn ρ g=true->∃ v,eB σ ρ G w sv v/\(execOp a.eval o).run P w=.ok (.value v) w):jR P E F σ ρ a w g o Q res.upd:=by
 unfold Ebe at h
 split at h
 ·rename_i z l
  split at h
  ·rename_i x hx
   refine eH hR hd h hs fun hg d hp=>?_
   obtain⟨v,h1,h2⟩:=hv hg
   simp only[aN.run,Tbn,Tbw,Option.some.injEq,List.cons.injEq,and_true]at hp
   exact⟨v,hp▸nE hg hx h1,h2⟩
  ·exact fC hR hd h hs fun hg _=>hv hg
 ·exact fC hR hd h hs fun hg _=>hv hg
theorem iZ {s:Sem Value}{v:Value}(h:s.run P w=.ok v w'):(do pure (Next.value (<- s)):Sem Next).run P w=.ok (.value v) w':=by
 simp only[Sem.run_bind,h,Result.andThen_ok,Sem.run_pure]
theorem Oag (hR:R E.ntmps F σ ρ a w G)(hd:iJ E.ntmps o){nv:Nat}{x:Operand}(ho:o.op=.move x\/o.op=.assign x){res:dG}
  (h:(do Ebe o g nv (<- Ta3 E g o.type x):RdM dG).eval σ=some res) (hs:aR cf ρ g nv res.lets):jR P E F σ ρ a w g o Q res.upd:=by
 simp only[aC,Sbt]at h
 obtain⟨sv,h1,h2⟩:=h
 refine Cad hR hd h2 hs fun hg=>⟨a.eval x,jG hR hg h1,?_⟩
 rcases ho with ho|ho<;>(unfold execOp;rw[ho];rfl)
theorem Sc.int_inv {v:Value}{k:IntKind}{n:Int}(h:Sc v (.int k n)):v=.int k n:=by cases h;rfl
theorem Sc.bool_inv {v:Value}{b:Bool}(h:Sc v (.bool b)):v=.bool b:=by cases h;rfl
theorem Sc.str_inv {v:Value}{l:List UInt8}(h:Sc v (.str l)):v=.string ⟨l.toArray⟩:=by cases h;rfl
theorem Oao (hR:R E.ntmps F σ ρ a w G)(hg:gOn ρ g=true){z:aO×Bool}{t:TypeId}{x:Operand}{y:aO}(h:(Oap E g z t x).eval σ=some y)(hz:gOn ρ (some z)=true):Sc (a.eval x) (y.val ρ):=by
 simp only[Oap,aC,Sbt]at h
 obtain⟨l,h1,h2⟩:=h
 have hl:=iP hR hg h1
 split at h2
 ·rename_i b hb
  simp only[aH,Option.some.injEq]at h2
  subst h2
  exact nE hg hb hl
 ·simp only[bF]at h2
  exact nE hz h2 hl
theorem Bb3 (hR:R E.ntmps F σ ρ a w G)(hd:iJ E.ntmps o){nv:Nat}{c x y:Operand}(ho:o.op=.pick c x y){res:dG}
  (h:(do
   let c <- rdA E g 0 c
   let a <- Oap E g (c,true) o.type x
   let b <- Oap E g (c,false) o.type y
   yZ o g nv .pick [c,a,b]:RdM dG).eval σ=some res) (hs:aR cf ρ g nv res.lets):jR P E F σ ρ a w g o Q res.upd:=by
 simp only[aC,Sbt]at h
 obtain⟨c',h1,x',h2,y',h3,h4⟩:=h
 refine eH hR hd h4 hs fun hg d hp=>?_
 have hc:=mG hR hg h1
 simp only[Tbn,Tbw]at hp
 generalize hcv:c'.val ρ=cv at hp hc
 cases cv with
 | bool b =>
  simp only[aN.run,Option.some.injEq,List.cons.injEq,and_true]at hp
  have e:a.eval c=.bool b:=hc.bool_inv
  refine⟨if b then a.eval x else a.eval y,?_,?_⟩
  ·cases b with
   | true =>
    rw[if_pos rfl]at hp ⊢
    exact hp▸Oao hR hg h2 (by simp[gOn,hcv])
   | false =>
    simp only[Sbv,if_false]at hp ⊢
    exact hp▸Oao hR hg h3 (by simp[gOn,hcv])
  ·unfold execOp
   simp only[ho,e]
   simp only[asBool,Sem.run_bind,Sem.run_pure,Result.andThen_ok]
 |_=>simp[aN.run]at hp
theorem toList_mk (l:List UInt8):(⟨l.toArray⟩:ByteArray).toList=l:=by
 rw[ByteArray.toList_eq]
theorem size_mk (l:List UInt8):(⟨l.toArray⟩:ByteArray).size=l.length:=rfl
theorem Gbj (x y:List UInt8):(⟨x.toArray⟩:ByteArray)++(⟨y.toArray⟩:ByteArray)=⟨(x++y).toArray⟩:=by
 apply ByteArray.ext
 rw[ByteArray.data_append]
 simp
theorem Bb8 {op:BinOp}{t:TypeId}{k k':IntKind}{x y:Int}{d:D}(h:Paf op (.int k x) (.int k' y)=some d) :
    ∃ v,Sc v d/\(binOp op t (.int k x) (.int k' y)).run P w=.ok v w:=by
  unfold Paf at h
  dsimp only at h
  cases op<;>dsimp only at h<;>first
    | (simp only [Dbs] at h
       split at h
       · cases h
       · rename_i hy
         obtain rfl:=Option.some.inj h
         exact⟨_,.int _ _,by simp[binOp,Op.shift,hy]⟩)
    | (split at h
       · rename_i hk
         subst hk
         simp only[Baj]at h
         first
         | (obtain rfl := Option.some.inj h
            first
            |exact⟨_,.int _ _,by simp[binOp,Op.intArith,Op.intBits]⟩
            |exact⟨_,.bool _,by simp[binOp,Op.intCmp]⟩)
         | (split at h
            · cases h
            · rename_i hy
              obtain rfl:=Option.some.inj h
              exact⟨_,.int _ _,by simp[binOp,Op.intDiv,hy]⟩)
         |cases h
       · cases h)
theorem Bb7 {op:BinOp}{t:TypeId}{x y:List UInt8}{d:D}(h:Paf op (.str x) (.str y)=some d) :
    ∃ v,Sc v d/\(binOp op t (.string ⟨x.toArray⟩) (.string ⟨y.toArray⟩)).run P w=.ok v w:=by
  simp only[Paf,Obx]at h
  have hmax:IntKind.i64.max=9223372036854775807:=by decide
  cases op<;>dsimp only at h<;>first
    | (obtain rfl := Option.some.inj h
       exact⟨_,.bool _,by simp[binOp,Op.stringOp,toList_mk]⟩)
    | (split at h
       · rename_i hl
         obtain rfl:=Option.some.inj h
         refine⟨_,.str _,?_⟩
         simp only[binOp,Op.stringOp,size_mk,Gbj,hmax]
         rw[if_neg (by omega)]
         rfl
       · cases h)
    |cases h
theorem Mbt {op:BinOp}{t:TypeId}{vx vy:Value}{dx dy d:D}(hx:Sc vx dx)(hy:Sc vy dy)(h:Paf op dx dy=some d) :
  ∃ v,Sc v d/\(binOp op t vx vy).run P w=.ok v w:=by
 cases hx<;>cases hy<;>first|exact Bb8 h|exact Bb7 h|(simp[Paf]at h)
theorem Cbq {op:BinOp}{t:TypeId}{x y:Operand}{vx vy:Value}{dx dy:D}(hx:Sc vx dx)(hy:Sc vy dy):(eqGuard op t x y vx vy).run P w=.ok () w:=by
 cases hx<;>cases hy<;>(unfold eqGuard;cases op<;>simp)
theorem Sax (hR:R E.ntmps F σ ρ a w G)(hd:iJ E.ntmps o){nv:Nat}{op:BinOp}{t ty:TypeId}{x y:Operand}(ho:o.op=.binOp op t x y ty){res:dG}
  {x' y':aO} (h1:gOn ρ g=true->Sc (a.eval x) (x'.val ρ)) (h2:gOn ρ g=true->Sc (a.eval y) (y'.val ρ))
  (h:(yZ o g nv (.bin op) [x',y']).eval σ=some res) (hs:aR cf ρ g nv res.lets):jR P E F σ ρ a w g o Q res.upd:=by
 refine eH hR hd h hs fun hg d hp=>?_
 simp only[Tbn,Tbw,aN.run,Tbd,List.cons.injEq,and_true]at hp
 obtain⟨d',hp,rfl⟩:=hp
 obtain⟨v,h3,h4⟩:=Mbt (P:=P) (w:=w) (t:=t) (h1 hg) (h2 hg) hp
 refine⟨v,h3,?_⟩
 unfold execOp
 simp only[ho]
 refine iZ ?_
 rw[Sem.run_bind,Cbq (h1 hg) (h2 hg)]
 exact h4
theorem Gb6 (hR:R E.ntmps F σ ρ a w G)(hd:iJ E.ntmps o){nv:Nat}{op:UnOp}{t:TypeId}{x:Operand}(ho:o.op=.unOp op t x){res:dG}
  (h:(do
   let a <- rdA E g 0 x
   match op with
   |.not=>yZ o g nv .not [a]
   |.neg=>yZ o g nv .neg [a]
   |.xor=>yZ o g nv .inv [a]
   |_=>.no:RdM dG).eval σ=some res) (hs:aR cf ρ g nv res.lets):jR P E F σ ρ a w g o Q res.upd:=by
 simp only[aC,Sbt]at h
 obtain⟨x',h1,h2⟩:=h
 split at h2
 ·refine eH hR hd h2 hs fun hg d hp=>?_
  have hx:=mG hR hg h1
  simp only[Tbn,Tbw]at hp
  generalize x'.val ρ=xv at hp hx
  cases xv<;>simp only[aN.run]at hp<;>first|cases hp|skip
  rename_i b
  exact⟨_,.bool _,by unfold execOp;simp only[ho,hx.bool_inv];rfl⟩
 ·refine eH hR hd h2 hs fun hg d hp=>?_
  have hx:=mG hR hg h1
  simp only[Tbn,Tbw]at hp
  generalize x'.val ρ=xv at hp hx
  cases xv<;>simp only[aN.run]at hp<;>first|cases hp|skip
  exact⟨_,.int _ _,by unfold execOp;simp only[ho,hx.int_inv];rfl⟩
 ·refine eH hR hd h2 hs fun hg d hp=>?_
  have hx:=mG hR hg h1
  simp only[Tbn,Tbw]at hp
  generalize x'.val ρ=xv at hp hx
  cases xv<;>simp only[aN.run,Baj,Ubd,Option.some.injEq,List.cons.injEq,and_true]at hp<;>first|cases hp|skip
  exact⟨_,.int _ _,by unfold execOp;simp only[ho,hx.int_inv];rfl⟩
 ·cases h2
theorem Bb5 (hR:R E.ntmps F σ ρ a w G)(hd:iJ E.ntmps o)(hti:Aaj P E.ti){nv:Nat}{src dst:TypeId}{x:Operand}(ho:o.op=.convert src dst x){res:dG}{s d:TI}{k:IntKind}
  (hs1:E.ti src=some s) (hs2:s.ik.isSome=true) (hd1:E.ti dst=some d) (hk:d.ik=some k) {x':aO} (h1:(rdA E g src x).eval σ=some x')
  (h:(yZ o g nv (.conv k) [x']).eval σ=some res) (hs:aR cf ρ g nv res.lets):jR P E F σ ρ a w g o Q res.upd:=by
 refine eH hR hd h hs fun hg e hp=>?_
 have hx:=mG hR hg h1
 simp only[Tbn,Tbw]at hp
 generalize x'.val ρ=xv at hp hx
 cases xv<;>simp only[aN.run]at hp<;>first|cases hp|skip
 rename_i k0 n
 obtain⟨i1,u1,f1⟩:=bG (hti.ok _ _ hs1)
 obtain⟨i2,u2,f2⟩:=bG (hti.ok _ _ hd1)
 have e2:u2=.int k:=by
  have:=f2.ik.symm.trans hk
  unfold Qby at this
  split at this
  ·rw[Option.some.inj this]
  ·cases this
 subst e2
 refine⟨_,.int _ _,?_⟩
 unfold execOp
 simp only[ho,hx.int_inv]
 refine iZ ?_
 simp only[convert,Sem.run_bind,run_underlying f1.und,run_underlying f2.und,Result.andThen_ok]
 rfl
end
end Go.Proofs.YtpgnlmfmlffjcaaGreat.Rf

namespace Go.Proofs.YtpgnlmfmlffjcaaGreat.Rf
set_option linter.unusedVariables false
set_option linter.unusedSimpArgs false
section
variable {P:Program} {E:Env} {F:cB} {σ:Nat->Option aW} {ρ:List D} {a:Act} {w w':World} {G:Gh} {g:Option (aO×Bool)} {o:Oper} {cf:Nat->List D->Option (List D)} {Q:Exit->Act->World->Prop} {next:Act->World->Prop}
def Qak (σ:Nat->Option aW)(r k:Nat):Prop:=∃ m,Hay σ r k m
theorem lN:∀ {deps ds:List (Nat×Nat)},(Aa2 deps).eval σ=some ds ->
  (∀ z∈deps,uJ σ z.1 z.2)/\(∀ z∈ds,z∈deps/\Qak σ z.1 z.2)/\∀ z∈deps,z∈ds\/∃ x m,σ (kR z.1)=some (.root x m z.2 .frozen)
 | [], ds, h => by
  simp only[Aa2,aH,Option.some.injEq]at h
  subst h
  simp
 | (r, k) :: rest, ds, h => by
  simp only[Aa2,aC,aX,Sb6]at h
  split at h
  ·rename_i x m ver st hk
   simp only[aC,Sbt]at h
   obtain⟨ds',h1,h2⟩:=h
   obtain⟨h3,h4,h5⟩:=lN h1
   split at h2
   ·rw[jW]at h2
    split at h2
    ·rename_i e
     simp only[Tbv]at e
     simp only[aH,Option.some.injEq]at h2
     subst h2 e
     refine⟨fun z hz=>?_,fun z hz=>⟨Tba _ (h4 z hz).1,(h4 z hz).2⟩,fun z hz=>?_⟩
     ·rcases List.mem_cons.1 hz with rfl|hz
      ·exact⟨x,m,.frozen,hk,.inr rfl⟩
      ·exact h3 z hz
     ·rcases List.mem_cons.1 hz with rfl|hz
      ·exact .inr ⟨x,m,hk⟩
      ·exact h5 z hz
    ·cases h2
   ·rw[jW]at h2
    split at h2
    ·rename_i e
     simp only[Tbv]at e
     simp only[aH,Option.some.injEq]at h2
     subst h2 e
     refine⟨fun z hz=>?_,fun z hz=>?_,fun z hz=>?_⟩
     ·rcases List.mem_cons.1 hz with rfl|hz
      ·exact⟨x,m,.live,hk,.inl rfl⟩
      ·exact h3 z hz
     ·rcases List.mem_cons.1 hz with rfl|hz
      ·exact⟨Tbe,m,x,hk⟩
      ·exact⟨Tba _ (h4 z hz).1,(h4 z hz).2⟩
     ·rcases List.mem_cons.1 hz with rfl|hz
      ·exact .inl Tbe
      ·exact (h5 z hz).imp (Tba _) id
    ·cases h2
   ·cases h2
  ·cases h
theorem Rd.drop (hR:R E.ntmps F σ ρ a w G){deps ds:List (Nat×Nat)}(h:∀ z∈deps,z∈ds\/∃ x m,σ (kR z.1)=some (.root x m z.2 .frozen)){v:Value}{d:D}
  (hv:Rd (allow G deps) w v d):Rd (allow G ds) w v d:=by
 refine hv.mono fun b hb=>⟨?_,rfl⟩
 rcases hb with hb|⟨r,k,p,hm,hb⟩
 ·exact .inl hb
 ·rcases h (r,k) hm with h1|⟨x,m,h1⟩
  ·exact .inr ⟨r,k,p,h1,hb⟩
  ·exact absurd hb ((hR.root h1).2 b p)
def Aak (σ:Nat->Option aW)(ρ:List D)(G:Gh)(w:World)(s:SlR)(v:Value):Prop :=
 match s.own with
 |none=>True
 | some (r, k, m, p) => s.deps = [(r, k)] /\ Hay σ r k m /\ match p with
  |.no=>True
  |.view=>Rp G.own w r [] m v (s.x.val ρ)
  |.suf sz lo=>Lbz (G.hdr r) v sz (pF ρ lo)
  |.path q=>q.length<=m/\Rp G.own w r (bM ρ q) (m-q.length) v (s.x.val ρ)/\Eas G.own w r [] (G.hdr r) (bM ρ q) v
structure Cb2 (σ:Nat->Option aW) (ρ:List D) (G:Gh) (w:World) (s:SlR) (v:Value):Prop where
 rd:Rd (allow G s.deps) w v (s.x.val ρ)
 live:∀ z∈s.deps,Qak σ z.1 z.2
 nie:s.nie=true->∀ z,s.x.val ρ=.rows z []->v=.slice none 0 0
 own:Aak σ ρ G w s v
theorem fV (hR:R E.ntmps F σ ρ a w G){l:aZ}{s:SlR}(h:(Caf l).eval σ=some s){v:Value}(hl:aD σ ρ G w l v):Cb2 σ ρ G w s v:=by
 unfold Caf at h
 split at h
 ·rename_i r
  simp only[aD]at hl
  simp only[aC,aX,Sb6]at h
  split at h
  ·rename_i x m ver hk
   simp only[aH,Option.some.injEq]at h
   subst h
   have hr:=hR.root hk
   simp only[dJ]at hr
   rw[<- hl.1]at hr
   refine⟨hr.rd.mono fun b hb=>⟨hb.imp id fun ⟨q,hq⟩=>⟨r,ver,q,by simp,hq⟩,rfl⟩,?_,by simp,?_⟩
   ·intro z hz
    simp only[Sb9]at hz
    subst hz
    exact⟨m,x,hk⟩
   ·refine⟨rfl,⟨x,hk⟩,Nat.zero_le _,by simpa[bM] using hr,?_⟩
    simp only[bM,Tbw,Eas]
    exact hl.1
  ·rename_i x m ver hk
   simp only[aH,Option.some.injEq]at h
   subst h
   have hr:=(hR.root hk).1
   rw[<- hl.1]at hr
   exact⟨hr.mono fun b hb=>⟨.inl hb,rfl⟩,by simp,by simp,trivial⟩
  ·cases h
 ·rename_i deps p nie x
  simp only[aD]at hl
  simp only[aC,Sbt]at h
  obtain⟨ds,h1,h2⟩:=h
  obtain⟨h3,h4,h5⟩:=lN h1
  obtain⟨h6,h7,h8⟩:=hl.2 h3
  have h9:=h6.drop hR h5
  split at h2
  ·simp only[aH,Option.some.injEq]at h2
   subst h2
   exact⟨h9,fun z hz=>(h4 z hz).2,h7,trivial⟩
  ·rename_i r k z hne
   simp only[aC,aX,Sb6]at h2
   split at h2
   ·rename_i x' m ver hk
    simp only[aH,Option.some.injEq]at h2
    subst h2
    have hz:=(h4 z (by simp)).1
    simp only[Sb9]at hz
    subst hz
    have hlv:Qak σ r k:=(h4 (r,k) (by simp)).2
    obtain⟨m',x'',hk'⟩:=hlv
    rw[hk]at hk'
    obtain⟨rfl,rfl,rfl⟩:x'=x''/\m=m'/\ver=k:=by injection hk' with hk';injection hk' with a b c d;exact⟨a,b,c⟩
    refine⟨h9,fun z hz=>(h4 z hz).2,h7,rfl,⟨x',hk⟩,?_⟩
    cases p with
    |no=>trivial
    |view=>exact h8 r ver m rfl ⟨x',hk⟩
    |path q=>exact h8 r ver m rfl ⟨x',hk⟩
    |suf sz lo=>exact h8 r ver m rfl ⟨x',hk⟩
   ·cases h2
  ·simp only[aH,Option.some.injEq]at h2
   subst h2
   exact⟨h9,fun z hz=>(h4 z hz).2,h7,trivial⟩
 ·cases h
theorem Rd.inv {ok:Nat->Prop}{v:Value}{sz:Nat}{rs:List (List D)}(h:Rd ok w v (.rows sz rs)) :
  ∃ (A:Option Addr) (a:Addr) (n c:Nat) (vs:Nat->Nat->Value),v=.slice A n c/\rs.length=n/\n<=c/\(n=0\/A=some a)/\(∀ r∈rs,r.length=sz) /\
   (∀ i r,rs[i]?=some r->∀ j d,r[j]?=some d->ok a.block/\w.cell? (a.add (i*sz+j))=some (vs i j)) /\
   (∀ i r,rs[i]?=some r->∀ j d,r[j]?=some d->Rd ok w (vs i j) d):=by
 cases h with
 |sc h=>cases h
 |rows A a n c sz rs vs hn hc hA hsz hcell hrec=>exact⟨A,a,n,c,vs,rfl,hn,hc,hA,hsz,hcell,hrec⟩
theorem wF {t:TypeId}{i:TI}{info:TypeInfo}{u:TypeDesc}{e:Nat}(f:dW P t i info u)(h:i.elem=some e):u=.slice e:=by
 have:=f.elem.symm.trans h
 unfold Fbs at this
 split at this
 ·rw[Option.some.inj this]
 ·cases this
theorem Maj {t:TypeId}{i:TI}{info:TypeInfo}{u:TypeDesc}(f:dW P t i info u)(h:i.elem.isSome=true):∃ e,u=.slice e:=by
 cases e:i.elem with
 |none=>rw[e]at h;cases h
 |some e'=>exact⟨e',wF f e⟩
theorem Ham {t:TypeId}{i:TI}{info:TypeInfo}{u:TypeDesc}(f:dW P t i info u)(h:i.isStr=true):u=.string:=by
 have:Eb1 u=true:=by rw[<- h,f.eq];rfl
 unfold Eb1 at this
 split at this
 ·rfl
 ·cases this
theorem Qa7 {t:TypeId}{i:TI}{info:TypeInfo}{u:TypeDesc}(f:dW P t i info u){k off ft:Nat}(h:i.flds[k]?=some (off,ft)) :
  ∃ fs fd,u=.struct fs/\fs[k]?=some fd/\fd.offset=off/\fd.type=ft:=by
 rw[f.flds]at h
 unfold Fbi at h
 split at h
 ·rename_i fs
  simp only[Tbo,Tbd,Prod.mk.injEq]at h
  obtain⟨fd,h1,h2,h3⟩:=h
  exact⟨fs,fd,rfl,by simpa using h1,h2,h3⟩
 ·simp at h
theorem Rar {α:Type}{as:Array α}{x:α}(h:as.toList=[x]):as=#[x]:=by
 apply Wbs
 simpa using h
theorem Ibs {α:Type}{as:Array α}{x y:α}(h:as.toList=[x,y]):as=#[x,y]:=by
 apply Wbs
 simpa using h
theorem qW {b:Builtin}{args:Array Operand}{argTypes:Array TypeId}{s:Sem Value}{v:Value}(ho:o.op=.call { callee:=.builtin b,args,argTypes })
  (hb:∀ consts,builtin b argTypes o.type consts (args.map a.eval)=(do pure (.value (<- s)))) (h:s.run P w=.ok v w'):(execOp a.eval o).run P w=.ok (.value v) w':=by
 unfold execOp
 simp only[ho,resolve,Sem.run_bind,Sem.run_pure,Result.andThen_ok,invoke,hb]
 rw[h]
 rfl
theorem Wa3 {α γ:Type}(f:α->γ)(x:α):Array.map f #[x]=#[f x]:=by simp
theorem Mb2 {α γ:Type}(f:α->γ)(x y:α):Array.map f #[x,y]=#[f x,f y]:=by simp
theorem Was {t ty:TypeId}{argTypes:Array TypeId}(ht:argTypes[0]?=some t)(hu:P.underlying t=some .string)(s:ByteArray) :
  (Builtin.len_ argTypes ty #[.string s]).run P w=.ok (.int .i64 s.size) w:=by
 simp[Builtin.len_,ht,run_underlying hu,goInt]
theorem run_len_slice {t ty e:TypeId}{argTypes:Array TypeId}(ht:argTypes[0]?=some t)(hu:P.underlying t=some (.slice e))(A:Option Addr)(n c:Nat) :
  (Builtin.len_ argTypes ty #[.slice A n c]).run P w=.ok (.int .i64 n) w:=by
 simp[Builtin.len_,ht,run_underlying hu,goInt]
theorem Dbp (hR:R E.ntmps F σ ρ a w G)(hd:iJ E.ntmps o)(hti:Aaj P E.ti){nv:Nat}{args:Array Operand}{argTypes:Array TypeId}
  (ho:o.op=.call { callee:=.builtin .len,args,argTypes }) {x:Operand} (hx:args.toList=[x]) {t:TypeId} (ht:argTypes[0]?=some t) {ti:TI} (hi:E.ti t=some ti) {res:dG}
  (h:(do
   let l <- rdL E g t x
   match Aae g l with
   | some a => do
    dD ti.isStr
    yZ o g nv .slen [a]
   | none => do
    dD ti.elem.isSome
    let s <- Caf l
    yZ o g nv .len [s.x]:RdM dG).eval σ=some res) (hs:aR cf ρ g nv res.lets):jR P E F σ ρ a w g o Q res.upd:=by
 obtain⟨info,u,f⟩:=bG (hti.ok _ _ hi)
 simp only[aC,Sbt]at h
 obtain⟨l,h1,h2⟩:=h
 split at h2
 ·rename_i y hy
  simp only[aC,aP,Sbt]at h2
  obtain⟨_,h3,h4⟩:=h2
  split at h3
  ·rename_i hstr
   obtain rfl:=Ham f hstr
   refine eH hR hd h4 hs fun hg d hp=>?_
   have hv:=nE hg hy (iP hR hg h1)
   simp only[Tbn,Tbw]at hp
   generalize y.val ρ=yv at hp hv
   cases yv<;>simp only[aN.run]at hp<;>first|cases hp|skip
   rename_i s
   refine⟨_,.int _ _,qW ho (fun _=>rfl) ?_⟩
   have e:=Was (P:=P) (w:=w) (ty:=o.type) ht f.und ⟨s.toArray⟩
   rw[<- hv.str_inv]at e
   rw[Rar hx,Wa3]
   exact e
  ·cases h3
 ·rename_i hy
  simp only[aC,aP,Sbt]at h2
  obtain⟨_,h3,s,h4,h5⟩:=h2
  split at h3
  ·rename_i hel
   obtain⟨e,rfl⟩:=Maj f hel
   refine eH hR hd h5 hs fun hg d hp=>?_
   have hv:=(fV hR h4 (iP hR hg h1)).rd
   simp only[Tbn,Tbw]at hp
   generalize s.x.val ρ=yv at hp hv
   cases yv<;>simp only[aN.run]at hp<;>first|cases hp|skip
   rename_i sz rs
   obtain⟨A,b,n,c,vs,e1,e2,-⟩:=hv.inv
   refine⟨_,.int _ _,qW ho (fun _=>rfl) ?_⟩
   have e:=run_len_slice (P:=P) (w:=w) (ty:=o.type) ht f.und A n c
   rw[<- e1]at e
   rw[Rar hx,e2,Wa3]
   exact e
  ·cases h3
theorem aK.len {ls:List aZ}:∀ {vs:List Value},aK σ ρ G w ls vs->vs.length=ls.length:=by
 induction ls with
 |nil=>intro vs h;simp only[aK]at h;simp[h]
 | cons l ls ih =>
  intro vs h
  simp only[aK]at h
  obtain⟨u,us,rfl,_,h2⟩:=h
  simp[ih h2]
theorem aK.get {ls:List aZ}:∀ {vs:List Value} {i:Nat} {l:aZ},aK σ ρ G w ls vs->ls[i]?=some l->∃ v,vs[i]?=some v/\aD σ ρ G w l v:=by
 induction ls with
 |nil=>intro vs i l h hi;simp at hi
 | cons l0 ls ih =>
  intro vs i l h hi
  simp only[aK]at h
  obtain⟨u,us,rfl,h1,h2⟩:=h
  cases i with
  | zero =>
   simp only[Sb8,Option.some.injEq]at hi
   subst hi
   exact⟨u,rfl,h1⟩
  | succ i =>
   simp only[Tb9]at hi ⊢
   exact ih h2 hi
theorem aK.of_get {ls:List aZ}:∀ {vs:List Value},vs.length=ls.length->(∀ (i:Nat) (l:aZ) (v:Value),ls[i]?=some l->vs[i]?=some v->aD σ ρ G w l v)->aK σ ρ G w ls vs:=by
 induction ls with
 |nil=>intro vs h _;simp only[aK];exact Ubh h
 | cons l0 ls ih =>
  intro vs h hg
  cases vs with
  |nil=>simp at h
  | cons u us =>
   simp only[aK]
   exact⟨u,us,rfl,hg 0 l0 u rfl rfl,ih (by simpa using h) fun i l v hi hv=>hg (i+1) l v hi hv⟩
theorem aK.drop {ls:List aZ}{vs:List Value}(k:Nat)(h:aK σ ρ G w ls vs):aK σ ρ G w (ls.drop k) (vs.drop k):=by
 refine .of_get (by simp[h.len]) fun i l v hi hv=>?_
 rw[Tb5]at hi hv
 obtain⟨v',h1,h2⟩:=h.get hi
 rw[h1]at hv
 exact Option.some.inj hv▸h2
theorem aK.take {ls:List aZ}{vs:List Value}(k:Nat)(h:aK σ ρ G w ls vs):aK σ ρ G w (ls.take k) (vs.take k):=by
 refine .of_get (by simp[h.len]) fun i l v hi hv=>?_
 rw[Ubg]at hi hv
 split at hi
 ·rename_i hk
  rw[if_pos hk]at hv
  obtain⟨v',h1,h2⟩:=h.get hi
  rw[h1]at hv
  exact Option.some.inj hv▸h2
 ·cases hi
theorem yO {agg:Bool}{ls:List aZ}{sv:SV}(h:Abd agg ls=some sv){vs:List Value}(hl:aK σ ρ G w ls vs){v:Value}
  (hv:if agg=true then v=.agg vs.toArray else vs=[v]):eB σ ρ G w sv v:=by
 unfold Abd at h
 cases agg with
 | true =>
  simp only[cond_true,Option.some.injEq]at h
  subst h
  exact⟨vs,by simpa using hv,hl⟩
 | false =>
  simp only[cond_false]at h
  split at h
  ·simp only[Option.some.injEq]at h
   subst h
   simp only[Sbv,if_false]at hv
   subst hv
   simp only[aK]at hl
   obtain⟨u,us,e,h1,-⟩:=hl
   obtain⟨rfl,-⟩:=List.cons.inj e
   exact h1
  ·cases h
theorem Wal (hR:R E.ntmps F σ ρ a w G)(hd:iJ E.ntmps o)(hti:Aaj P E.ti){nv:Nat}{t:TypeId}{x:Operand}{k:Nat}(ho:o.op=.field t x k){ti fi:TI}{off ft:Nat}
  (hi:E.ti t=some ti) (hf:ti.flds[k]?=some (off,ft)) (hfi:E.ti ft=some fi) {res:dG}
  (h:(do
   match <- Ta3 E g t x with
   | .agg ls => do
    dD (Nat.ble (off+fi.size) ls.length&&Nat.beq ls.length ti.size)
    match Abd fi.agg ((ls.drop off).take fi.size) with
    |some v=>Ebe o g nv v
    |none=>.no
   |_=>.no:RdM dG).eval σ=some res) (hs:aR cf ρ g nv res.lets):jR P E F σ ρ a w g o Q res.upd:=by
 obtain⟨info,u,f⟩:=bG (hti.ok _ _ hi)
 obtain⟨info',u',f'⟩:=bG (hti.ok _ _ hfi)
 obtain⟨fs,fd,rfl,h1,rfl,rfl⟩:=Qa7 f hf
 simp only[aC,Sbt]at h
 obtain⟨sv,h2,h3⟩:=h
 split at h3
 ·rename_i ls
  simp only[aC,aP,Sbt]at h3
  obtain⟨_,h4,h5⟩:=h3
  split at h4
  ·rename_i hb
   simp only[Sbu,Ubf]at hb
   split at h5
   ·rename_i sv' hsv
    refine Cad hR hd h5 hs fun hg=>?_
    obtain⟨vs,e,hl⟩:=jG hR hg h2
    have hl':=(hl.drop fd.offset).take fi.size
    have hlen:=hl.len
    have hrun:∀ v,(if fi.agg=true then v=.agg ((vs.drop fd.offset).take fi.size).toArray else (vs.drop fd.offset).take fi.size=[v]) ->
      (execOp a.eval o).run P w=.ok (.value v) w:=by
     intro v hv
     unfold execOp
     simp only[ho]
     refine iZ ?_
     simp only[Instr.field,Sem.run_bind,run_underlying f.und,Result.andThen_ok,h1,e,asAgg,Sem.run_pure,part,f'.isAgg,f'.sizeOf]
     cases hag:fi.agg with
     | true =>
      rw[hag]at hv
      simp only[if_true]at hv ⊢
      rw[hv]
      simp only[Sem.run_bind,f'.sizeOf,Result.andThen_ok,Sem.run_pure]
      congr 2
      apply Wbs
      simp[List.extract_eq_take_drop]
     | false =>
      rw[hag]at hv
      simp only[Sbv,if_false]at hv ⊢
      have:vs[fd.offset]?=some v:=by
       have h0:((vs.drop fd.offset).take fi.size)[0]?=some v:=by rw[hv];rfl
       rw[Ubg]at h0
       split at h0
       ·rw[Tb5]at h0;simpa using h0
       ·cases h0
      simp[this]
    cases hag:fi.agg with
    | true =>
     refine⟨.agg ((vs.drop fd.offset).take fi.size).toArray,yO hsv hl' (by rw[hag];rfl),hrun _ (by rw[hag];rfl)⟩
    | false =>
     have hl1:((ls.drop fd.offset).take fi.size).length=1:=by
      rw[hag]at hsv
      unfold Abd at hsv
      simp only[cond_false]at hsv
      split at hsv
      ·rename_i l hl1;rw[hl1];rfl
      ·cases hsv
     have hv1:((vs.drop fd.offset).take fi.size).length=1:=by rw[hl'.len,hl1]
     obtain⟨v,hv⟩:=List.length_eq_one_iff.1 hv1
     exact⟨v,yO hsv hl' (by rw[hag];exact hv),hrun _ (by rw[hag];exact hv)⟩
   ·cases h5
  ·cases h4
 ·cases h3
theorem lX.get:∀ {ts:List (Bool×List aZ)} {us:List Value} {i:Nat} {ag:Bool} {ls:List aZ},lX σ ρ G w ts us->ts[i]?=some (ag,ls) ->
  ∃ u vs,us[i]?=some u/\aK σ ρ G w ls vs/\(if ag=true then u=.agg vs.toArray else vs=[u])
 |[],_,_,_,_,_,h=>by simp at h
 | (a0, l0) :: r, us, i, ag, ls, ht, h => by
  obtain⟨u,us',vs,rfl,h1,h2,h3⟩:=ht
  cases i with
  | zero =>
   simp only[Sb8,Option.some.injEq,Prod.mk.injEq]at h
   obtain⟨rfl,rfl⟩:=h
   exact⟨u,vs,rfl,h1,h2⟩
  | succ i =>
   simp only[Tb9]at h ⊢
   exact lX.get h3 h
theorem Pa0 (hR:R E.ntmps F σ ρ a w G)(hd:iJ E.ntmps o){nv:Nat}{x:Operand}{i:Nat}(ho:o.op=.extract x i){res:dG}
  (h:(do
   match <- Ta3 E g 0 x with
   | .tup vs => match vs[i]? with
    | some (a, ls) => match Abd a ls with
     |some v=>Ebe o g nv v
     |none=>.no
    |none=>.no
   |_=>.no:RdM dG).eval σ=some res) (hs:aR cf ρ g nv res.lets):jR P E F σ ρ a w g o Q res.upd:=by
 simp only[aC,Sbt]at h
 obtain⟨sv,h2,h3⟩:=h
 split at h3
 ·rename_i ts
  split at h3
  ·rename_i ag ls hi
   split at h3
   ·rename_i v hv
    refine Cad hR hd h3 hs fun hg=>?_
    obtain⟨us,e,ht⟩:=jG hR hg h2
    obtain⟨u,vs,h4,h5,h6⟩:=ht.get hi
    refine⟨u,yO hv h5 h6,?_⟩
    unfold execOp
    simp only[ho]
    refine iZ ?_
    simp[Instr.extract,e,h4]
   ·cases h3
  ·cases h3
 ·cases h3
theorem Ka3 (hR:R E.ntmps F σ ρ a w G)(hd:iJ E.ntmps o)(hti:Aaj P E.ti){nv:Nat}{t:TypeId}{x:Operand}{k:Nat}(ho:o.op=.fieldAddr t x k){ti fi:TI}{off ft:Nat}
  (hi:E.ti t=some ti) (hf:ti.flds[k]?=some (off,ft)) (hfi:E.ti ft=some fi) (hpos:0<fi.size) {res:dG}
  (h:(do Wac o g off (<- rdL E g 0 x):RdM dG).eval σ=some res) (hs:aR cf ρ g nv res.lets):jR P E F σ ρ a w g o Q res.upd:=by
 obtain⟨info,u,f⟩:=bG (hti.ok _ _ hi)
 obtain⟨info',u',f'⟩:=bG (hti.ok _ _ hfi)
 obtain⟨fs,fd,rfl,h1,rfl,rfl⟩:=Qa7 f hf
 simp only[aC,Sbt]at h
 obtain⟨l,h2,h3⟩:=h
 have hrun:∀ b:Addr,a.eval x=.pointer (some b)->(execOp a.eval o).run P w=.ok (.value (.pointer (some (b.add fd.offset)))) w:=by
  intro b hb
  unfold execOp
  simp only[ho]
  refine iZ ?_
  have hne:¬ fi.size=0:=by omega
  simp only[Instr.fieldAt,Sem.run_bind,run_underlying f.und,Result.andThen_ok,h1,Instr.sureAddr,hb,Sem.run_pure,fieldPlace,f'.sizeOf,if_neg hne]
 unfold Wac at h3
 split at h3
 ·rename_i b off
  refine fC hR hd h3 hs fun hg _=>?_
  have hl:=iP hR hg h2
  simp only[aD]at hl
  refine⟨_,?_,hrun _ hl.1⟩
  simp only[eB,aD]
  exact⟨by rw[add_add],hl.2⟩
 ·rename_i l' sz i off
  refine fC hR hd h3 hs fun hg _=>?_
  have hl:=iP hR hg h2
  simp only[aD]at hl
  obtain⟨b,n,c,k',iv,h4,h5,h6,h7,h8⟩:=hl
  refine⟨_,?_,hrun _ h8⟩
  simp only[eB,aD]
  exact⟨b,n,c,k',iv,h4,h5,h6,h7,by rw[add_add,Tbl]⟩
 ·cases h3
end
end Go.Proofs.YtpgnlmfmlffjcaaGreat.Rf

namespace Go.Proofs.YtpgnlmfmlffjcaaGreat.Rf
set_option linter.unusedVariables false
set_option linter.unusedSimpArgs false
section
variable {P:Program} {E:Env} {F:cB} {σ:Nat->Option aW} {ρ:List D} {a:Act} {w w':World} {G:Gh} {g:Option (aO×Bool)} {o:Oper} {cf:Nat->List D->Option (List D)} {Q:Exit->Act->World->Prop} {next:Act->World->Prop}
theorem Ka2 (hR:R E.ntmps F σ ρ a w G)(hd:iJ E.ntmps o)(hti:Aaj P E.ti){nv:Nat}{t:TypeId}{x i:Operand}(ho:o.op=.indexAddr t x i){ti ei:TI}{e:Nat}
  (hi:E.ti t=some ti) (he:ti.elem=some e) (hei:E.ti e=some ei) {res:dG}
  (h:(do
   let l <- rdL E g t x
   let s <- Caf l
   let a <- rdA E g 0 i
   dD (Nat.blt 0 ei.size)
   zA o g [.prim .inb [s.x,a] 0] (.one (.pe l ei.size a 0)) []:RdM dG).eval σ=some res) (hs:aR cf ρ g nv res.lets):jR P E F σ ρ a w g o Q res.upd:=by
 obtain⟨info,u,f⟩:=bG (hti.ok _ _ hi)
 obtain⟨info',u',f'⟩:=bG (hti.ok _ _ hei)
 obtain rfl:=wF f he
 simp only[aC,Sbt,aP]at h
 obtain⟨l,h1,s,h2,y,h3,_,h4,h5⟩:=h
 refine fC hR hd h5 hs fun hg hst=>?_
 obtain⟨ds,hp,-,-⟩:=step1 hst hg
 have hl:=iP hR hg h1
 have hsl:=(fV hR h2 hl).rd
 have hy:=mG hR hg h3
 simp only[Tbn,Tbw]at hp
 generalize hxv:s.x.val ρ=xv at hp hsl
 generalize hyv:y.val ρ=yv at hp hy
 cases xv<;>cases yv<;>simp only[aN.run]at hp<;>first|cases hp|skip
 rename_i sz rs k iv
 split at hp
 ·rename_i hb
  obtain⟨A,b,n,c,vs,e1,e2,e3,e4,-⟩:=hsl.inv
  have hn:n≠0:=by omega
  have hA:A=some b:=e4.resolve_left hn
  subst hA
  refine⟨.pointer (some (b.add (iv.toNat*ei.size+0))),?_,?_⟩
  ·simp only[eB,aD]
   exact⟨b,n,c,k,iv,e1▸hl,hyv,hb.1,by omega,rfl⟩
  ·unfold execOp
   simp only[ho]
   refine iZ ?_
   have hlt:(0:Int)<=iv/\iv<(n:Int):=⟨hb.1,by rw[<- e2];exact hb.2⟩
   simp only[Instr.indexAt,hy.int_inv,asIntOf,Sem.run_bind,Sem.run_pure,Result.andThen_ok,run_underlying f.und,e1,if_pos hlt,f'.sizeOf,Nat.add_zero]
 ·cases hp
theorem Wak (hR:R E.ntmps F σ ρ a w G)(hd:iJ E.ntmps o)(hti:Aaj P E.ti){nv:Nat}{t:TypeId}{x i:Operand}(ho:o.op=.index t x i){ti:TI}
  (hi:E.ti t=some ti) {res:dG}
  (h:(do
   dD ti.isStr
   let s <- rdA E g t x
   let a <- rdA E g 0 i
   yZ o g nv .sidx [s,a]:RdM dG).eval σ=some res) (hs:aR cf ρ g nv res.lets):jR P E F σ ρ a w g o Q res.upd:=by
 obtain⟨info,u,f⟩:=bG (hti.ok _ _ hi)
 simp only[aC,Sbt,aP]at h
 obtain⟨_,h0,x',h1,y,h2,h3⟩:=h
 split at h0
 ·rename_i hst
  obtain rfl:=Ham f hst
  refine eH hR hd h3 hs fun hg d hp=>?_
  have hx:=mG hR hg h1
  have hy:=mG hR hg h2
  simp only[Tbn,Tbw]at hp
  generalize x'.val ρ=xv at hp hx
  generalize y.val ρ=yv at hp hy
  cases xv<;>cases yv<;>simp only[aN.run]at hp<;>first|cases hp|skip
  rename_i s k iv
  split at hp
  ·rename_i h0i
   split at hp
   ·rename_i b hb
    simp only[Option.some.injEq,List.cons.injEq,and_true]at hp
    subst hp
    refine⟨_,.int _ _,?_⟩
    unfold execOp
    simp only[ho]
    refine iZ ?_
    have e:(⟨s.toArray⟩:ByteArray)[iv.toNat]?=some b:=by
     have:iv.toNat<s.length:=by
      rcases Tbi iv.toNat s.length with h|h
      ·exact h
      ·rw[Ubk h]at hb;cases hb
     rw[getElem?_pos (⟨s.toArray⟩:ByteArray) iv.toNat (by simpa[ByteArray.size] using this)]
     rw[Sb0 this]at hb
     rw[<- hb]
     rfl
    simp only[Instr.index,hy.int_inv,hx.str_inv,asIntOf,Sem.run_bind,Sem.run_pure,Result.andThen_ok,run_underlying f.und,if_pos h0i,e]
   ·cases hp
  ·cases hp
 ·cases h0
theorem Cag (hR:R E.ntmps F σ ρ a w G)(hg:gOn ρ g=true):∀ {xs:List Operand} {ts:List TypeId} {svs:List SV},(Dah E g xs ts).eval σ=some svs ->
  svs.length=xs.length/\∀ (i:Nat) (sv:SV) (x:Operand),svs[i]?=some sv->xs[i]?=some x->eB σ ρ G w sv (a.eval x)
 | [], ts, svs, h => by
  simp only[Dah,aH,Option.some.injEq]at h
  subst h
  simp
 | x :: xs, ts, svs, h => by
  simp only[Dah,aC,Sbt,aH,Option.some.injEq]at h
  obtain⟨sv,h1,l,h2,rfl⟩:=h
  obtain⟨h3,h4⟩:=Cag hR hg h2
  refine⟨by simp[h3],fun i sv' x' hi hx=>?_⟩
  cases i with
  | zero =>
   simp only[Sb8,Option.some.injEq]at hi hx
   subst hi hx
   exact jG hR hg h1
  | succ i =>
   simp only[Tb9]at hi hx
   exact h4 i sv' x' hi hx
theorem Hat:∀ {svs:List SV} {ls:List aZ},Aaf svs=some ls->ls.length=svs.length/\∀ (i:Nat) (l:aZ),ls[i]?=some l->svs[i]?=some (.one l)
 | [], ls, h => by
  simp only[Aaf,Option.some.injEq]at h
  subst h
  simp
 | .one l :: r, ls, h => by
  simp only[Aaf,Tbd]at h
  obtain⟨m,h1,rfl⟩:=h
  obtain⟨h2,h3⟩:=Hat h1
  refine⟨by simp[h2],fun i l' hi=>?_⟩
  cases i with
  |zero=>simp only[Sb8,Option.some.injEq]at hi ⊢;rw[hi]
  |succ i=>simp only[Tb9]at hi ⊢;exact h3 i l' hi
 |.dead::_,_,h=>by simp[Aaf]at h
 |.agg _::_,_,h=>by simp[Aaf]at h
 |.tup _::_,_,h=>by simp[Aaf]at h
theorem Naq (hR:R E.ntmps F σ ρ a w G)(hd:iJ E.ntmps o){nv:Nat}{fn:FuncId}{first caps:Array Operand}(ho:o.op=.makeFunc (.func fn) first caps){res:dG}
  (h:(do
   dD first.isEmpty
   let vs <- Dah E g caps.toList []
   let ls <- tQ (Aaf vs)
   zA o g [] (.one (.clo fn ls)) []:RdM dG).eval σ=some res) (hs:aR cf ρ g nv res.lets):jR P E F σ ρ a w g o Q res.upd:=by
 simp only[aC,Sbt,aP,bF]at h
 obtain⟨_,h0,svs,h1,ls,h1',h2⟩:=h
 split at h0
 ·rename_i hf
  refine fC hR hd h2 hs fun hg _=>⟨.func (.func fn) #[] (caps.map a.eval),?_,?_⟩
  ·obtain⟨h3,h4⟩:=Cag hR hg h1
   simp only[eB,aD]
   obtain⟨h5,h6⟩:=Hat h1'
   refine⟨caps.toList.map a.eval,by rw[<- Array.toList_map,Array.toArray_toList],.of_get (by simp[h3,h5]) fun i l v hi hv=>?_⟩
   simp only[Tbo,Tbd]at hv
   obtain⟨x,hv,rfl⟩:=hv
   exact h4 i _ x (h6 i l hi) hv
  ·unfold execOp
   simp only[ho]
   refine iZ ?_
   have:first=#[]:=by simpa using hf
   subst this
   simp[Instr.makeFunc]
 ·cases h0
theorem Nap (hR:R E.ntmps F σ ρ a w G)(hd:iJ E.ntmps o){nv:Nat}{x:Operand}(ho:o.op=.nilCheck x){res:dG}
  (h:(do
   match <- rdL E g 0 x with
   | .rp deps sz y => do
    let ds <- Aa2 deps
    zA o g [.prim .ne [y] 0] (.one (.pe (.sn ds .no false y) sz (.c (.int .i64 0)) 0)) []
   |.px b off=>zA o g [] (.one (.px b off)) []
   |.pe l sz i off=>zA o g [] (.one (.pe l sz i off)) []
   |.clo f cs=>zA o g [] (.one (.clo f cs)) []
   |.pn=>zA o g [.prim .ne [.c (.rows 0 [])] 0] (.one (.pe (.sn [] .no false (.c (.rows 0 []))) 0 (.c (.int .i64 0)) 0)) []
   |_=>.no:RdM dG).eval σ=some res) (hs:aR cf ρ g nv res.lets):jR P E F σ ρ a w g o Q res.upd:=by
 simp only[aC,Sbt]at h
 obtain⟨l,h1,h2⟩:=h
 have hptr:∀ b,a.eval x=.pointer (some b)->(execOp a.eval o).run P w=.ok (.value (.pointer (some b))) w:=by
  intro b hb
  unfold execOp
  simp only[ho,hb]
  rfl
 split at h2
 ·rename_i deps sz y
  simp only[aC,Sbt]at h2
  obtain⟨ds,h3,h4⟩:=h2
  refine fC hR hd h4 hs fun hg hst=>?_
  obtain⟨zs,hp,-,-⟩:=step1 hst hg
  have hl:=iP hR hg h1
  simp only[aD]at hl
  obtain⟨hv1,hv2,hv3⟩:=lN h3
  rcases hl.2 hv1 with ⟨e1,z,e2⟩|⟨b,row,e1,e2,e3⟩
  ·simp only[Tbn,Tbw,e2,aN.run]at hp
   simp at hp
  ·refine⟨.pointer (some b),?_,hptr b e1⟩
   simp only[eB,aD]
   refine⟨b,1,1,.i64,0,⟨⟨rfl,fun z hz=>hl.1.2 z (hv2 z hz).1⟩,fun _=>⟨?_,by simp,trivial⟩⟩,rfl,by omega,by simp,by simp[Addr.add]⟩
   rw[e2]
   exact e3.drop hR hv3
 ·rename_i b off
  refine fC hR hd h2 hs fun hg _=>?_
  have hl:=iP hR hg h1
  have hl':=hl
  simp only[aD]at hl'
  exact⟨_,hl,by rw[hl'.1];exact hptr _ hl'.1⟩
 ·rename_i l' sz i off
  refine fC hR hd h2 hs fun hg _=>?_
  have hl:=iP hR hg h1
  have hl':=hl
  simp only[aD]at hl'
  obtain⟨b,n,c,k,iv,-,-,-,-,e⟩:=hl'
  exact⟨_,hl,by rw[e];exact hptr _ e⟩
 ·rename_i f cs
  refine fC hR hd h2 hs fun hg _=>?_
  have hl:=iP hR hg h1
  have hl':=hl
  simp only[aD]at hl'
  obtain⟨vs,e,-⟩:=hl'
  refine⟨_,hl,?_⟩
  unfold execOp
  simp only[ho,e]
  rfl
 ·refine fC hR hd h2 hs fun hg hst=>?_
  obtain⟨zs,hp,-,-⟩:=step1 hst hg
  simp[aO.val,aN.run]at hp
 ·cases h2
theorem Hbd {op:BinOp}{x y:Value}{dx dy d:D}(hx:Sc x dx)(hy:Sc y dy)(h:Pb0 op dx dy=some d)(hop:op=.lss\/op=.gtr) :
  ∃ v,Sc v d/\(if op=.lss then Builtin.min2 x y else Builtin.max2 x y).run P w=.ok v w:=by
 unfold Pb0 at h
 split at h
 ·rename_i k x' k' y'
  rw[hx.int_inv,hy.int_inv]
  split at h
  ·rename_i hk
   subst hk
   obtain rfl:=Option.some.inj h
   refine⟨_,.int _ _,?_⟩
   rcases hop with rfl|rfl
   ·simp[Builtin.min2]
   ·simp[Builtin.max2]
  ·cases h
 ·cases h
theorem Abl {op:BinOp}(hop:op=.lss\/op=.gtr):∀ {vs:List Value} {ds:List D} {x:Value} {dx d:D},Sc x dx->vs.length=ds.length->(∀ (i:Nat) (v:Value) (e:D),vs[i]?=some v->ds[i]?=some e->Sc v e) ->
  Qa4 op dx ds=some d->∃ v,Sc v d/\(vs.foldlM (fun a b=>if op=.lss then Builtin.min2 a b else Builtin.max2 a b) x).run P w=.ok v w
 | [], ds, x, dx, d, hx, hl, _, h => by
  obtain rfl:ds=[]:=Ubh (by simpa using hl.symm)
  simp only[Qa4,Option.some.injEq]at h
  subst h
  exact⟨x,hx,rfl⟩
 | v :: vs, ds, x, dx, d, hx, hl, hg, h => by
  cases ds with
  |nil=>simp at hl
  | cons e es =>
   simp only[Qa4,Sbt]at h
   obtain⟨z,h1,h2⟩:=h
   obtain⟨u,h3,h4⟩:=Hbd (P:=P) (w:=w) hx (hg 0 v e rfl rfl) h1 hop
   obtain⟨r,h5,h6⟩:=Abl hop (vs:=vs) (ds:=es) h3 (by simpa using hl) (fun i v' e' hi he=>hg (i+1) v' e' hi he) h2
   refine⟨r,h5,?_⟩
   rw[List.foldlM_cons,Sem.run_bind,h4]
   exact h6
theorem Pag (hg:gOn ρ g=true):∀ {ls:List aZ} {xs:List aO},Ma8 g ls=some xs->xs.length=ls.length /\
  ∀ (i:Nat) (l:aZ) (x:aO) (v:Value),ls[i]?=some l->xs[i]?=some x->aD σ ρ G w l v->Sc v (x.val ρ)
 | [], xs, h => by
  simp only[Ma8,Option.some.injEq]at h
  subst h
  simp
 | l :: ls, xs, h => by
  simp only[Ma8,Sbt,Tbd]at h
  obtain⟨x,h1,ys,h2,rfl⟩:=h
  obtain⟨h3,h4⟩:=Pag hg h2
  refine⟨by simp[h3],fun i l' x' v hi hx hl=>?_⟩
  cases i with
  | zero =>
   simp only[Sb8,Option.some.injEq]at hi hx
   subst hi hx
   exact nE hg h1 hl
  | succ i =>
   simp only[Tb9]at hi hx
   exact h4 i l' x' v hi hx hl
theorem kJ (hR:R E.ntmps F σ ρ a w G)(hd:iJ E.ntmps o){nv:Nat}{args:Array Operand}{argTypes:Array TypeId}{b:Builtin}{p:aN}{op:BinOp}
  (hb:(b=.min/\p=.min/\op=.lss)\/(b=.max/\p=.max/\op=.gtr))
  (ho:o.op=.call { callee:=.builtin b,args,argTypes }) {svs:List SV} {ts:List TypeId} {ls:List aZ} {xs:List aO} {res:dG}
  (h1:(Dah E g args.toList ts).eval σ=some svs) (h2:Aaf svs=some ls) (h3:Ma8 g ls=some xs)
  (h:(yZ o g nv p xs).eval σ=some res) (hs:aR cf ρ g nv res.lets):jR P E F σ ρ a w g o Q res.upd:=by
 refine eH hR hd h hs fun hg d hp=>?_
 obtain⟨h4,h5⟩:=Cag hR hg h1
 obtain⟨h6,h7⟩:=Hat h2
 obtain⟨h8,h9⟩:=Pag (σ:=σ) (ρ:=ρ) (G:=G) (w:=w) hg h3
 have hall:∀ (i:Nat) (v:Value) (e:D),(args.toList.map a.eval)[i]?=some v->(xs.map (·.val ρ))[i]?=some e->Sc v e:=by
  intro i v e hv he
  simp only[Tbo,Tbd]at hv he
  obtain⟨x,hx,rfl⟩:=hv
  obtain⟨y,hy,rfl⟩:=he
  have hlt:i<ls.length:=by
   rw[<- h8]
   exact (List.getElem?_eq_some_iff.1 hy).1
  have hl:ls[i]?=some ls[i]:=Sb0 hlt
  exact h9 i _ y _ hl hy (h5 i _ x (h7 i _ hl) hx)
 have hlen:(args.toList.map a.eval).length=(xs.map (·.val ρ)).length:=by
  simp only[Sb5]
  omega
 generalize hvs:args.toList.map a.eval=vs at hall hlen
 generalize hes:xs.map (·.val ρ)=es at hall hlen hp
 have hargs:args.map a.eval=vs.toArray:=by
  apply Wbs
  simpa using hvs
 cases es with
 |nil=>rcases hb with ⟨-,rfl,-⟩ | ⟨-,rfl,-⟩<;>simp[aN.run]at hp
 | cons e es =>
  cases vs with
  |nil=>simp at hlen
  | cons v vs =>
   have hf:Qa4 op e es=some d:=by
    rcases hb with ⟨-,rfl,rfl⟩|⟨-,rfl,rfl⟩<;>simpa[aN.run] using hp
   obtain⟨r,h10,h11⟩:=Abl (P:=P) (w:=w) (op:=op) (by rcases hb with ⟨-,-,rfl⟩|⟨-,-,rfl⟩<;>simp) (hall 0 v e rfl rfl) (by simpa using hlen)
    (fun i v' e' hi he=>hall (i+1) v' e' hi he) hf
   refine⟨r,h10,?_⟩
   rcases hb with ⟨rfl,rfl,rfl⟩|⟨rfl,rfl,rfl⟩
   ·refine qW ho (s:=Builtin.min_ argTypes o.type (args.map a.eval)) (fun _=>rfl) ?_
    rw[hargs]
    simpa[Builtin.min_] using h11
   ·refine qW ho (s:=Builtin.max_ argTypes o.type (args.map a.eval)) (fun _=>rfl) ?_
    rw[hargs]
    simpa[Builtin.max_] using h11
end
end Go.Proofs.YtpgnlmfmlffjcaaGreat.Rf

namespace Go.Proofs.YtpgnlmfmlffjcaaGreat.Rf
set_option linter.unusedVariables false
set_option linter.unusedSimpArgs false
section
variable {P:Program} {E:Env} {F:cB} {σ:Nat->Option aW} {ρ:List D} {a:Act} {w w':World} {G:Gh} {g:Option (aO×Bool)} {o:Oper} {cf:Nat->List D->Option (List D)} {Q:Exit->Act->World->Prop} {next:Act->World->Prop}
def Scs (vs:List Value)(ds:List D):Prop:=vs.length=ds.length/\∀ (i:Nat) (v:Value) (d:D),vs[i]?=some v->ds[i]?=some d->Sc v d
theorem Scs.drop {vs:List Value}{ds:List D}(h:Scs vs ds)(k:Nat):Scs (vs.drop k) (ds.drop k) :=
 ⟨by simp[h.1],fun i v d hv hd=>by rw[Tb5]at hv hd;exact h.2 _ v d hv hd⟩
theorem Scs.take {vs:List Value}{ds:List D}(h:Scs vs ds)(k:Nat):Scs (vs.take k) (ds.take k) :=
 ⟨by simp[h.1],fun i v d hv hd=>by
  rw[Ubg]at hv hd
  split at hv
  ·rename_i hk
   rw[if_pos hk]at hd
   exact h.2 _ v d hv hd
  ·cases hv⟩
theorem Mai:∀ {ks ls:List Nat} {a b c d:List D},a.length=ks.length->b.length=ks.length->∀ {r:Bool},Vaz (ks++ls) (a++c) (b++d)=some r ->
  ∃ r1,Vaz ks a b=some r1/\(r1=true->Vaz ls c d=some r)/\(r1=false->r=false)
 |[],ls,[],[],c,d,_,_,r,h=>⟨true,rfl,fun _=>h,fun h=>by cases h⟩
 | k :: ks, ls, x :: a, y :: b, c, d, h1, h2, r, h => by
  simp only[Ub3,Vaz,Sbt]at h
  obtain⟨e,h3,h4⟩:=h
  cases e with
  | true =>
   simp only[if_true]at h4
   obtain⟨r1,h5,h6,h7⟩:=Mai (by simpa using h1) (by simpa using h2) h4
   exact⟨r1,by simp[Vaz,h3,h5],h6,h7⟩
  | false =>
   simp only[Sbv,if_false,Option.some.injEq]at h4
   exact⟨false,by simp[Vaz,h3],(fun h=>by cases h),fun _=>h4.symm⟩
 |[],_,_::_,_,_,_,h,_,_,_=>by simp at h
 |[],_,[],_::_,_,_,_,h,_,_=>by simp at h
 |_::_,_,[],_,_,_,h,_,_,_=>by simp at h
 |_::_,_,_::_,[],_,_,_,h,_,_=>by simp at h
theorem Qbd (l m:List UInt8):((⟨l.toArray⟩:ByteArray)==⟨m.toArray⟩)=(l==m):=by
 have:((⟨l.toArray⟩:ByteArray)==⟨m.toArray⟩)=(l.toArray==m.toArray):=rfl
 rw[this]
 simp
theorem Sbo {x y:D}{r:Bool}(h:eqD 0 x y=some r):∃ k i j,x=.int k i/\y=.int k j/\r=(i==j):=by
 cases x<;>cases y<;>simp only[eqD]at h<;>first|cases h|skip
 split at h
 ·rename_i e
  subst e
  exact⟨_,_,_,rfl,rfl,(Option.some.inj h).symm⟩
 ·cases h
theorem Sbn {x y:D}{r:Bool}(h:eqD 1 x y=some r):∃ i j,x=.bool i/\y=.bool j/\r=(i==j):=by
 cases x<;>cases y<;>simp only[eqD]at h<;>first|(cases h;done)|skip
 exact⟨_,_,rfl,rfl,(Option.some.inj h).symm⟩
theorem Sbm {x y:D}{r:Bool}(h:eqD 2 x y=some r):∃ i j,x=.str i/\y=.str j/\r=(i==j):=by
 cases x<;>cases y<;>simp only[eqD]at h<;>first|(cases h;done)|skip
 exact⟨_,_,rfl,rfl,(Option.some.inj h).symm⟩
theorem Rbr {x y:D}{r:Bool}(h:eqD 3 x y=some r):False:=by
 cases x<;>cases y<;>simp[eqD]at h
theorem Rbq {t:TypeId}{x y:Value}{dx dy:D}{b:Bool}(hx:Sc x dx)(hy:Sc y dy)(h:eqD (Jaf (uB P t)) dx dy=some b)(n:Nat):(Op.equalIn (n+1) t x y).run P w=.ok b w:=by
 unfold uB at h
 split at h
 ·rename_i k hu
  obtain⟨k1,i,j,rfl,rfl,rfl⟩:=Sbo h
  simp[Op.equalIn,run_underlying hu,hx.int_inv,hy.int_inv]
 ·rename_i hu
  obtain⟨i,j,rfl,rfl,rfl⟩:=Sbn h
  simp[Op.equalIn,run_underlying hu,hx.bool_inv,hy.bool_inv]
 ·rename_i hu
  obtain⟨l,m,rfl,rfl,rfl⟩:=Sbm h
  simp only[Op.equalIn,run_underlying hu,hx.str_inv,hy.str_inv,Sem.run_bind,Result.andThen_ok,Sem.run_pure]
  rw[Qbd]
 ·exact (Rbr h).elim
 ·exact (Rbr h).elim
 ·exact (Rbr h).elim
def wK (P:Program)(t:TypeId)(vs:List Value)(v:Value):Prop:=match P.underlying t with
 |some (.struct _)=>v=.agg vs.toArray
 |_=>vs=[v]
theorem Uaz (P:Program)(d:Nat):∀ (fs:List Field) (acc l:List TypeId),fs.foldl (fun acc f=>acc.bind fun l=>(flat P d f.type).bind fun m=>bif Nat.beq f.offset l.length then some (l++m) else none) (some acc)=some l ->
  ∃ ls,l=acc++ls/\(∀ f r,fs=f::r->∃ m,flat P d f.type=some m/\f.offset=acc.length/\∃ ls',ls=m++ls'/\r.foldl (fun acc f=>acc.bind fun l=>(flat P d f.type).bind fun m=>bif Nat.beq f.offset l.length then some (l++m) else none) (some (acc++m))=some l)/\(fs=[]->ls=[])
 | [], acc, l, h => by
  simp only[List.foldl_nil,Option.some.injEq]at h
  exact⟨[],by simp[h],by simp,fun _=>rfl⟩
 | f :: r, acc, l, h => by
  simp only[List.foldl_cons,Sb6]at h
  cases hm:flat P d f.type with
  | none =>
   rw[hm]at h
   simp only[Option.bind_none]at h
   have:∀ (r:List Field),r.foldl (fun acc f=>acc.bind fun l=>(flat P d f.type).bind fun m=>bif Nat.beq f.offset l.length then some (l++m) else none) (none:Option (List TypeId))=none:=by
    intro r
    induction r with
    |nil=>rfl
    |cons _ _ ih=>simpa using ih
   rw[this]at h
   cases h
  | some m =>
   rw[hm]at h
   simp only[Sb6]at h
   cases ho:Nat.beq f.offset acc.length with
   | false =>
    rw[ho]at h
    simp only[cond_false]at h
    have:∀ (r:List Field),r.foldl (fun acc f=>acc.bind fun l=>(flat P d f.type).bind fun m=>bif Nat.beq f.offset l.length then some (l++m) else none) (none:Option (List TypeId))=none:=by
     intro r
     induction r with
     |nil=>rfl
     |cons _ _ ih=>simpa using ih
    rw[this]at h
    cases h
   | true =>
    rw[ho]at h
    simp only[cond_true]at h
    obtain⟨ls,h1,-,-⟩:=Uaz P d r (acc++m) l h
    refine⟨m++ls,by rw[h1,List.append_assoc],fun f' r' e=>?_,by simp⟩
    obtain⟨rfl,rfl⟩:=List.cons.inj e
    exact⟨m,hm,by simpa using ho,ls,rfl,h⟩
theorem Aaa {α:Type}(l:List α)(k m:Nat):(l.drop k).take m++l.drop (k+m)=l.drop k:=by
 rw[<- List.drop_drop,List.take_append_drop]
theorem Ga5 {t:TypeId}{d:Nat}{m:List TypeId}(hm:flat P d t=some m)(hs:Qbu P d t=true)(hc:Ral P d t=true){vs:List Value}{off:Nat}(hl:off+m.length<=vs.length) :
  ∃ v,wK P t ((vs.drop off).take m.length) v/\(part t vs.toArray off).run P w=.ok v w:=by
 unfold Qbu at hs
 rw[hm]at hs
 cases hi:P.info? t with
 |none=>rw[hi]at hs;cases hs
 | some i =>
  rw[hi]at hs
  simp only[Tbv]at hs
  cases d with
  |zero=>cases hc
  | succ d =>
   simp only[Ral]at hc
   simp only[flat]at hm
   cases hu:P.underlying t with
   |none=>rw[hu]at hm;cases hm
   | some u =>
    unfold wK
    rw[hu]at hc hm ⊢
    simp only[part,Sem.run_bind,Tau hu,Result.andThen_ok,run_sizeOf hi,Sem.run_ite]
    cases u<;>first|(cases hc;done)|skip
    case struct fs =>
     refine⟨_,rfl,?_⟩
     simp only[Na0,if_true,Sem.run_bind,run_sizeOf hi,Result.andThen_ok,Sem.run_pure,<- hs]
     congr 2
     apply Wbs
     simp[List.extract_eq_take_drop]
    all_goals
     simp only[Option.some.injEq]at hm
     subst hm
     have hlt:off<vs.length:=by simp only[Ubi]at hl;omega
     refine⟨vs[off],?_,?_⟩
     ·simp only[Ubi]
      rw[List.drop_eq_getElem_cons hlt]
      rfl
     ·simp[Na0,Sb0 hlt]
theorem Mah (P:Program)(w:World):∀ (d:Nat) (t:TypeId) (l:List TypeId),Ral P d t=true->flat P d t=some l->∀ (xs ys:List Value) (dx dy:List D) (b:Bool) (x y:Value),
  Scs xs dx->Scs ys dy->xs.length=l.length->ys.length=l.length->wK P t xs x->wK P t ys y->Vaz (l.map fun t=>Jaf (uB P t)) dx dy=some b ->
  ∀ n,d<=n->(Op.equalIn n t x y).run P w=.ok b w
 |0,t,l,hc,_=>by cases hc
 | d + 1, t, l, hc, hf => by
  intro xs ys dx dy b x y hx hy hlx hly hox hoy he n hn
  obtain⟨n,rfl⟩:∃ m,n=m+1:=⟨n-1,by omega⟩
  have hsingle:(∀ fs,P.underlying t≠some (.struct fs))->flat P (d+1) t=some [t]->(Op.equalIn (n+1) t x y).run P w=.ok b w:=by
   intro hns hft
   rw[hf]at hft
   obtain rfl:=Option.some.inj hft
   have h1:xs=[x]:=by
    unfold wK at hox
    split at hox
    ·rename_i fs hu;exact absurd hu (hns fs)
    ·exact hox
   have h2:ys=[y]:=by
    unfold wK at hoy
    split at hoy
    ·rename_i fs hu;exact absurd hu (hns fs)
    ·exact hoy
   subst h1 h2
   match dx,dy,hx.1,hy.1 with
   | [dx], [dy], _, _ =>
    simp only[Tbn,Tbw,Vaz,Sbt]at he
    obtain⟨e,h3,h4⟩:=he
    have:e=b:=by cases e<;>simpa using h4
    subst this
    exact Rbq (hx.2 0 x dx rfl rfl) (hy.2 0 y dy rfl rfl) h3 n
  simp only[Ral]at hc
  simp only[flat]at hf
  cases hu:P.underlying t with
  |none=>rw[hu]at hc;cases hc
  | some u =>
   rw[hu]at hc hf
   cases u<;>first|(cases hc;done)|skip
   case struct fs =>
    simp only[Sbu,Tbm,Tbp]at hc
    obtain⟨hstood,hall⟩:=hc
    have hx':x=.agg xs.toArray:=by unfold wK at hox;rw[hu]at hox;exact hox
    have hy':y=.agg ys.toArray:=by unfold wK at hoy;rw[hu]at hoy;exact hoy
    subst hx' hy'
    have hfs:P.fieldsOf t=fs:=by simp[Program.fieldsOf,hu]
    rw[run_equalIn_struct (P:=P) w n t _ _ (by rw[hfs];exact hu) hstood,hfs]
    dsimp only at hf
    generalize hgl:fs.toList=gs at hf hall
    have key : ∀ (gs : List Field) (acc : List TypeId) (b : Bool), (∀ f ∈ gs, (f.name != "_") = true /\ Ral P d f.type = true /\ Qbu P d f.type = true) ->
      gs.foldl (fun acc f=>acc.bind fun l=>(flat P d f.type).bind fun m=>bif Nat.beq f.offset l.length then some (l++m) else none) (some acc)=some l ->
      Vaz ((l.drop acc.length).map fun t=>Jaf (uB P t)) (dx.drop acc.length) (dy.drop acc.length)=some b ->
      (Op.eqFields n xs.toArray ys.toArray gs).run P w=.ok b w:=by
     intro gs
     induction gs with
     | nil =>
      intro acc b _ hfold hq
      simp only[List.foldl_nil,Option.some.injEq]at hfold
      subst hfold
      have e1:dx.drop acc.length=[]:=List.drop_of_length_le (by rw[<- hx.1];omega)
      have e2:dy.drop acc.length=[]:=List.drop_of_length_le (by rw[<- hy.1];omega)
      simp only[List.drop_length,Tbw,e1,e2,Vaz,Option.some.injEq]at hq
      subst hq
      simp[Op.eqFields]
     | cons f r ih =>
      intro acc b hok hfold hq
      obtain⟨ls,e1,h1,-⟩:=Uaz P d (f::r) acc l hfold
      obtain⟨m,hm,hoff,ls',e2,hfold'⟩:=h1 f r rfl
      obtain⟨hname,hcm,hsz⟩:=hok f Tbe
      have hlen:acc.length+m.length<=l.length:=by rw[e1,e2];simp
      have hdl:l.drop acc.length=m++ls':=by rw[e1,e2];simp
      rw[hdl,Tby]at hq
      rw[<- Aaa dx acc.length m.length,<- Aaa dy acc.length m.length]at hq
      have hl1:((dx.drop acc.length).take m.length).length=(m.map fun t=>Jaf (uB P t)).length:=by
       simp only[Tbc,Tbx,Sb5,<- hx.1];omega
      have hl2:((dy.drop acc.length).take m.length).length=(m.map fun t=>Jaf (uB P t)).length:=by
       simp only[Tbc,Tbx,Sb5,<- hy.1];omega
      obtain⟨r1,h2,h3,h4⟩:=Mai hl1 hl2 hq
      obtain⟨vx,hvx,hpx⟩:=Ga5 (w:=w) hm hsz hcm (vs:=xs) (off:=acc.length) (by omega)
      obtain⟨vy,hvy,hpy⟩:=Ga5 (w:=w) hm hsz hcm (vs:=ys) (off:=acc.length) (by omega)
      have heq:=Mah P w d f.type m hcm hm _ _ _ _ r1 vx vy ((hx.drop _).take _) ((hy.drop _).take _) (by simp only[Tbc,Tbx];omega)
       (by simp only[Tbc,Tbx];omega) hvx hvy h2 n (by omega)
      have hname' : f.name ≠ "_" := by simpa using hname
      rw[Op.eqFields]
      simp only[if_pos hname',Sem.run_bind,hoff,hpx,hpy,heq,Result.andThen_ok]
      cases r1 with
      | false =>
       obtain rfl:=h4 rfl
       simp
      | true =>
       have:=ih (acc++m) b (fun f' hf'=>hok f' (Tba _ hf')) hfold' (by
        rw[List.length_append,<- List.drop_drop,hdl]
        simpa using h3 rfl)
       simpa using this
    exact key gs [] b (fun f hf'=>by
     have:=hall f hf'
     exact⟨this.1.1,this.1.2,this.2⟩) hf (by simpa using he)
   all_goals exact hsingle (by intro fs e;rw[hu]at e;cases e) (by simp[flat,hu])
theorem Ma7:∀ {ls:List aZ} {xs:List aO} {vs:List Value},atoms ls=some xs->aK σ ρ G w ls vs->Scs vs (xs.map (·.val ρ))/\xs.length=ls.length
 | [], xs, vs, h, hl => by
  simp only[atoms,Option.some.injEq]at h
  simp only[aK]at hl
  subst h hl
  exact⟨⟨rfl,by simp⟩,rfl⟩
 | l :: ls, xs, vs, h, hl => by
  cases l<;>simp only[atoms]at h<;>first|(cases h;done)|skip
  simp only[Tbd]at h
  obtain⟨ys,h1,rfl⟩:=h
  simp only[aK]at hl
  obtain⟨u,us,rfl,h2,h3⟩:=hl
  obtain⟨⟨h4,h5⟩,h6⟩:=Ma7 h1 h3
  refine⟨⟨by simpa using h4,fun i v d hv hd=>?_⟩,by simp[h6]⟩
  cases i with
  | zero =>
   simp only[Sb8,Tbn,Option.some.injEq]at hv hd
   subst hv hd
   simpa[aD] using h2
  | succ i =>
   simp only[Tbn,Tb9]at hv hd
   exact h5 i v d hv hd
theorem Ka4 (hR:R E.ntmps F σ ρ a w G)(hd:iJ E.ntmps o){nv:Nat}{p:aN}{xs:List aO}{neg:Bool}{op:BinOp}{t ty:TypeId}{x y:Operand}
  (ho:o.op=.binOp op t x y ty) (hop:op=if neg then .neq else .eql) {res:dG}
  (h:(RdM.ret ⟨[.prim p xs 1]++(bif neg then [.prim .not [.v nv] 1] else []),match o.dst with|some d=>[(kT d,aW.slot none (mkS g (.v (bif neg then nv+1 else nv))))]|none=>[]⟩:RdM dG).eval σ=some res)
  (hs:aR cf ρ g nv res.lets)
  (hv:gOn ρ g=true->∀ d,p.run (xs.map (·.val ρ))=some [d]->∃ b,d=.bool b/\(eqGuard op t x y (a.eval x) (a.eval y)).run P w=.ok () w /\
   (binOp op t (a.eval x) (a.eval y)).run P w=.ok (.bool (if neg then !b else b)) w):jR P E F σ ρ a w g o Q res.upd:=by
 simp only[aH,Option.some.injEq]at h
 subst h
 simp only[Jak]
 cases neg with
 | false =>
  simp only[cond_false,Tbb]at hs ⊢
  refine⟨fun hg=>?_,fun hg=>Mb1 hR hd hg (Kax hs hg)⟩
  obtain⟨d,h1,h2⟩:=jD hs hg
  obtain⟨b,rfl,h3,h4⟩:=hv hg d h1
  refine Pa1 hR hd hg (v:=.bool b) ?_ (by rw[h2];exact .bool _)
  unfold execOp
  simp only[ho]
  refine iZ ?_
  rw[Sem.run_bind,h3]
  exact h4
 | true =>
  simp only[cond_true]at hs ⊢
  have hs1:aR cf ρ g nv [.prim p xs 1]:=⟨hs.1,trivial⟩
  have hs2:aR cf ρ g (nv+1) [.prim .not [.v nv] 1]:=⟨hs.2.1,trivial⟩
  refine⟨fun hg=>?_,fun hg=>Mb1 hR hd hg (Kax hs2 hg)⟩
  obtain⟨d,h1,h2⟩:=jD hs1 hg
  obtain⟨e,h5,h6⟩:=jD hs2 hg
  obtain⟨b,rfl,h3,h4⟩:=hv hg d h1
  simp only[Tbn,Tbw,h2,aN.run,Option.some.injEq,List.cons.injEq,and_true]at h5
  subst h5
  refine Pa1 hR hd hg (v:=.bool (!b)) ?_ (by rw[h6];exact .bool _)
  unfold execOp
  simp only[ho]
  refine iZ ?_
  rw[Sem.run_bind,h3]
  exact h4
theorem Faz {neg:Bool}{op:BinOp}(hop:op=if neg then .neq else .eql){t:TypeId}{x y:Value}{b:Bool}(h:(Op.equal t x y).run P w=.ok b w)
  (hx:∀ k n,x≠.int k n) (hs:∀ s,x≠.string s) (hf:∀ k b,x≠.float k b) (hc:∀ k r i,x≠.complex k r i):(binOp op t x y).run P w=.ok (.bool (if neg then !b else b)) w:=by
 cases neg with
 | false =>
  simp only[Sbv,if_false]at hop
  subst hop
  unfold binOp
  cases x<;>first
   |exact absurd rfl (hx _ _)
   |exact absurd rfl (hs _)
   |exact absurd rfl (hf _ _)
   |exact absurd rfl (hc _ _ _)
   |(cases y<;>simp[h])
 | true =>
  simp only[if_true]at hop
  subst hop
  unfold binOp
  cases x<;>first
   |exact absurd rfl (hx _ _)
   |exact absurd rfl (hs _)
   |exact absurd rfl (hf _ _)
   |exact absurd rfl (hc _ _ _)
   |(cases y<;>simp[h])
theorem tX {op:BinOp}{t:TypeId}{x y:Operand}{u v:Value}(h1:u≠.nilIface)(h2:(∀ c,u≠.agg c)\/P.eqGuardType P.depth t=false):(eqGuard op t x y u v).run P w=.ok () w:=by
 unfold eqGuard
 rcases h2 with h2|h2
 ·cases op<;>cases u<;>cases v<;>first|rfl|exact absurd rfl h1|exact absurd rfl (h2 _)
 ·cases op<;>cases u<;>cases v<;>first|rfl|exact absurd rfl h1|simp[h2]
theorem Ibo {t:TypeId}{i:TI}{info:TypeInfo}{u:TypeDesc}(f:dW P t i info u)(h:i.isBool=true):u=.bool:=by
 have:Wa9 u=true:=by rw[<- h,f.eq];rfl
 unfold Wa9 at this
 split at this
 ·rfl
 ·cases this
theorem Mby {t:TypeId}{i:TI}{info:TypeInfo}{u:TypeDesc}(f:dW P t i info u)(h:i.isPtr=true):∃ e,u=.pointer e:=by
 have:Eb2 u=true:=by rw[<- h,f.eq];rfl
 unfold Eb2 at this
 split at this
 ·exact⟨_,rfl⟩
 ·cases this
theorem Ebh {neg:Bool}{op:BinOp}(h:op=if neg then .neq else .eql):(bif neg then BinOp.neq else .eql)=op:=by cases neg<;>simp[h]
theorem Pa2 {t:TypeId}{ti:TI}{info:TypeInfo}{u:TypeDesc}(f:dW P t ti info u)(hcmp:ti.cmp=true){xs ys:List Value}{dx dy:List D}{b:Bool}(hx:Scs xs dx)(hy:Scs ys dy)
  (hlx:xs.length=ti.size) (hly:ys.length=ti.size) (h:Vaz (ti.cells.map Jaf) dx dy=some b) :
  (Op.equal t (.agg xs.toArray) (.agg ys.toArray)).run P w=.ok b w/\P.eqGuardType P.depth t=false:=by
 have hc:ti.cmp=(Na0 u&&Ral P 12 t&&!(P.eqGuardType P.depth t)):=by rw[f.eq];rfl
 rw[hc]at hcmp
 simp only[Sbu,Tbm]at hcmp
 obtain⟨⟨hagg,hok⟩,hguard⟩:=hcmp
 have hfl:=f.cells
 simp only[Tbd]at hfl
 obtain⟨l,hl1,hl2⟩:=hfl
 have hlen:=f.len
 rw[<- hl2]at hlen h
 simp only[Sb5]at hlen
 rw[List.map_map]at h
 have hst:∃ fs,u=.struct fs:=by
  have hu:=f.und
  simp only[Ral,hu]at hok
  cases u<;>first|(cases hagg;done)|(cases hok;done)|exact⟨_,rfl⟩
 obtain⟨fs,rfl⟩:=hst
 refine⟨?_,hguard⟩
 exact Mah P w 12 t l hok hl1 xs ys dx dy b _ _ hx hy (by omega) (by omega) (by unfold wK;rw[f.und]) (by unfold wK;rw[f.und]) h 10000 (by omega)
theorem Fbn {t:TypeId}(hu:P.underlying t=some .bool)(b c:Bool)(n:Nat):(Op.equalIn (n+1) t (.bool b) (.bool c)).run P w=.ok (b==c) w:=by
 simp[Op.equalIn,run_underlying hu]
theorem Hb8 {t e:TypeId}(hu:P.underlying t=some (.slice e))(x y p q:Nat)(n:Nat):(Op.equalIn (n+1) t (.slice none x y) (.slice none p q)).run P w=.ok true w:=by
 simp[Op.equalIn,run_underlying hu]
theorem Fbm {t e:TypeId}(hu:P.underlying t=some (.slice e))(a:Addr)(x y p q:Nat)(n:Nat):(Op.equalIn (n+1) t (.slice (some a) x y) (.slice none p q)).run P w=.ok false w:=by
 simp[Op.equalIn,run_underlying hu]
theorem Hb7 {t e:TypeId}(hu:P.underlying t=some (.pointer e))(A:Option Addr)(n:Nat):(Op.equalIn (n+1) t (.pointer A) (.pointer none)).run P w=.ok A.isNone w:=by
 cases A<;>simp[Op.equalIn,run_underlying hu]
theorem Abg (hR:R E.ntmps F σ ρ a w G)(hd:iJ E.ntmps o)(hti:Aaj P E.ti){nv:Nat}{neg:Bool}{op:BinOp}{t ty:TypeId}{x y:Operand}
  (ho:o.op=.binOp op t x y ty) (hop:op=if neg then .neq else .eql) {res:dG}
  (h:(Qbv E nv o g neg t x y).eval σ=some res) (hs:aR cf ρ g nv res.lets):jR P E F σ ρ a w g o Q res.upd:=by
 unfold Qbv at h
 simp only[aC,Sbt]at h
 obtain⟨va,h1,vb,h2,h3⟩:=h
 split at h3
 ·
  rename_i ls ms
  simp only[aC,Sbt,tiR,bF]at h3
  obtain⟨ti,hi,h4⟩:=h3
  obtain⟨info,u,f⟩:=bG (hti.ok _ _ hi)
  split at h4
  ·rename_i xs ys hxs hys
   simp only[aC,Sbt,aP]at h4
   obtain⟨_,h5,h6⟩:=h4
   split at h5
   ·rename_i hb
    simp only[Sbu,Tbv]at hb
    obtain⟨⟨hcmp,hlx⟩,hly⟩:=hb
    refine Ka4 hR hd ho hop h6 hs fun hg d hp=>?_
    obtain⟨vx,ex,hlx'⟩:=jG hR hg h1
    obtain⟨vy,ey,hly'⟩:=jG hR hg h2
    obtain⟨hx1,hx2⟩:=Ma7 hxs hlx'
    obtain⟨hy1,hy2⟩:=Ma7 hys hly'
    have hcl:(ti.cells.map Jaf).length=xs.length:=by rw[Sb5,f.len];omega
    simp only[aN.run,hcl,Tby,Sb5,Tbd,List.cons.injEq,and_true]at hp
    obtain⟨b,hp,rfl⟩:=hp
    rw[List.take_left' (by simp),List.drop_left' (by simp)]at hp
    have hlx2:=hx1.1
    have hly2:=hy1.1
    simp only[Sb5]at hlx2 hly2
    obtain⟨h7,h8⟩:=Pa2 (w:=w) f hcmp hx1 hy1 (by omega) (by omega) hp
    refine⟨b,rfl,?_,?_⟩
    ·rw[ex];exact tX (by simp) (.inr h8)
    ·rw[ex,ey];exact Faz hop h7 (by simp) (by simp) (by simp) (by simp)
   ·cases h5
  ·cases h4
 ·rename_i l m
  simp only[aC,Sbt,tiR,bF]at h3
  obtain⟨ti,hi,h4⟩:=h3
  obtain⟨info,u,f⟩:=bG (hti.ok _ _ hi)
  split at h4
  ·
   rename_i p q hp hq
   rw[jW]at h4
   have hx:gOn ρ g=true->Sc (a.eval x) (p.val ρ):=fun hg=>nE hg hp (jG hR hg h1)
   have hy:gOn ρ g=true->Sc (a.eval y) (q.val ρ):=fun hg=>nE hg hq (jG hR hg h2)
   split at h4
   ·rename_i hbool
    obtain rfl:=Ibo f hbool
    refine eH hR hd h4 hs fun hg d hp'=>?_
    have hx:=hx hg
    have hy:=hy hg
    simp only[Tbn,Tbw]at hp'
    generalize p.val ρ=pv at hx hp'
    generalize q.val ρ=qv at hy hp'
    cases pv<;>cases qv<;>simp only[aN.run]at hp'<;>first|(cases hp';done)|skip
    rename_i b c
    simp only[Option.some.injEq,List.cons.injEq,and_true]at hp'
    subst hp'
    refine⟨.bool (if neg then !(b==c) else b==c),.bool _,?_⟩
    unfold execOp
    simp only[ho,hx.bool_inv,hy.bool_inv]
    refine iZ ?_
    rw[Sem.run_bind,tX (by simp) (.inl (by simp))]
    have he:(Op.equal t (.bool b) (.bool c)).run P w=.ok (b==c) w:=by
     unfold Op.equal Op.maxDepth
     exact Fbn f.und b c 9999
    exact Faz hop he (by simp) (by simp) (by simp) (by simp)
   ·rw[Ebh hop]at h4
    exact Sax hR hd ho hx hy h4 hs
  ·rw[jW]at h4
   split at h4
   ·
    rename_i hnil
    simp only[aC,Sbt,aP]at h4
    obtain⟨_,h5,s,h6,r0,h8,h7⟩:=h4
    split at h5
    ·rename_i hel
     obtain⟨e,rfl⟩:=Maj f hel
     have hcore:aR cf ρ g nv r0.lets->(gOn ρ g=true->∀ z,s.x.val ρ=.rows z []->s.nie=true)->jR P E F σ ρ a w g o Q r0.upd:=by
      intro hs hne
      refine Ka4 hR hd ho hop h8 hs fun hg d hp=>?_
      have hsl:=fV hR h6 (jG hR hg h1)
      simp only[Tbn,Tbw]at hp
      have hrd:=hsl.rd
      have hni:∀ z,s.x.val ρ=.rows z []->a.eval x=.slice none 0 0:=fun z hz=>hsl.nie (hne hg z hz) z hz
      generalize s.x.val ρ=sv at hp hrd hni
      cases sv<;>simp only[aN.run]at hp<;>first|(cases hp;done)|skip
      rename_i sz rs
      simp only[Option.some.injEq,List.cons.injEq,and_true]at hp
      subst hp
      obtain⟨A,b,n,c,vs,e1,e2,e3,e4,-⟩:=hrd.inv
      have hy:∃ n' c',a.eval y=.slice none n' c':=by
       unfold Oa4 at hnil
       split at hnil
       ·rename_i n' c';exact⟨n',c',rfl⟩
       ·cases hnil
      obtain⟨n',c',hy⟩:=hy
      refine⟨rs.isEmpty,rfl,?_,?_⟩
      ·rw[e1];exact tX (by simp) (.inl (by simp))
      ·have he:(Op.equal t (a.eval x) (a.eval y)).run P w=.ok rs.isEmpty w:=by
        unfold Op.equal Op.maxDepth
        cases hrs:rs with
        | nil =>
         rw[hni sz (by rw[hrs]),hy]
         exact Hb8 f.und _ _ _ _ 9999
        | cons r rs' =>
         have:A=some b:=e4.resolve_left (by rw[<- e2,hrs];simp)
         rw[e1,hy,this]
         exact Fbm f.und _ _ _ _ _ 9999
       rw[e1]at he ⊢
       exact Faz hop he (by simp) (by simp) (by simp) (by simp)
     simp only[aH,Option.some.injEq]at h7
     subst h7
     cases hnie:s.nie with
     | true =>
      rw[hnie]at hs
      exact hcore hs fun _ _ _=>hnie
     | false =>
      rw[hnie]at hs
      refine hcore hs.2 fun hg z hz=>?_
      obtain⟨ds,h9,-⟩:=hs.1.1 hg
      simp only[Tbn,Tbw]at h9
      rw[hz]at h9
      simp[aN.run]at h9
    ·cases h5
   ·rw[jW]at h4
    split at h4
    ·
     rename_i hnil
     simp only[aC,Sbt,aP]at h4
     obtain⟨_,h5,h6⟩:=h4
     split at h5
     ·rename_i hpt
      obtain⟨e,rfl⟩:=Mby f hpt
      have hy:a.eval y=.pointer none:=by
       unfold Ab0 at hnil
       split at hnil
       ·rfl
       ·cases hnil
      have heq:∀ A,a.eval x=.pointer A->(Op.equal t (a.eval x) (a.eval y)).run P w=.ok A.isNone w:=by
       intro A hA
       unfold Op.equal Op.maxDepth
       rw[hA,hy]
       exact Hb7 f.und A 9999
      have hrun:∀ A,a.eval x=.pointer A->(eqGuard op t x y (a.eval x) (a.eval y)).run P w=.ok () w/\(binOp op t (a.eval x) (a.eval y)).run P w=.ok (.bool (if neg then !A.isNone else A.isNone)) w:=by
       intro A hA
       refine⟨by rw[hA];exact tX (by simp) (.inl (by simp)),?_⟩
       have:=heq A hA
       rw[hA]at this ⊢
       exact Faz hop this (by simp) (by simp) (by simp) (by simp)
      have hconst:∀ (c:Bool) (nvx:Nat),(yZ o g nv .id [.c (.bool c)]).eval σ=some res->(gOn ρ g=true->∃ A,a.eval x=.pointer A/\c=(if neg then !A.isNone else A.isNone))->jR P E F σ ρ a w g o Q res.upd:=by
       intro c _ h7 hc
       refine eH hR hd h7 hs fun hg d hp=>?_
       simp only[Tbn,Tbw,aO.val,aN.run,Option.some.injEq,List.cons.injEq,and_true]at hp
       subst hp
       obtain⟨A,hA,rfl⟩:=hc hg
       refine⟨_,.bool _,?_⟩
       unfold execOp
       simp only[ho]
       refine iZ ?_
       rw[Sem.run_bind,(hrun A hA).1]
       exact (hrun A hA).2
      split at h6
      ·rename_i deps sz z
       simp only[aC,Sbt]at h6
       obtain⟨ds,h7,h8⟩:=h6
       refine Ka4 hR hd ho hop h8 hs fun hg d hp=>?_
       have hl:=jG hR hg h1
       simp only[eB,aD]at hl
       simp only[Tbn,Tbw]at hp
       rcases hl.2 (lN h7).1 with ⟨e1,z',e2⟩|⟨b,row,e1,e2,-⟩
       ·rw[e2]at hp
        simp only[aN.run,List.isEmpty_nil,Option.some.injEq,List.cons.injEq,and_true]at hp
        exact⟨true,hp.symm,hrun none e1⟩
       ·rw[e2]at hp
        simp only[aN.run,List.isEmpty_cons,Option.some.injEq,List.cons.injEq,and_true]at hp
        exact⟨false,hp.symm,hrun (some b) e1⟩
      ·refine hconst _ 0 h6 fun hg=>?_
       have hl:=jG hR hg h1
       simp only[eB,aD]at hl
       exact⟨none,hl,by cases neg<;>rfl⟩
      ·refine hconst _ 0 h6 fun hg=>?_
       have hl:=jG hR hg h1
       simp only[eB,aD]at hl
       exact⟨_,hl.1,by cases neg<;>rfl⟩
      ·refine hconst _ 0 h6 fun hg=>?_
       have hl:=jG hR hg h1
       simp only[eB,aD]at hl
       obtain⟨_,_,_,_,_,_,_,_,_,e⟩:=hl
       exact⟨_,e,by cases neg<;>rfl⟩
      ·cases h6
     ·cases h5
    ·cases h4
 ·cases h3
end
end Go.Proofs.YtpgnlmfmlffjcaaGreat.Rf

namespace Go.Proofs.YtpgnlmfmlffjcaaGreat.Rf
set_option linter.unusedVariables false
set_option linter.unusedSimpArgs false
section
variable {P:Program} {E:Env} {F:cB} {σ:Nat->Option aW} {ρ:List D} {a:Act} {w w':World} {G:Gh} {g:Option (aO×Bool)} {o:Oper} {cf:Nat->List D->Option (List D)} {Q:Exit->Act->World->Prop} {next:Act->World->Prop}
theorem oD {t:TypeId}{i:TI}{info:TypeInfo}{u:TypeDesc}(f:dW P t i info u)(b:Addr)(cs:List Value)(hl:cs.length=i.size)
  (h:∀ j v,cs[j]?=some v->w.cell? (b.add j)=some v) {v:Value} (hv:if i.agg=true then v=.agg cs.toArray else cs=[v]):(loadVar t b).run P w=.ok v w:=by
 unfold loadVar
 rw[Sem.run_bind,f.isAgg]
 simp only[Result.andThen_ok]
 split at hv
 ·rename_i hagg
  rw[if_pos hagg,Sem.run_bind,f.sizeOf]
  simp only[Result.andThen_ok]
  rw[Sem.run_bind,<- hl,run_loadCells_list w b cs h]
  simp only[Result.andThen_ok,Sem.run_pure,hv]
 ·rename_i hagg
  rw[if_neg hagg,run_load]
  have:=h 0 v (by rw[hv];rfl)
  simp only[Addr.add,if_true]at this
  rw[this]
theorem pW (b:Addr):∀ (ls:List aZ) (k:Nat),(∀ j l,ls[j]?=some l->∃ v,w.cell? (b.add (k+j))=some v/\aD σ ρ G w l v) ->
  ∃ vs,aK σ ρ G w ls vs/\∀ j v,vs[j]?=some v->w.cell? (b.add (k+j))=some v
 |[],k,_=>⟨[],by simp[aK],by simp⟩
 | l :: ls, k, h => by
  obtain⟨u,h1,h2⟩:=h 0 l rfl
  obtain⟨us,h3,h4⟩:=pW b ls (k+1) fun j l' hj=>by
   have:=h (j+1) l' (by simpa using hj)
   rwa[show k+1+j=k+(j+1) by omega]
  refine⟨u::us,by simp only[aK];exact⟨u,us,rfl,h2,h3⟩,fun j v hj=>?_⟩
  cases j with
  | zero =>
   simp only[Sb8,Option.some.injEq]at hj
   exact hj▸h1
  | succ j =>
   have:=h4 j v (by simpa using hj)
   rwa[show k+(j+1)=k+1+j by omega]
theorem Eas.snoc {own:Nat->Ow}{r k:Nat}{c:Addr}{n m:Nat}{u':Value}:∀ (p q:List Nat) (v:Value),Eas own w r q v p (.slice (some c) n m)->own c.block=.slc r (q++p)->w.cell? (c.add k)=some u'->Eas own w r q v (p++[k]) u'
 | [], q, v, h, ho, hc => by
  simp only[Eas]at h
  simp only[List.nil_append,Eas]
  exact⟨c,n,m,u',h.symm,by simpa using ho,hc,rfl⟩
 | j :: p, q, v, h, ho, hc => by
  obtain⟨a',n',c',u1,rfl,h1,h2,h3⟩:=h
  simp only[Ub3,Eas]
  exact⟨a',n',c',u1,rfl,h1,h2,Eas.snoc p (q++[j]) u1 h3 (by simpa using ho) hc⟩
theorem Rd.sc_inv {ok:Nat->Prop}{v:Value}{d:D}(h:Rd ok w v d)(hd:d.isSc=true):Sc v d:=by
 cases h with
 |sc h=>exact h
 |hole=>simp[D.isSc]at hd
 |rows=>simp[D.isSc]at hd
theorem Rp.zero {own:Nat->Ow}{r:Nat}{p:List Nat}{v:Value}{d:D}(h:Rp own w r p 0 v d):Rd (fun b=>own b=.frz) w v d:=by
 generalize hm:0=m at h
 cases h with
 |sc h=>exact .sc h
 |hole _ h1=>exact .hole _ h1
 |fz h=>exact h
 |sl=>omega
theorem Fb7 {s:SlR}{c:Addr}{n cap:Nat}(h:Cb2 σ ρ G w s (.slice (some c) n cap)){sz:Nat}{rs:List (List D)}(hx:s.x.val ρ=.rows sz rs){i:aO}{k:IntKind}{iv:Int}(hi:i.val ρ=.int k iv)
  {row:List D} (hr:rs[iv.toNat]?=some row) {off:Nat} {d:D} (hd:row[off]?=some d) (ck:CK) (hk:Mb7 ck=true->d.isSc=true) {y:aO} (hy:y.val ρ=d) :
  ∃ v,w.cell? (c.add (iv.toNat*sz+off))=some v/\aD σ ρ G w (mV s i sz off ck y) v:=by
 have hrd:=h.rd
 rw[hx]at hrd
 obtain⟨A,c',n',cap',vs,e1,e2,e3,e4,e5,e6,e7⟩:=hrd.inv
 obtain⟨rfl,rfl,rfl⟩:some c=A/\n=n'/\cap=cap':=by injection e1 with a b c;exact⟨a,b,c⟩
 have hlt:iv.toNat<rs.length:=by
  rcases Tbi iv.toNat rs.length with h|h
  ·exact h
  ·rw[Ubk h]at hr;cases hr
 have hc:c=c':=by
  rcases e4 with e4|e4
  ·omega
  ·exact Option.some.inj e4
 subst hc
 obtain⟨-,hcell⟩:=e6 _ _ hr _ _ hd
 have hrec:=e7 _ _ hr _ _ hd
 refine⟨_,hcell,?_⟩
 cases ck with
 | sc z =>
  simp only[mV,aD]
  rw[hy]
  exact hrec.sc_inv (hk rfl)
 |pn=>simpa only[mV,aD] using hrec.one
 |ot=>simpa only[mV,aD] using hrec.one
 | sl z =>
  have hex:∀ z∈s.deps,nS σ z.1 z.2:=fun z hz=>by
   obtain⟨m,hl⟩:=h.live z hz
   exact hl.valid.known
  have hdef:aD σ ρ G w (.sn s.deps .no false y) (vs iv.toNat off):=by
   simp only[aD]
   exact⟨⟨hrec.one,hex⟩,fun _=>⟨by rw[hy];exact hrec,by simp,trivial⟩⟩
  simp only[mV]
  have hown:=h.own
  unfold Aak at hown
  split
  ·rename_i r k' m p ho
   rw[ho]at hown
   obtain⟨h1,h2,h3,h4,h5⟩:=hown
   rw[hx]at h4
   cases hm:m-p.length with
   | zero =>
    have:Nat.ble (p.length+2) m=false:=by
     cases hb:Nat.ble (p.length+2) m with
     |false=>rfl
     |true=>simp only[Ubf]at hb;omega
    rw[this,cond_false]
    rw[hm]at h4
    obtain⟨A',c'',n'',cap'',vs',e1',e2',e3',e4',e5',e6',e7'⟩:=h4.zero.inv
    obtain⟨rfl,rfl,rfl⟩:some c=A'/\n=n''/\cap=cap'':=by injection e1' with a b c;exact⟨a,b,c⟩
    have hc:c=c'':=by
     rcases e4' with e4'|e4'
     ·omega
     ·exact Option.some.inj e4'
    subst hc
    obtain⟨-,hcell'⟩:=e6' _ _ hr _ _ hd
    rw[hcell]at hcell'
    simp only[aD]
    refine⟨⟨hrec.one,by simp⟩,fun _=>⟨?_,by simp,trivial⟩⟩
    rw[hy,Option.some.inj hcell']
    exact (e7' _ _ hr _ _ hd).mono fun b hb=>⟨.inl hb,rfl⟩
   | succ m' =>
    rw[hm]at h4
    cases h4 with
    |sc h=>cases h
    | sl A' c'' n'' cap'' _ _ vs' e2' e3' e4' e5' e6' e7' e8' =>
     have hc:c=c'':=by
      rcases e4' with e4'|⟨e4',-⟩
      ·exact Option.some.inj e4'
      ·cases e4'
     subst hc
     obtain⟨-,hob,-⟩:=e6' rfl
     have hcell':=e7' _ _ hr _ _ hd
     have hrec':=e8' _ _ hr _ _ hd
     rw[hcell]at hcell'
     rw[<- Option.some.inj hcell']at hrec'
     cases hb:Nat.ble (p.length+2) m with
     | false =>
      rw[cond_false]
      have:m'=0:=by
       have:¬ p.length+2<=m:=by rw[<- Ubf,hb];simp
       omega
      subst this
      simp only[aD]
      refine⟨⟨hrec.one,by simp⟩,fun _=>⟨?_,by simp,trivial⟩⟩
      rw[hy]
      exact hrec'.zero.mono fun b hb=>⟨.inl hb,rfl⟩
     | true =>
      rw[cond_true]
      simp only[Ubf]at hb
      have hpv:bM ρ (p++[(i,sz,off)])=bM ρ p++[iv.toNat*sz+off]:=by
       simp[bM,pF,hi]
      simp only[aD]
      refine⟨⟨hrec.one,fun z hz=>?_⟩,fun _=>⟨?_,by simp,?_⟩⟩
      ·simp only[Sb9]at hz
       subst hz
       exact h2.valid.known
      ·rw[hy]
       rw[h1]at hrec
       exact hrec
      ·simp only[Nab]
       intro r2 k2 m2 e2 hl2
       obtain⟨rfl,rfl⟩:r=r2/\k'=k2:=by simpa using e2
       obtain⟨x1,ex1⟩:=h2
       obtain⟨x2,ex2⟩:=hl2
       rw[ex1]at ex2
       obtain rfl:m=m2:=by injection ex2 with ex2;injection ex2
       refine⟨by simp;omega,?_,?_⟩
       ·rw[hpv,hy,show m-(p++[(i,sz,off)]).length=m' by simp;omega]
        exact hrec'
       ·rw[hpv]
        exact h5.snoc _ _ _ (by simpa using hob) hcell
  ·exact hdef
theorem Lao:∀ {ks:List Bool} {ds:List D},Ha2 ks ds=true->∀ (j:Nat) (d:D),ks[j]?=some true->ds[j]?=some d->d.isSc=true
 |[],ds,_,j,d,hk,_=>by simp at hk
 |k::ks,[],h,j,d,hk,hd=>by simp at hd
 | k :: ks, e :: ds, h, j, d, hk, hd => by
  simp only[Ha2,Sbu,Uba,Tbm]at h
  cases j with
  | zero =>
   simp only[Sb8,Option.some.injEq]at hk hd
   subst hk hd
   simpa using h.1
  |succ j=>exact Lao h.2 j d (by simpa using hk) (by simpa using hd)
theorem Hao {t:TypeId}{b:Addr}{v:Value}(h:(loadVar t b).run P w=.ok v w):(Instr.loadAt t (.pointer (some b))).run P w=.ok v w:=by
 simp only[Instr.loadAt,Instr.sureAddr,Sem.run_bind,Sem.run_pure,Result.andThen_ok,h]
theorem Baz (s:SlR)(i:aO)(sz:Nat):∀ (cs:List CK) (off y j:Nat) (l:aZ),(gY s i sz off cs y)[j]?=some l->∃ c,cs[j]?=some c/\l=mV s i sz (off+j) c (.v (y+j))
 |[],off,y,j,l,h=>by simp[gY]at h
 | c :: cs, off, y, j, l, h => by
  simp only[gY]at h
  cases j with
  | zero =>
   simp only[Sb8,Option.some.injEq]at h
   exact⟨c,rfl,h.symm⟩
  | succ j =>
   obtain⟨c',h1,h2⟩:=Baz s i sz cs (off+1) (y+1) j l (by simpa using h)
   exact⟨c',by simpa using h1,by rw[h2];congr 1<;>first|omega|(congr 1;omega)⟩
theorem Bay (s:SlR)(i:aO)(sz:Nat):∀ (cs:List CK) (off y:Nat),(gY s i sz off cs y).length=cs.length
 |[],_,_=>rfl
 |c::cs,off,y=>by simp[gY,Bay s i sz cs (off+1) (y+1)]
theorem Hal {agg:Bool}{ls:List aZ}{sv:SV}(h:Abd agg ls=some sv){vs:List Value}(hl:vs.length=ls.length):∃ v,if agg=true then v=.agg vs.toArray else vs=[v]:=by
 cases agg with
 |true=>exact⟨_,rfl⟩
 | false =>
  simp only[Abd,cond_false]at h
  split at h
  ·match vs,hl with
   |[v],_=>exact⟨v,rfl⟩
  ·cases h
theorem Db0 {sz off:Nat}{ks:List Bool}{x i:D}{ds:List D}(h:(aN.row sz off ks).run [x,i]=some ds) :
  ∃ rs k iv row,x=.rows sz rs/\i=.int k iv/\0<=iv/\rs[iv.toNat]?=some row/\off+ks.length<=row.length/\Ha2 ks (row.drop off)=true/\ds=(row.drop off).take ks.length:=by
 cases x<;>cases i<;>simp only[aN.run]at h<;>first|cases h|skip
 rename_i sz' rs k iv
 split at h
 ·rename_i h1
  obtain⟨rfl,h1⟩:=h1
  split at h
  ·rename_i row hr
   split at h
   ·rename_i h2
    simp only[Option.some.injEq]at h
    exact⟨rs,k,iv,row,rfl,rfl,h1,hr,h2.1,h2.2,h.symm⟩
   ·cases h
  ·cases h
 ·cases h
theorem Bb4 (hR:R E.ntmps F σ ρ a w G)(hd:iJ E.ntmps o)(hti:Aaj P E.ti){nv:Nat}{t:TypeId}{x:Operand}(ho:o.op=.load t x){ti:TI}
  (hi:E.ti t=some ti) {p:aZ} (hp:gOn ρ g=true->aD σ ρ G w p (a.eval x)) {res:dG}
  (h:(Abb nv o g ti p).eval σ=some res) (hs:aR cf ρ g nv res.lets):jR P E F σ ρ a w g o Q res.upd:=by
 obtain⟨info,u,f⟩:=bG (hti.ok _ _ hi)
 have hex:∀ {v:Value},(Instr.loadAt t (a.eval x)).run P w=.ok v w->(execOp a.eval o).run P w=.ok (.value v) w:=by
  intro v hv
  unfold execOp
  simp only[ho]
  exact iZ hv
 unfold Abb at h
 split at h
 ·rename_i b off
  simp only[aC,aX,Sb6]at h
  split at h
  ·rename_i ro bs hk
   simp only[aC,Sbt,aP]at h
   obtain⟨_,hgd,h⟩:=h
   split at hgd
   ·rename_i hle
    simp only[Ubf]at hle
    split at h
    ·rename_i sv hsv
     refine Cad hR hd h hs fun hg=>?_
     have hl:=hp hg
     simp only[aD]at hl
     obtain⟨h1,h2,h3⟩:=hR.box hk
     obtain⟨vs,h4,h5⟩:=pW (σ:=σ) (ρ:=ρ) (G:=G) (w:=w) ((G.bx b).add off) ((bs.drop off).take ti.size) 0 fun j l hj=>by
      rw[Ubg]at hj
      split at hj
      ·rw[Tb5]at hj
       obtain⟨v,h6,-,h7⟩:=h3 _ _ hj
       refine⟨v,?_,h7⟩
       rw[Tbt,add_add]
       exact h6
      ·cases hj
     have hlen:vs.length=ti.size:=by
      rw[h4.len]
      simp
      omega
     obtain⟨v,hv⟩:=Hal hsv h4.len
     refine⟨v,yO hsv h4 hv,hex ?_⟩
     rw[hl.1]
     exact Hao (oD f _ vs hlen (fun j v hj=>by simpa using h5 j v hj) hv)
    ·cases h
   ·cases hgd
  ·cases h
 ·rename_i l sz i off
  simp only[aC,Sbt]at h
  obtain⟨s,hsl,h⟩:=h
  have main:∀ (ks:List Bool) (ds:List D),(∀ (j:Nat) (c:CK),ti.cells[j]?=some c->Mb7 c=true->ks[j]?=some true)->ks.length=ti.cells.length->gOn ρ g=true ->
    (aN.row sz off ks).run [s.x.val ρ,i.val ρ]=some ds->(∀ j d,ds[j]?=some d->(aO.v (nv+j)).val ρ=d) ->
    ∃ vs,aK σ ρ G w (gY s i sz off ti.cells nv) vs/\vs.length=ti.size/\∃ b,a.eval x=.pointer (some b)/\∀ j v,vs[j]?=some v->w.cell? (b.add j)=some v:=by
   intro ks ds hks hkl hg hrun hat
   have hl:=hp hg
   simp only[aD]at hl
   obtain⟨b,n,c,k,iv,h1,h2,h3,h4,h5⟩:=hl
   have hslr:=fV hR hsl h1
   obtain⟨rs,k',iv',row,e1,e2,e3,e4,e5,e6,rfl⟩:=Db0 hrun
   rw[h2]at e2
   obtain⟨rfl,rfl⟩:k=k'/\iv=iv':=by injection e2 with a b;exact⟨a,b⟩
   obtain⟨vs,h6,h7⟩:=pW (σ:=σ) (ρ:=ρ) (G:=G) (w:=w) (b.add (iv.toNat*sz+off)) (gY s i sz off ti.cells nv) 0 fun j l' hj=>by
    obtain⟨c',hc',rfl⟩:=Baz _ _ _ _ _ _ _ _ hj
    have hjl:j<ti.cells.length:=(List.getElem?_eq_some_iff.1 hc').1
    have hrow:row[off+j]?=some row[off+j]:=Sb0 (by omega)
    obtain⟨v,hv1,hv2⟩:=Fb7 hslr e1 h2 e4 (off:=off+j) (d:=row[off+j]) hrow c' (fun hsc=>Lao e6 j _ (hks j c' hc' hsc) (by rw[Tb5];exact hrow)) (y:=.v (nv+j))
     (hat j _ (by rw[Ubg,if_pos (by omega),Tb5];exact hrow))
    refine⟨v,?_,hv2⟩
    rw[add_add,Tbt,Tbl]
    exact hv1
   exact⟨vs,h6,by rw[h6.len,Bay,f.len],_,h5,fun j v hj=>by simpa using h7 j v hj⟩
  split at h
  ·rename_i x' hsv
   have hx':x'=.v nv/\ti.agg=false/\∃ z,ti.cells=[.sc z]:=by
    unfold Abd at hsv
    cases hagg:ti.agg with
    |true=>rw[hagg]at hsv;simp at hsv
    | false =>
     rw[hagg]at hsv
     simp only[cond_false]at hsv
     cases hc:ti.cells with
     |nil=>rw[hc]at hsv;simp[gY]at hsv
     | cons c cs =>
      cases cs with
      | nil =>
       rw[hc]at hsv
       simp only[gY,Option.some.injEq,SV.one.injEq]at hsv
       cases c with
       |sc z=>simp only[mV,aZ.sc.injEq]at hsv;exact⟨hsv.symm,rfl,z,rfl⟩
       | sl z =>
        simp only[mV]at hsv
        split at hsv
        ·cases hb:Nat.ble _ _<;>(rw[hb]at hsv;cases hsv)
        ·cases hsv
       |pn=>simp[mV]at hsv
       |ot=>simp[mV]at hsv
      |cons c' cs'=>rw[hc]at hsv;simp[gY]at hsv
   obtain⟨rfl,hagg,z,hcs⟩:=hx'
   have hst:aR cf ρ g nv [.prim (.row sz off [true]) [s.x,i] 1]:=by
    simp only[yZ,aH,Option.some.injEq]at h
    subst h
    exact hs
   refine eH hR hd h hs fun hg d hpr=>?_
   obtain⟨d',h1,h2⟩:=jD hst hg
   simp only[Tbn,Tbw]at hpr h1
   obtain⟨vs,h3,h4,b,h5,h6⟩:=main [true] [d'] (fun j c hc _=>by
    rw[hcs]at hc
    cases j with
    |zero=>rfl
    | succ j => simp at hc) (by rw [hcs]; rfl) hg h1 (fun j d hj => by
     cases j with
     |zero=>simp only[Sb8,Option.some.injEq]at hj;rw[<- hj];exact h2
     |succ j=>simp at hj)
   obtain⟨v,hv⟩:=Hal hsv h3.len
   have h7:=yO hsv h3 hv
   simp only[eB,aD]at h7
   refine⟨v,?_,hex ?_⟩
   ·rw[h2]at h7
    rw[h1]at hpr
    simp only[Option.some.injEq,List.cons.injEq,and_true]at hpr
    exact hpr▸h7
   ·rw[h5]
    exact Hao (oD f b vs h4 h6 hv)
  ·rename_i sv _ hsv
   refine fC hR hd h hs fun hg hst=>?_
   obtain⟨ds,h1,h2,h3⟩:=step1 hst hg
   simp only[Tbn,Tbw]at h1
   obtain⟨vs,h4,h5,b,h6,h7⟩:=main _ ds (fun j c hc hsc=>by rw[Tbo,hc];simp[hsc]) (by simp) hg h1 h3
   obtain⟨v,hv⟩:=Hal hsv h4.len
   refine⟨v,yO hsv h4 hv,hex ?_⟩
   rw[h6]
   exact Hao (oD f b vs h5 h7 hv)
  ·cases h
 ·cases h
end
end Go.Proofs.YtpgnlmfmlffjcaaGreat.Rf

namespace Go.Proofs.YtpgnlmfmlffjcaaGreat.Rf
set_option linter.unusedVariables false
set_option linter.unusedSimpArgs false
section
variable {P:Program} {E:Env} {F:cB} {σ:Nat->Option aW} {ρ:List D} {a:Act} {w w':World} {G:Gh} {g:Option (aO×Bool)} {o:Oper} {cf:Nat->List D->Option (List D)} {Q:Exit->Act->World->Prop} {next:Act->World->Prop}
theorem Ma2:∀ {rs:List (List D)} {l:List UInt8},bytesOf rs=some l->∃ ns:List Int,rs=ns.map (fun n=>[D.int .u8 n])/\l=ns.map fun n=>UInt8.ofNat n.toNat
 | [], l, h => by
  simp only[bytesOf,Option.some.injEq]at h
  exact⟨[],rfl,h.symm⟩
 | r :: rs, l, h => by
  unfold bytesOf at h
  split at h
  ·rename_i hh;cases hh
  ·rename_i n r' hh
   obtain⟨rfl,rfl⟩:=List.cons.inj hh
   simp only[Tbd]at h
   obtain⟨l',h1,rfl⟩:=h
   obtain⟨ns,rfl,rfl⟩:=Ma2 h1
   exact⟨n::ns,rfl,rfl⟩
  ·cases h
theorem Bb6 (hR:R E.ntmps F σ ρ a w G)(hd:iJ E.ntmps o)(hti:Aaj P E.ti){nv:Nat}{src dst:TypeId}{x:Operand}(ho:o.op=.convert src dst x){res:dG}{s d ei:TI}{e:Nat}
  (hs1:E.ti src=some s) (he:s.elem=some e) (hei:E.ti e=some ei) (hk:Rbo ei.ik=true) (hd1:E.ti dst=some d) (hdS:d.isStr=true)
  {l:aZ} {r:SlR} (h1:(rdL E g src x).eval σ=some l) (h2:(Caf l).eval σ=some r)
  (h:(yZ o g nv .bstr [r.x]).eval σ=some res) (hs:aR cf ρ g nv res.lets):jR P E F σ ρ a w g o Q res.upd:=by
 refine eH hR hd h hs fun hg z hp=>?_
 obtain⟨i1,u1,f1⟩:=bG (hti.ok _ _ hs1)
 obtain⟨i2,u2,f2⟩:=bG (hti.ok _ _ hd1)
 obtain⟨i3,u3,f3⟩:=bG (hti.ok _ _ hei)
 obtain rfl:=wF f1 he
 obtain rfl:=Ham f2 hdS
 have e3:u3=.int .u8:=by
  unfold Rbo at hk
  split at hk
  ·rename_i k hk'
   simp only[Qbz,decide_eq_true_eq]at hk
   have:=f3.ik.symm.trans hk'
   unfold Qby at this
   split at this
   ·rw[Option.some.inj this,hk]
   ·cases this
  ·cases hk
 subst e3
 have hl:=(fV hR h2 (iP hR hg h1)).rd
 simp only[Tbn,Tbw]at hp
 generalize r.x.val ρ=xv at hp hl
 cases xv<;>simp only[aN.run]at hp<;>first|cases hp|skip
 rename_i sz rs
 simp only[Tbd,List.cons.injEq,and_true]at hp
 obtain⟨bs,hb,rfl⟩:=hp
 obtain⟨ns,rfl,rfl⟩:=Ma2 hb
 obtain⟨A,b,n,c,vs,e1,e2,e3,e4,e5,e6,e7⟩:=hl.inv
 refine⟨_,.str _,?_⟩
 unfold execOp
 simp only[ho]
 refine iZ ?_
 rw[e1,run_convert_bytes_string w src dst e A n c f1.und f3.und f2.und]
 cases A with
 | none =>
  have:n=0:=by
   rcases e4 with e4|e4
   ·exact e4
   ·cases e4
  subst this
  simp only[Sb5]at e2
  obtain rfl:=Ubh e2
  simp[Conv.bytesToString]
  rfl
 | some b' =>
  have hload:(loadCells b' n).run P w=.ok (ns.map (Value.int .u8)).toArray w:=by
   simp only[Sb5]at e2
   have:=run_loadCells_list (P:=P) w b' (ns.map (Value.int .u8)) (fun j v hj=>by
    simp only[Tbo,Tbd]at hj
    obtain⟨m,hm,rfl⟩:=hj
    have hr:(ns.map fun n=>[D.int .u8 n])[j]?=some [D.int .u8 m]:=by rw[Tbo,hm];rfl
    have h9:=e6 j _ hr 0 _ rfl
    have h10:=(e7 j _ hr 0 _ rfl).sc_inv rfl
    have hsz:sz=1:=by
     have:=e5 _ (Tbg hr)
     simpa using this.symm
    have hj':j<ns.length:=(List.getElem?_eq_some_iff.1 hm).1
    have hb':b'=b:=by
     rcases e4 with e4|e4
     ·omega
     ·exact Option.some.inj e4
    subst hb' hsz
    rw[h10.int_inv]at h9
    simpa using h9.2)
   simpa[e2] using this
  rw[run_bytesToString w b' n c ns hload,foldl_push_bytes]
  simp[ByteArray.empty,ByteArray.emptyWithCapacity]
  rfl
theorem Sav (hR:R E.ntmps F σ ρ a w G)(hd:iJ E.ntmps o)(hti:Aaj P E.ti){nv:Nat}{src dst:TypeId}{x:Operand}(ho:o.op=.convert src dst x){res:dG}{s d:TI}
  (hs1:E.ti src=some s) (hsS:s.isStr=true) (hd1:E.ti dst=some d) (hdS:d.isStr=true) {x':aO} (h1:(rdA E g src x).eval σ=some x')
  (h:(yZ o g nv .sid [x']).eval σ=some res) (hs:aR cf ρ g nv res.lets):jR P E F σ ρ a w g o Q res.upd:=by
 refine eH hR hd h hs fun hg z hp=>?_
 obtain⟨i1,u1,f1⟩:=bG (hti.ok _ _ hs1)
 obtain⟨i2,u2,f2⟩:=bG (hti.ok _ _ hd1)
 obtain rfl:=Ham f1 hsS
 obtain rfl:=Ham f2 hdS
 have hl:=mG hR hg h1
 simp only[Tbn,Tbw]at hp
 generalize x'.val ρ=xv at hp hl
 cases xv<;>simp only[aN.run]at hp<;>first|cases hp|skip
 refine⟨_,.str _,?_⟩
 unfold execOp
 simp only[ho,hl.str_inv]
 refine iZ ?_
 simp only[convert,Sem.run_bind,run_underlying f1.und,run_underlying f2.und,Result.andThen_ok]
 rfl
theorem Oaj {is:Bool}{len cap:Nat}{lo hi:Option Value}{kl kh:IntKind}{l h:Int}(hlo:(lo=none/\l=0)\/lo=some (.int kl l))(hhi:(hi=none/\h=len)\/(hi=some (.int kh h)/\h<=cap))(h0:0<=l)(h1:l<=h) :
  (Instr.sliceBounds is len cap lo hi none).run P w=.ok (l.toNat,h.toNat,cap) w:=by
 rcases hhi with ⟨rfl,rfl⟩|⟨rfl,hc⟩<;>rcases hlo with ⟨rfl,rfl⟩|rfl
 ·simp[Instr.sliceBounds]
 ·have e2:0<=l/\l<=(len:Int):=⟨h0,by omega⟩
  simp[Instr.sliceBounds,Instr.sliceBound,asIntOf,e2]
 ·have e1:0<=h/\h<=(cap:Int):=⟨by omega,hc⟩
  simp[Instr.sliceBounds,Instr.sliceBound,asIntOf,e1]
 ·have e1:0<=h/\h<=(cap:Int):=⟨by omega,hc⟩
  have e2:0<=l/\l<=(h.toNat:Int):=⟨h0,by omega⟩
  have e3:0<=l/\l<=max h 0:=⟨h0,by omega⟩
  simp[Instr.sliceBounds,Instr.sliceBound,asIntOf,e1,e2,e3]
theorem Bbo {ei:TI}{lo fl:Bool}{s:SlR}{p:Pth}(h:Na3 ei lo s=(p,fl)):(p=.no) \/
  (p=.view/\∃ r k m q,s.own=some (r,k,m,q)/\(q=.path []\/q=.view)/\(m=1\/lo=false\/fl=true)):=by
 unfold Na3 at h
 have one:∀ m:Nat,(bif Nat.beq m 1||!lo then (Pth.view,false) else bif Ra5 ei.cells then (Pth.view,true) else (Pth.no,false))=(p,fl)->p=.no\/(p=.view/\(m=1\/lo=false\/fl=true)):=by
  intro m h
  cases hb:(Nat.beq m 1||!lo) with
  | true =>
   rw[hb]at h
   simp only[cond_true,Prod.mk.injEq]at h
   simp only[Uba,Tbv,Tbm]at hb
   exact .inr ⟨h.1.symm,hb.imp id .inl⟩
  | false =>
   rw[hb]at h
   cases hn:Ra5 ei.cells with
   | true =>
    rw[hn]at h
    simp only[cond_false,cond_true,Prod.mk.injEq]at h
    exact .inr ⟨h.1.symm,.inr (.inr h.2.symm)⟩
   | false =>
    rw[hn]at h
    simp only[cond_false,Prod.mk.injEq]at h
    exact .inl h.1.symm
 split at h
 ·rename_i r k m ho
  exact (one _ h).imp id fun ⟨h1,h2⟩=>⟨h1,_,_,_,_,ho,.inl rfl,h2⟩
 ·rename_i r k m ho
  exact (one _ h).imp id fun ⟨h1,h2⟩=>⟨h1,_,_,_,_,ho,.inr rfl,h2⟩
 ·simp only[Prod.mk.injEq]at h
  exact .inl h.1.symm
theorem Wae {sz:Nat}{fl:Bool}{x i j:D}{ds:List D}(h:(aN.sub sz fl).run [x,i,j]=some ds) :
  ∃ rs ki kj lo hi,x=.rows sz rs/\i=.int ki lo/\j=.int kj hi/\(fl=true->∀ r∈rs,∀ d∈r,d.isSc=true)/\0<=lo/\lo<=hi/\hi<=rs.length/\ds=[.rows sz ((rs.take hi.toNat).drop lo.toNat)]:=by
 cases x<;>cases i<;>cases j<;>simp only[aN.run]at h<;>first|cases h|skip
 split at h
 ·rename_i h1
  obtain⟨rfl,h1,h2,h3,h4⟩:=h1
  simp only[Option.some.injEq]at h
  refine⟨_,_,_,_,_,rfl,rfl,rfl,fun hf=>?_,h2,h3,h4,h.symm⟩
  rw[hf]at h1
  simp only[Bool.not_true,Bool.false_or,Tbp]at h1
  exact fun r hr d hd=>h1 r hr d hd
 ·cases h
theorem Pay {rs:List (List D)}{lo hi i:Nat}{r:List D}(h:((rs.take hi).drop lo)[i]?=some r):rs[lo+i]?=some r/\lo+i<hi:=by
 rw[Tb5,Ubg]at h
 split at h
 ·rename_i hl;exact⟨h,hl⟩
 ·cases h
theorem Rd.part {ok:Nat->Prop}{A:Option Addr}{n c sz:Nat}{rs:List (List D)}(h:Rd ok w (.slice A n c) (.rows sz rs)){lo hi:Nat}(h1:lo<=hi)(h2:hi<=n) :
  Rd ok w (.slice (if c=lo then A else A.map (·.add (lo*sz))) (hi-lo) (c-lo)) (.rows sz ((rs.take hi).drop lo)):=by
 obtain⟨A',b,n',c',vs,e1,e2,e3,e4,e5,e6,e7⟩:=h.inv
 obtain⟨rfl,rfl,rfl⟩:A=A'/\n=n'/\c=c':=by injection e1 with a b c;exact⟨a,b,c⟩
 refine .rows _ (b.add (lo*sz)) _ _ sz _ (fun i j=>vs (lo+i) j) (by simp;omega) (by omega) ?_ (fun r hr=>?_) (fun i r hi' j d hj=>?_) (fun i r hi' j d hj=>?_)
 ·by_cases hz:hi-lo=0
  ·exact .inl hz
  ·refine .inr ?_
   have hA:A=some b:=e4.resolve_left (by omega)
   rw[if_neg (by omega),hA]
   rfl
 ·exact e5 r (Vbq (Vbe hr))
 ·obtain⟨h3,h4⟩:=Pay hi'
  obtain⟨h5,h6⟩:=e6 _ _ h3 _ _ hj
  refine⟨by rw[add_block];exact h5,?_⟩
  rw[add_add,show lo*sz+(i*sz+j)=(lo+i)*sz+j by rw[Nat.add_mul,Tbl]]
  exact h6
 ·obtain⟨h3,h4⟩:=Pay hi'
  exact e7 _ _ h3 _ _ hj
theorem Rp.sc_inv {own:Nat->Ow}{r m:Nat}{p:List Nat}{v:Value}{d:D}(h:Rp own w r p m v d)(hd:d.isSc=true):Sc v d:=by
 cases h with
 |sc h=>exact h
 |hole=>simp[D.isSc]at hd
 |fz h=>exact h.sc_inv hd
 |sl=>simp[D.isSc]at hd
theorem Rp.part {own:Nat->Ow}{r m:Nat}{p:List Nat}{A:Option Addr}{n c sz:Nat}{rs:List (List D)}(h:Rp own w r p m (.slice A n c) (.rows sz rs)){lo hi:Nat}(h1:lo<=hi)(h2:hi<=n)
  (hc:m=1\/lo=0\/∀ r∈rs,∀ d∈r,d.isSc=true) :
  Rp own w r p m (.slice (if c=lo then A else A.map (·.add (lo*sz))) (hi-lo) (c-lo)) (.rows sz ((rs.take hi).drop lo)):=by
 generalize hv:Value.slice A n c=v at h
 generalize hx:D.rows sz rs=x at h
 cases h with
 |sc h=>subst hx;cases h
 |hole=>cases hx
 |fz h=>subst hv hx;exact .fz (h.part h1 h2)
 | sl A' b n' c' sz' rs' vs hn hc' hA hsz hown hcell hrec =>
  obtain⟨rfl,rfl,rfl⟩:A=A'/\n=n'/\c=c':=by injection hv with a b c;exact⟨a,b,c⟩
  obtain⟨rfl,rfl⟩:sz=sz'/\rs=rs':=by injection hx with a b;exact⟨a,b⟩
  rename_i m'
  refine .sl _ (if c=lo then b else b.add (lo*sz)) _ _ sz _ (fun i j=>vs (lo+i) j) (by simp;omega) (by omega) ?_ (fun r hr=>?_) (fun e=>?_) (fun i r' hi' j d hj=>?_) (fun i r' hi' j d hj=>?_)
  ·rcases hA with hA|⟨hA,h0⟩
   ·refine .inl ?_
    rw[hA]
    by_cases h:c=lo
    ·rw[if_pos h,if_pos h]
    ·rw[if_neg h,if_neg h];rfl
   ·refine .inr ⟨?_,by omega⟩
    rw[hA]
    split<;>rfl
  ·exact hsz r (Vbq (Vbe hr))
  ·have hA':A=some b:=by
    rcases hA with hA|⟨hA,h0⟩
    ·exact hA
    ·rw[hA]at e
     split at e<;>cases e
   obtain⟨h3,h4,h5⟩:=hown hA'
   by_cases h:c=lo
   ·rw[if_pos h]
    exact⟨h3,h4,fun k hk=>by rw[h,Nat.sub_self,Nat.zero_mul]at hk;omega⟩
   ·rw[if_neg h]
    refine⟨?_,by rw[add_block];exact h4,fun k hk=>?_⟩
    ·unfold Addr.add;split
     ·exact h3
     ·rfl
    ·rw[add_add]
     refine h5 _ ?_
     rw[Nat.sub_mul]at hk
     omega
  ·obtain⟨h3,h4⟩:=Pay hi'
   rw[if_neg (by omega),add_add,show lo*sz+(i*sz+j)=(lo+i)*sz+j by rw[Nat.add_mul,Tbl]]
   exact hcell _ _ h3 _ _ hj
  ·obtain⟨h3,h4⟩:=Pay hi'
   have:=hrec _ _ h3 _ _ hj
   rcases hc with hc|hc|hc
   ·obtain rfl:m'=0:=by omega
    exact .fz this.zero
   ·subst hc
    simpa using this
   ·exact .sc (this.sc_inv (hc r' (Tbg h3) d (Tbg hj)))
theorem Aaz {t e:TypeId}{x:Operand}{lo hi:Option Operand}(ho:o.op=.slice t x lo hi none)(hu:P.underlying t=some (.slice e)){size:Nat}(hsz:(sizeOf e).run P w=.ok size w)
  {A:Option Addr} {n c:Nat} (hx:a.eval x=.slice A n c) {kl kh:IntKind} {l h:Int} (hlo:(lo=none/\l=0)\/lo.map a.eval=some (.int kl l)) (hhi:(hi=none/\h=n)\/(hi.map a.eval=some (.int kh h)/\h<=c)) (h0:0<=l) (h1:l<=h) :
  (execOp a.eval o).run P w=.ok (.value (.slice (if c=l.toNat then A else A.map (·.add (l.toNat*size))) (h.toNat-l.toNat) (c-l.toNat))) w:=by
 unfold execOp
 simp only[ho]
 refine iZ ?_
 have hb:=Oaj (P:=P) (w:=w) (is:=true) (len:=n) (cap:=c) (lo:=lo.map a.eval) (hi:=hi.map a.eval) (kl:=kl) (kh:=kh) (l:=l) (h:=h) (hlo.imp (fun ⟨h1,h2⟩=>⟨by rw[h1];rfl,h2⟩) id) (hhi.imp (fun ⟨h1,h2⟩=>⟨by rw[h1];rfl,h2⟩) id) h0 h1
 simp only[Instr.sliceAt,Instr.slice,Sem.run_bind,run_underlying hu,Result.andThen_ok,hx,Option.map_none,hb,hsz,Sem.run_pure]
end
end Go.Proofs.YtpgnlmfmlffjcaaGreat.Rf

namespace Go.Proofs.YtpgnlmfmlffjcaaGreat.Rf
set_option linter.unusedVariables false
set_option linter.unusedSimpArgs false
section
variable {P:Program} {E:Env} {F:cB} {σ:Nat->Option aW} {ρ:List D} {a:Act} {w w':World} {G:Gh} {g:Option (aO×Bool)} {o:Oper} {cf:Nat->List D->Option (List D)} {Q:Exit->Act->World->Prop} {next:Act->World->Prop}
theorem Baa {g:Option (aO×Bool)}(h:noG g=true):g=none:=by
 cases g with
 |none=>rfl
 |some _=>cases h
theorem Gab {p:aN}{xs:List aO}{nv:Nat}(h:Bbl cf ρ g nv (.prim p xs 1))(hg:gOn ρ g=true) :
  ∃ d,p.run (xs.map (·.val ρ))=some [d]/\(aO.v nv).val ρ=d:=jD (cf:=cf) (nv:=nv) ⟨h,trivial⟩ hg
theorem Fax {t:TypeId}{x:Operand}{lo hi:Option Operand}(ho:o.op=.slice t x lo hi none)(hu:P.underlying t=some .string)
  {s:List UInt8} (hx:a.eval x=.string ⟨s.toArray⟩) {kl kh:IntKind} {l h:Int} (hlo:(lo=none/\l=0)\/lo.map a.eval=some (.int kl l)) (hhi:(hi=none/\h=s.length)\/(hi.map a.eval=some (.int kh h)/\h<=s.length)) (h0:0<=l) (h1:l<=h) :
  (execOp a.eval o).run P w=.ok (.value (.string ⟨((s.take h.toNat).drop l.toNat).toArray⟩)) w:=by
 unfold execOp
 simp only[ho]
 refine iZ ?_
 have hb:=Oaj (P:=P) (w:=w) (is:=false) (len:=s.length) (cap:=s.length) (lo:=lo.map a.eval) (hi:=hi.map a.eval) (kl:=kl) (kh:=kh) (l:=l) (h:=h) (hlo.imp (fun ⟨h1,h2⟩=>⟨by rw[h1];rfl,h2⟩) id) (hhi.imp (fun ⟨h1,h2⟩=>⟨by rw[h1];rfl,h2⟩) id) h0 h1
 have hlen:(⟨s.toArray⟩:ByteArray).size=s.length:=rfl
 simp only[Instr.sliceAt,Instr.slice,Sem.run_bind,run_underlying hu,Result.andThen_ok,hx,Option.map_none,Option.isSome_none,Sbv,if_false,hlen,hb,Sem.run_pure]
 congr 2
 apply ByteArray.ext
 rw[ByteArray.data_extract]
 apply Wbs
 simp[List.drop_take,List.extract]
theorem Abf {x i j:D}{ds:List D}(h:aN.ssub.run [x,i,j]=some ds) :
  ∃ s ki kj lo hi,x=.str s/\i=.int ki lo/\j=.int kj hi/\0<=lo/\lo<=hi/\hi<=s.length/\ds=[.str ((s.take hi.toNat).drop lo.toNat)]:=by
 cases x<;>cases i<;>cases j<;>simp only[aN.run]at h<;>first|cases h|skip
 split at h
 ·rename_i h1
  simp only[Option.some.injEq]at h
  exact⟨_,_,_,_,_,rfl,rfl,rfl,h1.1,h1.2.1,h1.2.2,h.symm⟩
 ·cases h
theorem Abq {lo:Bool}{s:SlR}{ei:TI}{p:Pth}{fl:Bool}(hvw:Na3 ei lo s=(p,fl)){A:Option Addr}{n c sz:Nat}(hsl:Cb2 σ ρ G w s (.slice A n c)){rs:List (List D)}(hx:s.x.val ρ=.rows sz rs)
  {l h:Nat} (h1:l<=h) (h2:h<=n) (hlo:lo=false->l=0) (hfl:fl=true->∀ r∈rs,∀ d∈r,d.isSc=true) {y:aO} (hy:y.val ρ=.rows sz ((rs.take h).drop l)) :
  aD σ ρ G w (.sn s.deps p false y) (.slice (if c=l then A else A.map (·.add (l*sz))) (h-l) (c-l)):=by
 simp only[aD]
 refine⟨⟨rfl,fun z hz=>?_⟩,fun _=>⟨?_,by simp,?_⟩⟩
 ·obtain⟨m,hl⟩:=hsl.live z hz
  exact hl.valid.known
 ·rw[hy]
  exact Rd.part (hx▸hsl.rd) h1 h2
 ·rcases Bbo hvw with rfl|⟨rfl,r,k,m,q,ho,hq,hc⟩
  ·trivial
  ·intro r2 k2 m2 e2 hl2
   have hown:=hsl.own
   unfold Aak at hown
   rw[ho]at hown
   obtain⟨h3,⟨x1,h4⟩,h5⟩:=hown
   rw[h3]at e2
   obtain⟨rfl,rfl⟩:r=r2/\k=k2:=by simpa using e2
   obtain⟨x2,ex2⟩:=hl2
   rw[h4]at ex2
   obtain rfl:m=m2:=by injection ex2 with ex2;injection ex2
   have hrp:Rp G.own w r [] m (.slice A n c) (.rows sz rs):=by
    rw[<- hx]
    rcases hq with rfl|rfl
    ·simpa[bM] using h5.2.1
    ·exact h5
   rw[hy]
   refine hrp.part h1 h2 ?_
   rcases hc with hc|hc|hc
   ·exact .inl hc
   ·exact .inr (.inl (hlo hc))
   ·exact .inr (.inr (hfl hc))
theorem Ebd {lo:Bool}{s:SlR}{ei:TI}{p:Pth}{fl:Bool}(hvw:Na3 ei lo s=(p,fl)){A:Option Addr}{n c sz:Nat}(hsl:Cb2 σ ρ G w s (.slice A n c)){rs:List (List D)}(hx:s.x.val ρ=.rows sz rs)
  {l:Nat} (h1:l<=n) (hlo:lo=false->l=0) (hfl:fl=true->∀ r∈rs,∀ d∈r,d.isSc=true) {y:aO} (hy:y.val ρ=.rows sz ((rs.take n).drop l)) {lx:aO} (hl:pF ρ lx=l) :
  aD σ ρ G w (.sn s.deps (Mbg p sz lx s) false y) (.slice (if c=l then A else A.map (·.add (l*sz))) (n-l) (c-l)):=by
 have h0:=Abq hvw hsl hx h1 (Nat.le_refl n) hlo hfl hy
 unfold Mbg
 split
 ·rename_i r k m ho
  simp only[aD]at h0 ⊢
  refine⟨h0.1,fun hv=>⟨(h0.2 hv).1,(h0.2 hv).2.1,?_⟩⟩
  intro r2 k2 m2 e2 hl2
  have hown:=hsl.own
  unfold Aak at hown
  rw[ho]at hown
  obtain⟨h3,-,-,-,h5⟩:=hown
  rw[h3]at e2
  obtain⟨rfl,rfl⟩:r=r2/\k=k2:=by simpa using e2
  simp only[bM,Tbw,Eas]at h5
  exact⟨A,n,c,h5.symm,by rw[hl];exact h1,by rw[hl]⟩
 ·exact h0
theorem Fa6 (hR:R E.ntmps F σ ρ a w G)(hg:gOn ρ g=true){lo:Option Operand}{y:aO}
  (h:(match lo with|some a=>rdA E g 0 a|none=>RdM.ret (.c (.int .i64 0)):RdM aO).eval σ=some y) {k:IntKind} {l:Int} (hy:y.val ρ=.int k l) :
  (lo=none/\l=0)\/lo.map a.eval=some (.int k l):=by
 split at h
 ·rename_i x
  have:=mG hR hg h
  rw[hy]at this
  exact .inr (by rw[Ubd,this.int_inv])
 ·simp only[aH,Option.some.injEq]at h
  subst h
  simp only[aO.val,D.int.injEq]at hy
  exact .inl ⟨rfl,hy.2.symm⟩
theorem Waj (hR:R E.ntmps F σ ρ a w G)(hd:iJ E.ntmps o)(hti:Aaj P E.ti){nv nb nr:Nat}{mv mvs:Bool}{t:TypeId}{x:Operand}{lo hi mx:Option Operand}(ho:o.op=.slice t x lo hi mx){res:dG}
  (h:(vT E mv mvs nv nb nr g o).eval σ=some res) (hs:aR cf ρ g nv res.lets):jR P E F σ ρ a w g o Q res.upd:=by
 simp only[vT,ho]at h
 cases mx with
 | some _ =>
  simp only[aC,Sbt]at h
  obtain⟨_,_,h⟩:=h
  cases h
 |none =>
 simp only[aC,Sbt,tiR,bF]at h
 obtain⟨ti,hi1,l,h1,lo',h2,h⟩:=h
 obtain⟨info,u,f⟩:=bG (hti.ok _ _ hi1)
 split at h
 ·rename_i s
  simp only[aC,Sbt,aP]at h
  obtain⟨_,hgd,h⟩:=h
  split at hgd
  ·rename_i hb
   simp only[Sbu]at hb
   obtain rfl:=Ham f hb.1
   split at h
   ·rename_i h'
    simp only[aC,Sbt]at h
    obtain⟨hA,h3,h⟩:=h
    refine eH hR hd h hs fun hg d hp=>?_
    simp only[Tbn,Tbw]at hp
    obtain⟨s',ki,kj,li,hi',e1,e2,e3,e4,e5,e6,e7⟩:=Abf hp
    simp only[List.cons.injEq,and_true]at e7
    have hx:=iP hR hg h1
    simp only[aD,e1]at hx
    have hh:=mG hR hg h3
    rw[e3]at hh
    refine⟨_,e7▸.str _,Fax ho f.und hx.str_inv (Fa6 hR hg h2 e2) (.inr ⟨by rw[Ubd,hh.int_inv],e6⟩) e4 e5⟩
   ·obtain rfl:g=none:=Baa (by simpa using hb.2)
    simp only[aH,Option.some.injEq]at h
    subst h
    simp only[Jak]
    refine⟨fun hg=>?_,fun hg=>by simp[gOn]at hg⟩
    obtain⟨d1,h4,h5⟩:=Gab hs.1 hg
    obtain⟨d2,h6,h7⟩:=Gab hs.2.1 hg
    simp only[Tbn,Tbw,Step.n]at h4 h6 h7
    obtain⟨s',ki,kj,li,hi',e1,e2,e3,e4,e5,e6,e7⟩:=Abf h6
    rw[e1]at h4
    simp only[aN.run,Option.some.injEq,List.cons.injEq,and_true]at h4
    rw[h5,<- h4]at e3
    obtain⟨-,rfl⟩:IntKind.i64=kj/\(s'.length:Int)=hi':=by injection e3 with a b;exact⟨a,b⟩
    have hx:=iP hR hg h1
    simp only[aD,e1]at hx
    refine Pa1 hR hd hg (Fax (kh:=.i64) ho f.und hx.str_inv (Fa6 hR hg h2 e2) (.inl ⟨rfl,rfl⟩) e4 e5) ?_
    rw[h7]
    simp only[List.cons.injEq,and_true]at e7
    rw[e7]
    exact .str _
  ·cases hgd
 ·simp only[aC,Sbt,aP]at h
  obtain⟨_,hgd,s,h3,ei,h4,h⟩:=h
  split at hgd
  ·rename_i hel
   cases hel':ti.elem with
   |none=>rw[hel']at hel;cases hel
   |some e =>
   obtain rfl:=wF f hel'
   rw[hel',Option.getD_some,bF]at h4
   obtain⟨info',u',f'⟩:=bG (hti.ok _ _ h4)
   generalize hvw:Na3 ei lo.isSome s=pf at h
   obtain⟨p,fl⟩:=pf
   dsimp only at h
   split at h
   ·rename_i h'
    simp only[aC,Sbt]at h
    obtain⟨hA,h5,h⟩:=h
    split at h
    ·rename_i dp pp z _
     refine fC hR hd h hs fun hg hst=>?_
     obtain⟨d,h6,h7⟩:=jD hst hg
     simp only[Tbn,Tbw]at h6
     obtain⟨rs,ki,kj,li,hi',e1,e2,e3,e4,e5,e6,e7,e8⟩:=Wae h6
     have hl:=iP hR hg h1
     have hh:=mG hR hg h5
     rw[e3]at hh
     have hz:s.x=.c (.rows z []):=by
      unfold Caf at h3
      simp only[aC,Sbt]at h3
      obtain⟨ds,-,h3⟩:=h3
      split at h3
      ·simp only[aH,Option.some.injEq]at h3;rw[<- h3]
      ·simp only[aC,aX,Sb6]at h3
       split at h3
       ·simp only[aH,Option.some.injEq]at h3;rw[<- h3]
       ·cases h3
      ·simp only[aH,Option.some.injEq]at h3;rw[<- h3]
     have hnil:a.eval x=.slice none 0 0:=by
      unfold Caf at h3
      simp only[aC,Sbt]at h3
      obtain⟨ds,h3,-⟩:=h3
      have hl':=hl
      simp only[aD]at hl'
      exact (hl'.2 (lN h3).1).2.1 trivial z rfl
     rw[hz]at e1
     obtain⟨-,rfl⟩:z=ei.size/\[]=rs:=by
      simp only[aO.val]at e1
      injection e1 with a b;exact⟨a,b⟩
     have hli:li=0:=by simp at e7;omega
     have hhi:hi'=0:=by simp at e7;omega
     subst hli hhi
     refine⟨a.eval x,hl,?_⟩
     rw[Aaz (kh:=kj) (kl:=ki) (l:=0) (h:=0) ho f.und (f'.sizeOf w) hnil (Fa6 hR hg h2 e2) (.inr ⟨by rw[Ubd,hh.int_inv],by simp⟩) (by omega) (by omega),hnil]
     rfl
    ·refine fC hR hd h hs fun hg hst=>?_
     obtain⟨d,h6,h7⟩:=jD hst hg
     simp only[Tbn,Tbw]at h6
     obtain⟨rs,ki,kj,li,hi',e1,e2,e3,e4,e5,e6,e7,e8⟩:=Wae h6
     have hh:=mG hR hg h5
     rw[e3]at hh
     have hsl:=fV hR h3 (iP hR hg h1)
     have hrd:=hsl.rd
     rw[e1]at hrd
     obtain⟨A,b,n,c,vs,i1,i2,i3,-⟩:=hrd.inv
     rw[i1]at hsl
     have hlo:=Fa6 hR hg h2 e2
     refine⟨_,?_,Aaz (kh:=kj) ho f.und (f'.sizeOf w) i1 hlo (.inr ⟨by rw[Ubd,hh.int_inv],by omega⟩) e5 e6⟩
     refine Abq hvw hsl e1 (by omega) (by omega) (fun hf=>?_) e4 ?_
     ·rcases hlo with ⟨-,hl0⟩|hl0
      ·rw[hl0];rfl
      ·cases lo with
       |none=>simp at hl0
       |some _=>simp at hf
     ·rw[h7]
      simpa using e8
   ·refine fC hR hd h hs fun hg hst=>?_
    obtain⟨d1,h4',h5⟩:=Gab hst.1 hg
    obtain⟨d2,h6,h7⟩:=Gab hst.2.1 hg
    simp only[Tbn,Tbw,Step.n]at h4' h6 h7
    obtain⟨rs,ki,kj,li,hi',e1,e2,e3,e4,e5,e6,e7,e8⟩:=Wae h6
    rw[e1]at h4'
    simp only[aN.run,Option.some.injEq,List.cons.injEq,and_true]at h4'
    rw[h5,<- h4']at e3
    obtain⟨-,rfl⟩:IntKind.i64=kj/\(rs.length:Int)=hi':=by injection e3 with a b;exact⟨a,b⟩
    have hsl:=fV hR h3 (iP hR hg h1)
    have hrd:=hsl.rd
    rw[e1]at hrd
    obtain⟨A,b,n,c,vs,i1,i2,i3,-⟩:=hrd.inv
    rw[i1]at hsl
    have hlo:=Fa6 hR hg h2 e2
    refine⟨_,?_,Aaz (kh:=.i64) ho f.und (f'.sizeOf w) i1 hlo (.inl ⟨rfl,by rw[i2]⟩) e5 e6⟩
    have hidx:pF ρ lo'=li.toNat:=by unfold pF;rw[e2]
    have hln:((rs.length:Nat):Int).toNat=n:=by rw[Int.toNat_natCast];exact i2
    rw[hln]
    refine Ebd (lx:=lo') hvw hsl e1 (l:=li.toNat) (by omega) (fun hf=>?_) e4 ?_ hidx
    ·rcases hlo with ⟨-,hl0⟩|hl0
     ·rw[hl0];rfl
     ·cases lo with
      |none=>simp at hl0
      |some _=>simp at hf
    ·rw[h7,List.take_of_length_le (by omega:rs.length<=n)]
     simpa using e8
  ·cases hgd
end
end Go.Proofs.YtpgnlmfmlffjcaaGreat.Rf
