/- Terms for oe program's functions, and j9 they are right: part 2 of 9. -/
import Derived.Test.YtpgnlmfmlffjcaaGreatRf1
import Derived.WalkKit
import Derived.Laws.StructEq
import Derived.Laws.BytesArg
open Array renaming ext' → Ubm
open Bool renaming and_eq_true → Qb1, false_eq_true → Qb4, not_eq_true' → Rbp, or_eq_true → Sbe
open List renaming getElem?_eq_getElem → Qb3, getElem?_cons_zero → Qb9, mem_singleton → Rbb, mem_cons_of_mem → Rbd, length_map → Rbh, mem_of_getElem? → Rbi, mem_cons_self → Rbj, length_take → Rbq, getElem?_map → Rbr, append_nil → Rbs, map_cons → Rbt, all_eq_true → Rbu, map_nil → Rbz, getElem?_drop → Rb3, getElem?_cons_succ → Rb7, getElem?_take → Sbc, eq_nil_of_length_eq_zero → Sbd, length_drop → Sbf, getElem?_eq_none → Sbj, length_singleton → Sbk, map_append → Sbr, cons_append → Sby, mem_of_mem_take → Tbc, mem_of_mem_drop → Tbd
open Nat renaming add_assoc → Rbn, lt_or_ge → Rbo, beq_eq → Rbv, zero_add → Rby, ble_eq → Sbb
open Option renaming bind_eq_some_iff → Qb0, bind_some → Qb7, map_eq_some_iff → Rbc, map_some → Rb9
set_option linter.unusedSimpArgs false
set_option linter.unusedVariables false
set_option linter.unnecessarySimpa false
set_option linter.unusedSectionVars false
namespace Go.Proofs.YtpgnlmfmlffjcaaGreat.Rf
theorem RdM.run_eval {α:Type}{look:Nat->Option aP}{m:RdM α}{x:α}{log:List Nat}(h:m.run look=some (x,log)):m.eval look=some x:=by
 induction m generalizing log with
 | ret a =>
  simp only[RdM.run,Option.some.injEq,Prod.mk.injEq]at h;rw[h.1];rfl
 |no=>cases h
 | rd k f ih =>
  simp only[RdM.run,Rbc]at h;obtain⟨⟨y,l⟩,h1,h2⟩:=h;simp only[Prod.mk.injEq]at h2;obtain⟨rfl,_⟩:=h2;exact ih _ h1
theorem RdM.run_same {α:Type}{look tB:Nat->Option aP}{m:RdM α}{x:α}{log:List Nat}(h:m.run look=some (x,log))(hs:∀ k∈log,tB k=look k):m.run tB=some (x,log):=by
 induction m generalizing log with
 |ret a=>exact h
 |no=>cases h
 | rd k f ih =>
  simp only[RdM.run,Rbc]at h ⊢;obtain⟨⟨y,l⟩,h1,h2⟩:=h;simp only[Prod.mk.injEq]at h2;obtain⟨rfl,rfl⟩:=h2;refine⟨(y,l),?_,rfl⟩;rw[hs k Rbj];exact ih _ h1 fun j hj=>hs j (Rbd _ hj)
section
variable {α γ:Type} {look:Nat->Option aP}
theorem aC (a:α):(RdM.ret a).eval look=some a:=rfl
theorem bK:(RdM.no:RdM α).eval look=none:=rfl
theorem Yap (k:Nat)(f:Option aP->RdM α):(RdM.rd k f).eval look=(f (look k)).eval look:=rfl
theorem aA (m:RdM α)(f:α->RdM γ):(m >>= f).eval look=(m.eval look).bind fun x=>(f x).eval look:=by
 show (RdM.bind m f).eval look=_
 induction m with
 |ret a=>rfl
 |no=>rfl
 |rd k g ih=>exact ih _
theorem aQ (k:Nat):(rdK k).eval look=some (look k):=rfl
theorem aT (x:Option α):(mJ x).eval look=x:=by cases x<;>rfl
theorem aH (b:Bool):(bI b).eval look=if b=true then some () else none:=by cases b<;>rfl
theorem gF (c:Bool)(x y:RdM α):(bif c then x else y).eval look=if c=true then x.eval look else y.eval look:=by cases c<;>rfl
end
def Ta1 (cf:Nat->List D->Option (List D))(ρ:List D)(g:Option (aI×Bool))(nv:Nat):Step->Prop
 | .prim p xs n => (gOn ρ g = true -> ∃ ds, p.run (xs.map (·.val ρ)) = some ds /\ ds.length = n /\ ∀ j d, ds[j]? = some d -> (aI.v (nv + j)).val ρ = d) /\
   (gOn ρ g=false->∀ j,j<n->(aI.v (nv+j)).val ρ=.undef)
 | .call f xs n olds => (gOn ρ g = true -> ∃ ds, cf f (xs.map (·.val ρ)) = some ds /\ ds.length = n /\ ∀ j d, ds[j]? = some d -> (aI.v (nv + j)).val ρ = d) /\
   (gOn ρ g=false->∀ j d,(List.replicate (n-olds.length) D.undef++olds.map (·.val ρ))[j]?=some d->(aI.v (nv+j)).val ρ=d)
def aL (cf:Nat->List D->Option (List D))(ρ:List D)(g:Option (aI×Bool)):Nat->List Step->Prop
 |_,[]=>True
 |nv,s::r=>Ta1 cf ρ g nv s/\aL cf ρ g (nv+s.n) r
structure uO (P:Program) (ti:Nat->Option TI):Prop where
 ok:∀ t i,ti t=some i->Kaq P t=some i
structure bX (P:Program) (t:TypeId) (i:TI) (info:TypeInfo) (u:TypeDesc):Prop where
 info_:P.info? t=some info
 und:P.underlying t=some u
 cells:(flat P 12 t).map (·.map (mR P))=some i.cells
 len:i.cells.length=i.size
 zero:Sae i.agg info.zero i.cells=true
 eq:i=Mbl P t info u i.cells
theorem aU {P:Program}{t:TypeId}{i:TI}(h:Kaq P t=some i):∃ info u,bX P t i info u:=by
 unfold Kaq at h
 cases h1:P.info? t with
 |none=>rw[h1]at h;cases h
 | some info =>
  cases h2:P.underlying t with
  |none=>rw[h1,h2]at h;cases h
  | some u =>
   cases h3:(flat P 12 t).map (·.map (mR P)) with
   |none=>rw[h1,h2,h3]at h;cases h
   | some cs =>
    rw[h1,h2,h3]at h;dsimp only at h
    cases hb:(Nat.beq cs.length info.size&&Sae (Iaz u) info.zero cs) with
    |false=>rw[hb]at h;cases h
    | true =>
     rw[hb]at h;obtain rfl:=Option.some.inj h;simp only[Qb1,Rbv]at hb;exact⟨info,u,h1,h2,h3,hb.1,hb.2,rfl⟩
section
variable {P:Program} {t:TypeId} {i:TI} {info:TypeInfo} {u:TypeDesc}
theorem bX.agg (h:bX P t i info u):i.agg=Iaz u:=by rw[h.eq];rfl
theorem bX.size (h:bX P t i info u):i.size=info.size:=by rw[h.eq];rfl
theorem bX.elem (h:bX P t i info u):i.elem=Yay u:=by rw[h.eq];rfl
theorem bX.flds (h:bX P t i info u):i.flds=Yam u:=by rw[h.eq];rfl
theorem bX.bytes (h:bX P t i info u):i.bytes=info.bytes:=by rw[h.eq];rfl
theorem bX.ik (h:bX P t i info u):i.ik=Lbo u:=by rw[h.eq];rfl
theorem Na3 (h:P.underlying t=some u)(w:World):(Go.isAgg t).run P w=.ok (Iaz u) w:=by
 simp only[Go.isAgg,underlying,program,bind,pure,Sem.bind,Sem.run,h];cases u<;>rfl
theorem run_sizeOf (h:P.info? t=some info)(w:World):(Go.sizeOf t).run P w=.ok info.size w:=by
 simp only[Go.sizeOf,typeInfo,program,bind,pure,Sem.bind,Sem.run,h]
theorem run_underlying (h:P.underlying t=some u)(w:World):(Go.underlying t).run P w=.ok u w:=by
 simp only[underlying,program,bind,pure,Sem.bind,Sem.run,h]
theorem bX.isAgg (h:bX P t i info u)(w:World):(Go.isAgg t).run P w=.ok i.agg w:=by rw[Na3 h.und,h.agg]
theorem bX.sizeOf (h:bX P t i info u)(w:World):(Go.sizeOf t).run P w=.ok i.size w:=by rw[run_sizeOf h.info_,h.size]
end
theorem D.beq0_eq {a b:D}(h:a.beq0 b=true):a=b:=by
 unfold D.beq0 at h;split at h<;>first|cases h|skip
 ·simp only[Qb1,Lbp,decide_eq_true_eq]at h
  rw[h.1,h.2]
 ·simp only[beq_iff_eq]at h;rw[h]
 ·simp only[beq_iff_eq]at h;rw[h]
 ·simp only[Rbv]at h;rw[h]
 ·rfl
 ·rfl
theorem aI.beq0_eq {a b:aI}(h:a.beq0 b=true):a=b:=by
 unfold aI.beq0 at h;split at h
 ·simp only[Rbv]at h;rw[h]
 ·rw[D.beq0_eq h]
 ·cases h
theorem Rai {g h:Option (aI×Bool)}(e:Fbh g h=true):g=h:=by
 unfold Fbh at e;split at e
 ·rfl
 ·simp only[Qb1,beq_iff_eq]at e
  rw[aI.beq0_eq e.1,e.2]
 ·cases e
section
variable {P:Program} {E:Env} {F:bE} {σ:Nat->Option aP} {ρ:List D} {a:Act} {w:World} {G:Gh} {g:Option (aI×Bool)}
theorem Db8 (hg:gOn ρ g=true){v:SV}{u:Value}(h:bU σ ρ G w v u):bU σ ρ G w (unG g v) u:=by
 unfold unG;split
 ·rename_i h' x
  cases e:Fbh g (some h') with
  |false=>exact h
  | true =>
   simp only[bU,aB,cond_true]at h ⊢;exact h.2 (Rai e▸hg)
 ·exact h
theorem Rav {ti:Nat->Option TI}{t:TypeId}{v:Value}{sv:SV}(h:Rax ti t v=some sv):bU σ ρ G w sv v:=by
 unfold Rax at h;split at h
 ·obtain rfl:=Option.some.inj h;exact .int _ _
 ·obtain rfl:=Option.some.inj h;exact .bool _
 ·obtain rfl:=Option.some.inj h
  rename_i s;have:=Sc.str s.data.toList;simpa[bU,aB,aI.val] using this
 ·split at h
  ·obtain rfl:=Option.some.inj h
   simp only[bU,aB];refine⟨⟨rfl,by simp⟩,fun _=>⟨?_,?_,trivial⟩⟩
   ·exact .rows none ⟨0,0,none⟩ 0 0 _ [] (fun _ _=>undef) rfl (Nat.le_refl _) (.inl rfl) (by simp) (by simp) (by simp)
   ·exact fun _ z _=>trivial
  ·cases h
 ·obtain rfl:=Option.some.inj h;rfl
 ·cases h
theorem fG (hR:R E.ntmps F σ ρ a w G)(hg:gOn ρ g=true){t:TypeId}{x:Operand}{sv:SV}(h:(Oac E g t x).eval σ=some sv):bU σ ρ G w sv (a.eval x):=by
 cases x with
 | tmp k =>
  simp only[Oac,Yap]at h;split at h
  ·rename_i g' v hk
   rw[gF]at h;split at h
   ·rename_i hb
    simp only[Qb1]at hb;simp only[aC,Option.some.injEq]at h;subst h;refine Db8 hg ?_
    have hg':gOn ρ g'=true:=by
     cases g' with
     |none=>rfl
     |some z=>exact Rai hb.1▸hg
    have:=hR.slot hk hg';unfold Aad at this;rw[if_pos (by simpa using hb.2)]at this;exact this
   ·cases h
  ·cases h
 | const v =>
  simp only[Oac,aT]at h;exact Rav h
 |global _=>cases h
 | func f =>
  simp only[Oac,aC,Option.some.injEq]at h;subst h;simp only[bU,aB];exact⟨[],rfl,by simp[aD]⟩
theorem eZ (hR:R E.ntmps F σ ρ a w G)(hg:gOn ρ g=true){t:TypeId}{x:Operand}{l:aO}(h:(rdL E g t x).eval σ=some l):aB σ ρ G w l (a.eval x):=by
 simp only[rdL,aA,Qb0]at h;obtain⟨sv,h1,h2⟩:=h;have:=fG hR hg h1;unfold one at h2;split at h2
 ·simp only[aC,Option.some.injEq]at h2
  subst h2;exact this
 ·cases h2
theorem jC (hg:gOn ρ g=true){l:aO}{x:aI}{v:Value}(h:tZ g l=some x)(hl:aB σ ρ G w l v):Sc v (x.val ρ):=by
 unfold tZ at h;split at h
 ·obtain rfl:=Option.some.inj h
  simpa[aB] using hl
 ·rename_i h' y
  cases e:Fbh g (some h') with
  |false=>rw[e]at h;cases h
  | true =>
   rw[e]at h;obtain rfl:=Option.some.inj h;simp only[aB]at hl;exact hl.2 (Rai e▸hg)
 ·cases h
theorem iO (hR:R E.ntmps F σ ρ a w G)(hg:gOn ρ g=true){t:TypeId}{x:Operand}{y:aI}(h:(rdA E g t x).eval σ=some y):Sc (a.eval x) (y.val ρ):=by
 simp only[rdA,aA,Qb0,aT]at h;obtain⟨l,h1,h2⟩:=h;exact jC hg h2 (eZ hR hg h1)
end
def Nx (n:Nat)(F:bE)(σ:Nat->Option aP)(ρ:List D)(u:List (Nat×aP))(a:Act)(w:World):Prop:=∃ G,R n F (upds σ u) ρ a w G
def eT (n:Nat)(o:Oper):Prop:=∀ d,o.dst=some d->d<n
section
variable {P:Program} {E:Env} {F:bE} {σ:Nat->Option aP} {ρ:List D} {a:Act} {w w':World} {G:Gh} {g:Option (aI×Bool)} {o:Oper} {cf:Nat->List D->Option (List D)} {Q:Exit->Act->World->Prop} {next:Act->World->Prop}
theorem mH {v:Value}(h:(execOp a.eval o).run P w=.ok (.value v) w')(hn:next (a.put o.dst v) w'):o.wp P a w next Q:=by
 unfold Oper.wp;rw[h];exact hn
theorem Saf (h:(execOp a.eval o).run P w=.ok .skip w')(hn:next (a.put o.dst undef) w'):o.wp P a w next Q:=by
 unfold Oper.wp;rw[h];exact hn
theorem Ka1 (hR:R E.ntmps F σ ρ a w G)(hd:eT E.ntmps o)(hg:gOn ρ g=true){v:Value}{nv:Nat}(h:(execOp a.eval o).run P w=.ok (.value v) w)
  (hv:Sc v ((aI.v nv).val ρ)):o.wp P a w (Nx E.ntmps F σ ρ (dL o none (mkS g (.v nv)))) Q:=by
 refine mH h ⟨G,hR.pure o hd none _ v fun _=>?_⟩
 cases g with
 |none=>exact hv
 | some z =>
  simp only[mkS,bU,aB];exact⟨.inl hv,fun _=>hv⟩
theorem Eb0 (hR:R E.ntmps F σ ρ a w G)(hd:eT E.ntmps o)(hg:gOn ρ g=false){nv:Nat}(hv:(aI.v nv).val ρ=.undef) :
  Nx E.ntmps F σ ρ (dL o none (mkS g (.v nv))) (a.put o.dst undef) w:=by
 refine⟨G,hR.pure o hd none _ undef fun _=>?_⟩
 cases g with
 |none=>cases hg
 | some z =>
  simp only[mkS,bU,aB];exact⟨.inr ⟨trivial,hv⟩,fun h=>by rw[h]at hg;cases hg⟩
theorem Hb6 (hR:R E.ntmps F σ ρ a w G)(hd:eT E.ntmps o)(hg:gOn ρ g=false){sv:SV} :
  Nx E.ntmps F σ ρ (dL o g sv) (a.put o.dst undef) w:=⟨G,hR.pure o hd g _ undef fun h=>by rw[h]at hg;cases hg⟩
def fV (P:Program)(E:Env)(F:bE)(σ:Nat->Option aP)(ρ:List D)(a:Act)(w:World)(g:Option (aI×Bool))(o:Oper)(Q:Exit->Act->World->Prop)(u:List (Nat×aP)):Prop :=
 (gOn ρ g=true->o.wp P a w (Nx E.ntmps F σ ρ u) Q)/\(gOn ρ g=false->Nx E.ntmps F σ ρ u (a.put o.dst undef) w)
theorem step1 {p:aR}{xs:List aI}{nv n:Nat}(h:aL cf ρ g nv [.prim p xs n])(hg:gOn ρ g=true) :
  ∃ ds,p.run (xs.map (·.val ρ))=some ds/\ds.length=n/\∀ j d,ds[j]?=some d->(aI.v (nv+j)).val ρ=d:=h.1.1 hg
theorem fF {p:aR}{xs:List aI}{nv:Nat}(h:aL cf ρ g nv [.prim p xs 1])(hg:gOn ρ g=true) :
  ∃ d,p.run (xs.map (·.val ρ))=some [d]/\(aI.v nv).val ρ=d:=by
 obtain⟨ds,h1,h2,h3⟩:=step1 h hg
 match ds,h2 with
 |[d],_=>exact⟨d,h1,h3 0 d rfl⟩
theorem Fa2 {p:aR}{xs:List aI}{nv:Nat}(h:aL cf ρ g nv [.prim p xs 1])(hg:gOn ρ g=false):(aI.v nv).val ρ=.undef:=h.1.2 hg 0 (by omega)
theorem Eak (o:Oper)(g:Option (aI×Bool))(v:SV):(match o.dst with|some d=>[(kT d,aP.slot g v)]|none=>[])=dL o g v:=rfl
theorem cB (hR:R E.ntmps F σ ρ a w G)(hd:eT E.ntmps o){nv:Nat}{p:aR}{xs:List aI}{res:bJ}
  (h:(sG o g nv p xs).eval σ=some res) (hs:aL cf ρ g nv res.lets)
  (hv:gOn ρ g=true->∀ d,p.run (xs.map (·.val ρ))=some [d]->∃ v,Sc v d/\(execOp a.eval o).run P w=.ok (.value v) w):fV P E F σ ρ a w g o Q res.upd:=by
 simp only[sG,aC,Option.some.injEq]at h;subst h;simp only[Eak];refine⟨fun hg=>?_,fun hg=>Eb0 hR hd hg (Fa2 hs hg)⟩;obtain⟨d,h1,h2⟩:=fF hs hg;obtain⟨v,h3,h4⟩:=hv hg d h1;exact Ka1 hR hd hg h4 (h2▸h3)
theorem dC (hR:R E.ntmps F σ ρ a w G)(hd:eT E.ntmps o){lets:List Step}{sv:SV}{res:bJ}{nv:Nat}
  (h:(sH o g lets sv []).eval σ=some res) (hs:aL cf ρ g nv res.lets)
  (hv:gOn ρ g=true->aL cf ρ g nv lets->∃ v,bU σ ρ G w sv v/\(execOp a.eval o).run P w=.ok (.value v) w):fV P E F σ ρ a w g o Q res.upd:=by
 simp only[sH,aC,Option.some.injEq]at h;subst h;simp only[Eak,Rbs];refine⟨fun hg=>?_,fun hg=>Hb6 hR hd hg⟩;obtain⟨v,h1,h2⟩:=hv hg hs;exact mH h2 ⟨G,hR.pure o hd g _ v fun _=>h1⟩
theorem wZ (hR:R E.ntmps F σ ρ a w G)(hd:eT E.ntmps o){sv:SV}{res:bJ}{nv:Nat}
  (h:(Wa6 o g nv sv).eval σ=some res) (hs:aL cf ρ g nv res.lets)
  (hv:gOn ρ g=true->∃ v,bU σ ρ G w sv v/\(execOp a.eval o).run P w=.ok (.value v) w):fV P E F σ ρ a w g o Q res.upd:=by
 unfold Wa6 at h;split at h
 ·rename_i z l
  split at h
  ·rename_i x hx
   refine cB hR hd h hs fun hg d hp=>?_
   obtain⟨v,h1,h2⟩:=hv hg;simp only[aR.run,Rbt,Rbz,Option.some.injEq,List.cons.injEq,and_true]at hp;exact⟨v,hp▸jC hg hx h1,h2⟩
  ·exact dC hR hd h hs fun hg _=>hv hg
 ·exact dC hR hd h hs fun hg _=>hv hg
theorem fC {s:Sem Value}{v:Value}(h:s.run P w=.ok v w'):(do pure (Next.value (<- s)):Sem Next).run P w=.ok (.value v) w':=by
 simp only[Sem.run_bind,h,Result.andThen_ok,Sem.run_pure]
theorem Jaf (hR:R E.ntmps F σ ρ a w G)(hd:eT E.ntmps o){nv:Nat}{x:Operand}(ho:o.op=.move x\/o.op=.assign x){res:bJ}
  (h:(do Wa6 o g nv (<- Oac E g o.type x):RdM bJ).eval σ=some res) (hs:aL cf ρ g nv res.lets):fV P E F σ ρ a w g o Q res.upd:=by
 simp only[aA,Qb0]at h;obtain⟨sv,h1,h2⟩:=h;refine wZ hR hd h2 hs fun hg=>⟨a.eval x,fG hR hg h1,?_⟩
 rcases ho with ho|ho<;>(unfold execOp;rw[ho];rfl)
theorem Sc.int_inv {v:Value}{k:IntKind}{n:Int}(h:Sc v (.int k n)):v=.int k n:=by cases h;rfl
theorem Sc.bool_inv {v:Value}{b:Bool}(h:Sc v (.bool b)):v=.bool b:=by cases h;rfl
theorem Sc.str_inv {v:Value}{l:List UInt8}(h:Sc v (.str l)):v=.string ⟨l.toArray⟩:=by cases h;rfl
theorem Jao (hR:R E.ntmps F σ ρ a w G)(hg:gOn ρ g=true){z:aI×Bool}{t:TypeId}{x:Operand}{y:aI}(h:(Jap E g z t x).eval σ=some y)(hz:gOn ρ (some z)=true):Sc (a.eval x) (y.val ρ):=by
 simp only[Jap,aA,Qb0]at h;obtain⟨l,h1,h2⟩:=h;have hl:=eZ hR hg h1;split at h2
 ·rename_i b hb
  simp only[aC,Option.some.injEq]at h2;subst h2;exact jC hg hb hl
 ·simp only[aT]at h2
  exact jC hz h2 hl
theorem Uap (hR:R E.ntmps F σ ρ a w G)(hd:eT E.ntmps o){nv:Nat}{c x y:Operand}(ho:o.op=.pick c x y){res:bJ}
  (h:(do
   let c <- rdA E g 0 c
   let a <- Jap E g (c,true) o.type x
   let b <- Jap E g (c,false) o.type y
   sG o g nv .pick [c,a,b]:RdM bJ).eval σ=some res) (hs:aL cf ρ g nv res.lets):fV P E F σ ρ a w g o Q res.upd:=by
 simp only[aA,Qb0]at h;obtain⟨c',h1,x',h2,y',h3,h4⟩:=h;refine cB hR hd h4 hs fun hg d hp=>?_
 have hc:=iO hR hg h1;simp only[Rbt,Rbz]at hp;generalize hcv:c'.val ρ=cv at hp hc
 cases cv with
 | bool b =>
  simp only[aR.run,Option.some.injEq,List.cons.injEq,and_true]at hp;have e:a.eval c=.bool b:=hc.bool_inv;refine⟨if b then a.eval x else a.eval y,?_,?_⟩
  ·cases b with
   | true =>
    rw[if_pos rfl]at hp ⊢;exact hp▸Jao hR hg h2 (by simp[gOn,hcv])
   | false =>
    simp only[Qb4,if_false]at hp ⊢;exact hp▸Jao hR hg h3 (by simp[gOn,hcv])
  ·unfold execOp
   simp only[ho,e];simp only[asBool,Sem.run_bind,Sem.run_pure,Result.andThen_ok]
 |_=>simp[aR.run]at hp
theorem toList_mk (l:List UInt8):(⟨l.toArray⟩:ByteArray).toList=l:=by
 rw[ByteArray.toList_eq]
theorem size_mk (l:List UInt8):(⟨l.toArray⟩:ByteArray).size=l.length:=rfl
theorem Zas (x y:List UInt8):(⟨x.toArray⟩:ByteArray)++(⟨y.toArray⟩:ByteArray)=⟨(x++y).toArray⟩:=by
 apply ByteArray.ext;rw[ByteArray.data_append];simp
theorem Uaw {op:BinOp}{t:TypeId}{k k':IntKind}{x y:Int}{d:D}(h:Mam op (.int k x) (.int k' y)=some d) :
    ∃ v,Sc v d/\(binOp op t (.int k x) (.int k' y)).run P w=.ok v w:=by
  unfold Mam at h;dsimp only at h
  cases op<;>dsimp only at h<;>first
    | (simp only [Waq] at h
       split at h
       · cases h
       · rename_i hy
         obtain rfl:=Option.some.inj h;exact⟨_,.int _ _,by simp[binOp,Op.shift,hy]⟩)
    | (split at h
       · rename_i hk
         subst hk;simp only[yD]at h
         first
         | (obtain rfl := Option.some.inj h
            first
            |exact⟨_,.int _ _,by simp[binOp,Op.intArith,Op.intBits]⟩
            |exact⟨_,.bool _,by simp[binOp,Op.intCmp]⟩)
         | (split at h
            · cases h
            · rename_i hy
              obtain rfl:=Option.some.inj h;exact⟨_,.int _ _,by simp[binOp,Op.intDiv,hy]⟩)
         |cases h
       · cases h)
theorem Uav {op:BinOp}{t:TypeId}{x y:List UInt8}{d:D}(h:Mam op (.str x) (.str y)=some d) :
    ∃ v,Sc v d/\(binOp op t (.string ⟨x.toArray⟩) (.string ⟨y.toArray⟩)).run P w=.ok v w:=by
  simp only[Mam,Gbu]at h;have a38:IntKind.i64.max=9223372036854775807:=by decide
  cases op<;>dsimp only at h<;>first
    | (obtain rfl := Option.some.inj h
       exact⟨_,.bool _,by simp[binOp,Op.stringOp,toList_mk]⟩)
    | (split at h
       · rename_i hl
         obtain rfl:=Option.some.inj h;refine⟨_,.str _,?_⟩;simp only[binOp,Op.stringOp,size_mk,Zas,a38];rw[if_neg (by omega)];rfl
       · cases h)
    |cases h
theorem Ebr {op:BinOp}{t:TypeId}{vx vy:Value}{dx dy d:D}(hx:Sc vx dx)(hy:Sc vy dy)(h:Mam op dx dy=some d) :
  ∃ v,Sc v d/\(binOp op t vx vy).run P w=.ok v w:=by
 cases hx<;>cases hy<;>first|exact Uaw h|exact Uav h|(simp[Mam]at h)
theorem Vas {op:BinOp}{t:TypeId}{x y:Operand}{vx vy:Value}{dx dy:D}(hx:Sc vx dx)(hy:Sc vy dy):(eqGuard op t x y vx vy).run P w=.ok () w:=by
 cases hx<;>cases hy<;>(unfold eqGuard;cases op<;>simp)
theorem Naw (hR:R E.ntmps F σ ρ a w G)(hd:eT E.ntmps o){nv:Nat}{op:BinOp}{t ty:TypeId}{x y:Operand}(ho:o.op=.binOp op t x y ty){res:bJ}
  {x' y':aI} (h1:gOn ρ g=true->Sc (a.eval x) (x'.val ρ)) (h2:gOn ρ g=true->Sc (a.eval y) (y'.val ρ))
  (h:(sG o g nv (.bin op) [x',y']).eval σ=some res) (hs:aL cf ρ g nv res.lets):fV P E F σ ρ a w g o Q res.upd:=by
 refine cB hR hd h hs fun hg d hp=>?_
 simp only[Rbt,Rbz,aR.run,Rbc,List.cons.injEq,and_true]at hp;obtain⟨d',hp,rfl⟩:=hp;obtain⟨v,h3,h4⟩:=Ebr (P:=P) (w:=w) (t:=t) (h1 hg) (h2 hg) hp;refine⟨v,h3,?_⟩;unfold execOp;simp only[ho];refine fC ?_;rw[Sem.run_bind,Vas (h1 hg) (h2 hg)];exact h4
theorem Ab9 (hR:R E.ntmps F σ ρ a w G)(hd:eT E.ntmps o){nv:Nat}{op:UnOp}{t:TypeId}{x:Operand}(ho:o.op=.unOp op t x){res:bJ}
  (h:(do
   let a <- rdA E g 0 x
   match op with
   |.not=>sG o g nv .not [a]
   |.neg=>sG o g nv .neg [a]
   |.xor=>sG o g nv .inv [a]
   |_=>.no:RdM bJ).eval σ=some res) (hs:aL cf ρ g nv res.lets):fV P E F σ ρ a w g o Q res.upd:=by
 simp only[aA,Qb0]at h;obtain⟨x',h1,h2⟩:=h;split at h2
 ·refine cB hR hd h2 hs fun hg d hp=>?_
  have hx:=iO hR hg h1;simp only[Rbt,Rbz]at hp;generalize x'.val ρ=xv at hp hx;cases xv<;>simp only[aR.run]at hp<;>first|cases hp|skip
  rename_i b;exact⟨_,.bool _,by unfold execOp;simp only[ho,hx.bool_inv];rfl⟩
 ·refine cB hR hd h2 hs fun hg d hp=>?_
  have hx:=iO hR hg h1;simp only[Rbt,Rbz]at hp;generalize x'.val ρ=xv at hp hx;cases xv<;>simp only[aR.run]at hp<;>first|cases hp|skip
  exact⟨_,.int _ _,by unfold execOp;simp only[ho,hx.int_inv];rfl⟩
 ·refine cB hR hd h2 hs fun hg d hp=>?_
  have hx:=iO hR hg h1;simp only[Rbt,Rbz]at hp;generalize x'.val ρ=xv at hp hx;cases xv<;>simp only[aR.run,yD,Rb9,Option.some.injEq,List.cons.injEq,and_true]at hp<;>first|cases hp|skip
  exact⟨_,.int _ _,by unfold execOp;simp only[ho,hx.int_inv];rfl⟩
 ·cases h2
theorem Uar (hR:R E.ntmps F σ ρ a w G)(hd:eT E.ntmps o)(hti:uO P E.ti){nv:Nat}{src dst:TypeId}{x:Operand}(ho:o.op=.convert src dst x){res:bJ}{s d:TI}{k:IntKind}
  (jn:E.ti src=some s) (gz:s.ik.isSome=true) (cI:E.ti dst=some d) (hk:d.ik=some k) {x':aI} (h1:(rdA E g src x).eval σ=some x')
  (h:(sG o g nv (.conv k) [x']).eval σ=some res) (hs:aL cf ρ g nv res.lets):fV P E F σ ρ a w g o Q res.upd:=by
 refine cB hR hd h hs fun hg e hp=>?_
 have hx:=iO hR hg h1;simp only[Rbt,Rbz]at hp;generalize x'.val ρ=xv at hp hx;cases xv<;>simp only[aR.run]at hp<;>first|cases hp|skip
 rename_i k0 n;obtain⟨i1,u1,f1⟩:=aU (hti.ok _ _ jn);obtain⟨i2,u2,f2⟩:=aU (hti.ok _ _ cI)
 have e2:u2=.int k:=by
  have:=f2.ik.symm.trans hk;unfold Lbo at this;split at this
  ·rw[Option.some.inj this]
  ·cases this
 subst e2;refine⟨_,.int _ _,?_⟩;unfold execOp;simp only[ho,hx.int_inv];refine fC ?_;simp only[convert,Sem.run_bind,run_underlying f1.und,run_underlying f2.und,Result.andThen_ok];rfl
end
section
variable {P:Program} {E:Env} {F:bE} {σ:Nat->Option aP} {ρ:List D} {a:Act} {w w':World} {G:Gh} {g:Option (aI×Bool)} {o:Oper} {cf:Nat->List D->Option (List D)} {Q:Exit->Act->World->Prop} {next:Act->World->Prop}
def Lak (σ:Nat->Option aP)(r k:Nat):Prop:=∃ m,yA σ r k m
theorem iG:∀ {deps ds:List (Nat×Nat)},(vF deps).eval σ=some ds ->
  (∀ z∈deps,kY σ z.1 z.2)/\(∀ z∈ds,z∈deps/\Lak σ z.1 z.2)/\∀ z∈deps,z∈ds\/∃ x m,σ (kR z.1)=some (.root x m z.2 .frozen)
 | [], ds, h => by
  simp only[vF,aC,Option.some.injEq]at h;subst h;simp
 | (r, k) :: rest, ds, h => by
  simp only[vF,aA,aQ,Qb7]at h;split at h
  ·rename_i x m an st hk
   simp only[aA,Qb0]at h;obtain⟨di,h1,h2⟩:=h;obtain⟨h3,h4,h5⟩:=iG h1;split at h2
   ·rw[gF]at h2
    split at h2
    ·rename_i e
     simp only[Rbv]at e;simp only[aC,Option.some.injEq]at h2;subst h2 e;refine⟨fun z hz=>?_,fun z hz=>⟨Rbd _ (h4 z hz).1,(h4 z hz).2⟩,fun z hz=>?_⟩
     ·rcases List.mem_cons.1 hz with rfl|hz
      ·exact⟨x,m,.frozen,hk,.inr rfl⟩
      ·exact h3 z hz
     ·rcases List.mem_cons.1 hz with rfl|hz
      ·exact .inr ⟨x,m,hk⟩
      ·exact h5 z hz
    ·cases h2
   ·rw[gF]at h2
    split at h2
    ·rename_i e
     simp only[Rbv]at e;simp only[aC,Option.some.injEq]at h2;subst h2 e;refine⟨fun z hz=>?_,fun z hz=>?_,fun z hz=>?_⟩
     ·rcases List.mem_cons.1 hz with rfl|hz
      ·exact⟨x,m,.live,hk,.inl rfl⟩
      ·exact h3 z hz
     ·rcases List.mem_cons.1 hz with rfl|hz
      ·exact⟨Rbj,m,x,hk⟩
      ·exact⟨Rbd _ (h4 z hz).1,(h4 z hz).2⟩
     ·rcases List.mem_cons.1 hz with rfl|hz
      ·exact .inl Rbj
      ·exact (h5 z hz).imp (Rbd _) id
    ·cases h2
   ·cases h2
  ·cases h
theorem Rd.drop (hR:R E.ntmps F σ ρ a w G){deps ds:List (Nat×Nat)}(h:∀ z∈deps,z∈ds\/∃ x m,σ (kR z.1)=some (.root x m z.2 .frozen)){v:Value}{d:D}
  (hv:Rd (allow G deps) w v d):Rd (allow G ds) w v d:=by
 refine hv.mono fun b hb=>⟨?_,rfl⟩
 rcases hb with hb|⟨r,k,p,hm,hb⟩
 ·exact .inl hb
 ·rcases h (r,k) hm with h1|⟨x,m,h1⟩
  ·exact .inr ⟨r,k,p,h1,hb⟩
  ·exact absurd hb ((hR.root h1).2 b p)
def uI (σ:Nat->Option aP)(ρ:List D)(G:Gh)(w:World)(s:SlR)(v:Value):Prop :=
 match s.own with
 |none=>True
 | some (r, k, m, p) => s.deps = [(r, k)] /\ yA σ r k m /\ match p with
  |.no=>True
  |.view=>Rp G.own w r [] m v (s.x.val ρ)
  |.suf sz lo=>Db5 (G.hdr r) v sz (kF ρ lo)
  |.path q=>q.length<=m/\Rp G.own w r (aZ ρ q) (m-q.length) v (s.x.val ρ)/\yG G.own w r [] (G.hdr r) (aZ ρ q) v
structure Va4 (σ:Nat->Option aP) (ρ:List D) (G:Gh) (w:World) (s:SlR) (v:Value):Prop where
 rd:Rd (allow G s.deps) w v (s.x.val ρ)
 live:∀ z∈s.deps,Lak σ z.1 z.2
 nie:s.nie=true->∀ z,s.x.val ρ=.rows z []->v=.slice none 0 0
 own:uI σ ρ G w s v
theorem dM (hR:R E.ntmps F σ ρ a w G){l:aO}{s:SlR}(h:(xD l).eval σ=some s){v:Value}(hl:aB σ ρ G w l v):Va4 σ ρ G w s v:=by
 unfold xD at h;split at h
 ·rename_i r
  simp only[aB]at hl;simp only[aA,aQ,Qb7]at h;split at h
  ·rename_i x m an hk
   simp only[aC,Option.some.injEq]at h;subst h;have hr:=hR.root hk;simp only[bM]at hr;rw[<- hl.1]at hr;refine⟨hr.rd.mono fun b hb=>⟨hb.imp id fun ⟨q,hq⟩=>⟨r,an,q,by simp,hq⟩,rfl⟩,?_,by simp,?_⟩
   ·intro z hz
    simp only[Rbb]at hz;subst hz;exact⟨m,x,hk⟩
   ·refine⟨rfl,⟨x,hk⟩,Nat.zero_le _,by simpa[aZ] using hr,?_⟩
    simp only[aZ,Rbz,yG];exact hl.1
  ·rename_i x m an hk
   simp only[aC,Option.some.injEq]at h;subst h;have hr:=(hR.root hk).1;rw[<- hl.1]at hr;exact⟨hr.mono fun b hb=>⟨.inl hb,rfl⟩,by simp,by simp,trivial⟩
  ·cases h
 ·rename_i deps p nie x
  simp only[aB]at hl;simp only[aA,Qb0]at h;obtain⟨ds,h1,h2⟩:=h;obtain⟨h3,h4,h5⟩:=iG h1;obtain⟨h6,h7,h8⟩:=hl.2 h3;have h9:=h6.drop hR h5;split at h2
  ·simp only[aC,Option.some.injEq]at h2
   subst h2;exact⟨h9,fun z hz=>(h4 z hz).2,h7,trivial⟩
  ·rename_i r k z bh
   simp only[aA,aQ,Qb7]at h2;split at h2
   ·rename_i x' m an hk
    simp only[aC,Option.some.injEq]at h2;subst h2;have hz:=(h4 z (by simp)).1;simp only[Rbb]at hz;subst hz;have ef:Lak σ r k:=(h4 (r,k) (by simp)).2;obtain⟨m',x'',fy⟩:=ef;rw[hk]at fy;obtain⟨rfl,rfl,rfl⟩:x'=x''/\m=m'/\an=k:=by injection fy with fy;injection fy with a b c d;exact⟨a,b,c⟩
    refine⟨h9,fun z hz=>(h4 z hz).2,h7,rfl,⟨x',hk⟩,?_⟩
    cases p with
    |no=>trivial
    |view=>exact h8 r an m rfl ⟨x',hk⟩
    |path q=>exact h8 r an m rfl ⟨x',hk⟩
    |suf sz lo=>exact h8 r an m rfl ⟨x',hk⟩
   ·cases h2
  ·simp only[aC,Option.some.injEq]at h2
   subst h2;exact⟨h9,fun z hz=>(h4 z hz).2,h7,trivial⟩
 ·cases h
theorem Rd.inv {ok:Nat->Prop}{v:Value}{sz:Nat}{rs:List (List D)}(h:Rd ok w v (.rows sz rs)) :
  ∃ (A:Option Addr) (a:Addr) (n c:Nat) (vs:Nat->Nat->Value),v=.slice A n c/\rs.length=n/\n<=c/\(n=0\/A=some a)/\(∀ r∈rs,r.length=sz) /\
   (∀ i r,rs[i]?=some r->∀ j d,r[j]?=some d->ok a.block/\w.cell? (a.add (i*sz+j))=some (vs i j)) /\
   (∀ i r,rs[i]?=some r->∀ j d,r[j]?=some d->Rd ok w (vs i j) d):=by
 cases h with
 |sc h=>cases h
 |rows A a n c sz rs vs hn hc hA b7 aq bd=>exact⟨A,a,n,c,vs,rfl,hn,hc,hA,b7,aq,bd⟩
theorem pG {t:TypeId}{i:TI}{info:TypeInfo}{u:TypeDesc}{e:Nat}(f:bX P t i info u)(h:i.elem=some e):u=.slice e:=by
 have:=f.elem.symm.trans h;unfold Yay at this;split at this
 ·rw[Option.some.inj this]
 ·cases this
theorem Har {t:TypeId}{i:TI}{info:TypeInfo}{u:TypeDesc}(f:bX P t i info u)(h:i.elem.isSome=true):∃ e,u=.slice e:=by
 cases e:i.elem with
 |none=>rw[e]at h;cases h
 |some e'=>exact⟨e',pG f e⟩
theorem Cal {t:TypeId}{i:TI}{info:TypeInfo}{u:TypeDesc}(f:bX P t i info u)(h:i.isStr=true):u=.string:=by
 have:Xaz u=true:=by rw[<- h,f.eq];rfl
 unfold Xaz at this;split at this
 ·rfl
 ·cases this
theorem La9 {t:TypeId}{i:TI}{info:TypeInfo}{u:TypeDesc}(f:bX P t i info u){k off ft:Nat}(h:i.flds[k]?=some (off,ft)) :
  ∃ fs fd,u=.struct fs/\fs[k]?=some fd/\fd.offset=off/\fd.type=ft:=by
 rw[f.flds]at h;unfold Yam at h;split at h
 ·rename_i fs
  simp only[Rbr,Rbc,Prod.mk.injEq]at h;obtain⟨fd,h1,h2,h3⟩:=h;exact⟨fs,fd,rfl,by simpa using h1,h2,h3⟩
 ·simp at h
theorem Mao {α:Type}{as:Array α}{x:α}(h:as.toList=[x]):as=#[x]:=by
 apply Ubm;simpa using h
theorem Cb6 {α:Type}{as:Array α}{x y:α}(h:as.toList=[x,y]):as=#[x,y]:=by
 apply Ubm;simpa using h
theorem lG {b:Builtin}{args:Array Operand}{argTypes:Array TypeId}{s:Sem Value}{v:Value}(ho:o.op=.call { callee:=.builtin b,args,argTypes })
  (hb:∀ consts,builtin b argTypes o.type consts (args.map a.eval)=(do pure (.value (<- s)))) (h:s.run P w=.ok v w'):(execOp a.eval o).run P w=.ok (.value v) w':=by
 unfold execOp;simp only[ho,resolve,Sem.run_bind,Sem.run_pure,Result.andThen_ok,invoke,hb];rw[h];rfl
theorem Qa7 {α γ:Type}(f:α->γ)(x:α):Array.map f #[x]=#[f x]:=by simp
theorem Eb2 {α γ:Type}(f:α->γ)(x y:α):Array.map f #[x,y]=#[f x,f y]:=by simp
theorem Qax {t ty:TypeId}{argTypes:Array TypeId}(ht:argTypes[0]?=some t)(hu:P.underlying t=some .string)(s:ByteArray) :
  (Builtin.len_ argTypes ty #[.string s]).run P w=.ok (.int .i64 s.size) w:=by
 simp[Builtin.len_,ht,run_underlying hu,goInt]
theorem run_len_slice {t ty e:TypeId}{argTypes:Array TypeId}(ht:argTypes[0]?=some t)(hu:P.underlying t=some (.slice e))(A:Option Addr)(n c:Nat) :
  (Builtin.len_ argTypes ty #[.slice A n c]).run P w=.ok (.int .i64 n) w:=by
 simp[Builtin.len_,ht,run_underlying hu,goInt]
theorem Wal (hR:R E.ntmps F σ ρ a w G)(hd:eT E.ntmps o)(hti:uO P E.ti){nv:Nat}{args:Array Operand}{argTypes:Array TypeId}
  (ho:o.op=.call { callee:=.builtin .len,args,argTypes }) {x:Operand} (hx:args.toList=[x]) {t:TypeId} (ht:argTypes[0]?=some t) {ti:TI} (hi:E.ti t=some ti) {res:bJ}
  (h:(do
   let l <- rdL E g t x
   match tZ g l with
   | some a => do
    bI ti.isStr
    sG o g nv .slen [a]
   | none => do
    bI ti.elem.isSome
    let s <- xD l
    sG o g nv .len [s.x]:RdM bJ).eval σ=some res) (hs:aL cf ρ g nv res.lets):fV P E F σ ρ a w g o Q res.upd:=by
 obtain⟨info,u,f⟩:=aU (hti.ok _ _ hi);simp only[aA,Qb0]at h;obtain⟨l,h1,h2⟩:=h;split at h2
 ·rename_i y hy
  simp only[aA,aH,Qb0]at h2;obtain⟨_,h3,h4⟩:=h2;split at h3
  ·rename_i a2y
   obtain rfl:=Cal f a2y;refine cB hR hd h4 hs fun hg d hp=>?_
   have hv:=jC hg hy (eZ hR hg h1);simp only[Rbt,Rbz]at hp;generalize y.val ρ=yv at hp hv;cases yv<;>simp only[aR.run]at hp<;>first|cases hp|skip
   rename_i s;refine⟨_,.int _ _,lG ho (fun _=>rfl) ?_⟩;have e:=Qax (P:=P) (w:=w) (ty:=o.type) ht f.und ⟨s.toArray⟩;rw[<- hv.str_inv]at e;rw[Mao hx,Qa7];exact e
  ·cases h3
 ·rename_i hy
  simp only[aA,aH,Qb0]at h2;obtain⟨_,h3,s,h4,h5⟩:=h2;split at h3
  ·rename_i wv
   obtain⟨e,rfl⟩:=Har f wv;refine cB hR hd h5 hs fun hg d hp=>?_
   have hv:=(dM hR h4 (eZ hR hg h1)).rd;simp only[Rbt,Rbz]at hp;generalize s.x.val ρ=yv at hp hv;cases yv<;>simp only[aR.run]at hp<;>first|cases hp|skip
   rename_i sz rs;obtain⟨A,b,n,c,vs,e1,e2,-⟩:=hv.inv;refine⟨_,.int _ _,lG ho (fun _=>rfl) ?_⟩;have e:=run_len_slice (P:=P) (w:=w) (ty:=o.type) ht f.und A n c;rw[<- e1]at e;rw[Mao hx,e2,Qa7];exact e
  ·cases h3
theorem aD.len {ls:List aO}:∀ {vs:List Value},aD σ ρ G w ls vs->vs.length=ls.length:=by
 induction ls with
 |nil=>intro vs h;simp only[aD]at h;simp[h]
 | cons l ls ih =>
  intro vs h;simp only[aD]at h;obtain⟨u,us,rfl,_,h2⟩:=h;simp[ih h2]
theorem aD.get {ls:List aO}:∀ {vs:List Value} {i:Nat} {l:aO},aD σ ρ G w ls vs->ls[i]?=some l->∃ v,vs[i]?=some v/\aB σ ρ G w l v:=by
 induction ls with
 |nil=>intro vs i l h hi;simp at hi
 | cons l0 ls ih =>
  intro vs i l h hi;simp only[aD]at h;obtain⟨u,us,rfl,h1,h2⟩:=h
  cases i with
  | zero =>
   simp only[Qb9,Option.some.injEq]at hi;subst hi;exact⟨u,rfl,h1⟩
  | succ i =>
   simp only[Rb7]at hi ⊢;exact ih h2 hi
theorem aD.of_get {ls:List aO}:∀ {vs:List Value},vs.length=ls.length->(∀ (i:Nat) (l:aO) (v:Value),ls[i]?=some l->vs[i]?=some v->aB σ ρ G w l v)->aD σ ρ G w ls vs:=by
 induction ls with
 |nil=>intro vs h _;simp only[aD];exact Sbd h
 | cons l0 ls ih =>
  intro vs h hg
  cases vs with
  |nil=>simp at h
  | cons u us =>
   simp only[aD];exact⟨u,us,rfl,hg 0 l0 u rfl rfl,ih (by simpa using h) fun i l v hi hv=>hg (i+1) l v hi hv⟩
theorem aD.drop {ls:List aO}{vs:List Value}(k:Nat)(h:aD σ ρ G w ls vs):aD σ ρ G w (ls.drop k) (vs.drop k):=by
 refine .of_get (by simp[h.len]) fun i l v hi hv=>?_
 rw[Rb3]at hi hv;obtain⟨v',h1,h2⟩:=h.get hi;rw[h1]at hv;exact Option.some.inj hv▸h2
theorem aD.take {ls:List aO}{vs:List Value}(k:Nat)(h:aD σ ρ G w ls vs):aD σ ρ G w (ls.take k) (vs.take k):=by
 refine .of_get (by simp[h.len]) fun i l v hi hv=>?_
 rw[Sbc]at hi hv;split at hi
 ·rename_i hk
  rw[if_pos hk]at hv;obtain⟨v',h1,h2⟩:=h.get hi;rw[h1]at hv;exact Option.some.inj hv▸h2
 ·cases hi
theorem rM {agg:Bool}{ls:List aO}{sv:SV}(h:Sap agg ls=some sv){vs:List Value}(hl:aD σ ρ G w ls vs){v:Value}
  (hv:if agg=true then v=.agg vs.toArray else vs=[v]):bU σ ρ G w sv v:=by
 unfold Sap at h
 cases agg with
 | true =>
  simp only[cond_true,Option.some.injEq]at h;subst h;exact⟨vs,by simpa using hv,hl⟩
 | false =>
  simp only[cond_false]at h;split at h
  ·simp only[Option.some.injEq]at h
   subst h;simp only[Qb4,if_false]at hv;subst hv;simp only[aD]at hl;obtain⟨u,us,e,h1,-⟩:=hl;obtain⟨rfl,-⟩:=List.cons.inj e;exact h1
  ·cases h
theorem Qaq (hR:R E.ntmps F σ ρ a w G)(hd:eT E.ntmps o)(hti:uO P E.ti){nv:Nat}{t:TypeId}{x:Operand}{k:Nat}(ho:o.op=.field t x k){ti fi:TI}{off ft:Nat}
  (hi:E.ti t=some ti) (hf:ti.flds[k]?=some (off,ft)) (hfi:E.ti ft=some fi) {res:bJ}
  (h:(do
   match <- Oac E g t x with
   | .agg ls => do
    bI (Nat.ble (off+fi.size) ls.length&&Nat.beq ls.length ti.size)
    match Sap fi.agg ((ls.drop off).take fi.size) with
    |some v=>Wa6 o g nv v
    |none=>.no
   |_=>.no:RdM bJ).eval σ=some res) (hs:aL cf ρ g nv res.lets):fV P E F σ ρ a w g o Q res.upd:=by
 obtain⟨info,u,f⟩:=aU (hti.ok _ _ hi);obtain⟨fe,u',f'⟩:=aU (hti.ok _ _ hfi);obtain⟨fs,fd,rfl,h1,rfl,rfl⟩:=La9 f hf;simp only[aA,Qb0]at h;obtain⟨sv,h2,h3⟩:=h;split at h3
 ·rename_i ls
  simp only[aA,aH,Qb0]at h3;obtain⟨_,h4,h5⟩:=h3;split at h4
  ·rename_i hb
   simp only[Qb1,Sbb]at hb;split at h5
   ·rename_i sv' df
    refine wZ hR hd h5 hs fun hg=>?_
    obtain⟨vs,e,hl⟩:=fG hR hg h2;have fq:=(hl.drop fd.offset).take fi.size;have hlen:=hl.len
    have aw:∀ v,(if fi.agg=true then v=.agg ((vs.drop fd.offset).take fi.size).toArray else (vs.drop fd.offset).take fi.size=[v]) ->
      (execOp a.eval o).run P w=.ok (.value v) w:=by
     intro v hv;unfold execOp;simp only[ho];refine fC ?_;simp only[Instr.field,Sem.run_bind,run_underlying f.und,Result.andThen_ok,h1,e,asAgg,Sem.run_pure,part,f'.isAgg,f'.sizeOf]
     cases ql:fi.agg with
     | true =>
      rw[ql]at hv;simp only[if_true]at hv ⊢;rw[hv];simp only[Sem.run_bind,f'.sizeOf,Result.andThen_ok,Sem.run_pure];congr 2;apply Ubm;simp[List.extract_eq_take_drop]
     | false =>
      rw[ql]at hv;simp only[Qb4,if_false]at hv ⊢
      have:vs[fd.offset]?=some v:=by
       have h0:((vs.drop fd.offset).take fi.size)[0]?=some v:=by rw[hv];rfl
       rw[Sbc]at h0;split at h0
       ·rw[Rb3]at h0;simpa using h0
       ·cases h0
      simp[this]
    cases ql:fi.agg with
    | true =>
     refine⟨.agg ((vs.drop fd.offset).take fi.size).toArray,rM df fq (by rw[ql];rfl),aw _ (by rw[ql];rfl)⟩
    | false =>
     have jx:((ls.drop fd.offset).take fi.size).length=1:=by
      rw[ql]at df;unfold Sap at df;simp only[cond_false]at df;split at df
      ·rename_i l jx;rw[jx];rfl
      ·cases df
     have qn:((vs.drop fd.offset).take fi.size).length=1:=by rw[fq.len,jx]
     obtain⟨v,hv⟩:=List.length_eq_one_iff.1 qn;exact⟨v,rM df fq (by rw[ql];exact hv),aw _ (by rw[ql];exact hv)⟩
   ·cases h5
  ·cases h4
 ·cases h3
theorem gT.get:∀ {ts:List (Bool×List aO)} {us:List Value} {i:Nat} {ag:Bool} {ls:List aO},gT σ ρ G w ts us->ts[i]?=some (ag,ls) ->
  ∃ u vs,us[i]?=some u/\aD σ ρ G w ls vs/\(if ag=true then u=.agg vs.toArray else vs=[u])
 |[],_,_,_,_,_,h=>by simp at h
 | (a0, l0) :: r, us, i, ag, ls, ht, h => by
  obtain⟨u,bn,vs,rfl,h1,h2,h3⟩:=ht
  cases i with
  | zero =>
   simp only[Qb9,Option.some.injEq,Prod.mk.injEq]at h;obtain⟨rfl,rfl⟩:=h;exact⟨u,vs,rfl,h1,h2⟩
  | succ i =>
   simp only[Rb7]at h ⊢;exact gT.get h3 h
theorem Ka0 (hR:R E.ntmps F σ ρ a w G)(hd:eT E.ntmps o){nv:Nat}{x:Operand}{i:Nat}(ho:o.op=.extract x i){res:bJ}
  (h:(do
   match <- Oac E g 0 x with
   | .tup vs => match vs[i]? with
    | some (a, ls) => match Sap a ls with
     |some v=>Wa6 o g nv v
     |none=>.no
    |none=>.no
   |_=>.no:RdM bJ).eval σ=some res) (hs:aL cf ρ g nv res.lets):fV P E F σ ρ a w g o Q res.upd:=by
 simp only[aA,Qb0]at h;obtain⟨sv,h2,h3⟩:=h;split at h3
 ·rename_i ts
  split at h3
  ·rename_i ag ls hi
   split at h3
   ·rename_i v hv
    refine wZ hR hd h3 hs fun hg=>?_
    obtain⟨us,e,ht⟩:=fG hR hg h2;obtain⟨u,vs,h4,h5,h6⟩:=ht.get hi;refine⟨u,rM hv h5 h6,?_⟩;unfold execOp;simp only[ho];refine fC ?_;simp[Instr.extract,e,h4]
   ·cases h3
  ·cases h3
 ·cases h3
theorem Fa9 (hR:R E.ntmps F σ ρ a w G)(hd:eT E.ntmps o)(hti:uO P E.ti){nv:Nat}{t:TypeId}{x:Operand}{k:Nat}(ho:o.op=.fieldAddr t x k){ti fi:TI}{off ft:Nat}
  (hi:E.ti t=some ti) (hf:ti.flds[k]?=some (off,ft)) (hfi:E.ti ft=some fi) (ew:0<fi.size) {res:bJ}
  (h:(do Qah o g off (<- rdL E g 0 x):RdM bJ).eval σ=some res) (hs:aL cf ρ g nv res.lets):fV P E F σ ρ a w g o Q res.upd:=by
 obtain⟨info,u,f⟩:=aU (hti.ok _ _ hi);obtain⟨fe,u',f'⟩:=aU (hti.ok _ _ hfi);obtain⟨fs,fd,rfl,h1,rfl,rfl⟩:=La9 f hf;simp only[aA,Qb0]at h;obtain⟨l,h2,h3⟩:=h
 have aw:∀ b:Addr,a.eval x=.pointer (some b)->(execOp a.eval o).run P w=.ok (.value (.pointer (some (b.add fd.offset)))) w:=by
  intro b hb;unfold execOp;simp only[ho];refine fC ?_;have bh:¬ fi.size=0:=by omega
  simp only[Instr.fieldAt,Sem.run_bind,run_underlying f.und,Result.andThen_ok,h1,Instr.sureAddr,hb,Sem.run_pure,fieldPlace,f'.sizeOf,if_neg bh]
 unfold Qah at h3;split at h3
 ·rename_i b off
  refine dC hR hd h3 hs fun hg _=>?_
  have hl:=eZ hR hg h2;simp only[aB]at hl;refine⟨_,?_,aw _ hl.1⟩;simp only[bU,aB];exact⟨by rw[add_add],hl.2⟩
 ·rename_i l' sz i off
  refine dC hR hd h3 hs fun hg _=>?_
  have hl:=eZ hR hg h2;simp only[aB]at hl;obtain⟨b,n,c,k',iv,h4,h5,h6,h7,h8⟩:=hl;refine⟨_,?_,aw _ h8⟩;simp only[bU,aB];exact⟨b,n,c,k',iv,h4,h5,h6,h7,by rw[add_add,Rbn]⟩
 ·cases h3
end
section
variable {P:Program} {E:Env} {F:bE} {σ:Nat->Option aP} {ρ:List D} {a:Act} {w w':World} {G:Gh} {g:Option (aI×Bool)} {o:Oper} {cf:Nat->List D->Option (List D)} {Q:Exit->Act->World->Prop} {next:Act->World->Prop}
theorem Fa8 (hR:R E.ntmps F σ ρ a w G)(hd:eT E.ntmps o)(hti:uO P E.ti){nv:Nat}{t:TypeId}{x i:Operand}(ho:o.op=.indexAddr t x i){ti ei:TI}{e:Nat}
  (hi:E.ti t=some ti) (he:ti.elem=some e) (qw:E.ti e=some ei) {res:bJ}
  (h:(do
   let l <- rdL E g t x
   let s <- xD l
   let a <- rdA E g 0 i
   bI (Nat.blt 0 ei.size)
   sH o g [.prim .inb [s.x,a] 0] (.one (.pe l ei.size a 0)) []:RdM bJ).eval σ=some res) (hs:aL cf ρ g nv res.lets):fV P E F σ ρ a w g o Q res.upd:=by
 obtain⟨info,u,f⟩:=aU (hti.ok _ _ hi);obtain⟨fe,u',f'⟩:=aU (hti.ok _ _ qw);obtain rfl:=pG f he;simp only[aA,Qb0,aH]at h;obtain⟨l,h1,s,h2,y,h3,_,h4,h5⟩:=h;refine dC hR hd h5 hs fun hg aj=>?_
 obtain⟨ds,hp,-,-⟩:=step1 aj hg;have hl:=eZ hR hg h1;have dj:=(dM hR h2 hl).rd;have hy:=iO hR hg h3;simp only[Rbt,Rbz]at hp;generalize x4:s.x.val ρ=xv at hp dj;generalize u9:y.val ρ=yv at hp hy;cases xv<;>cases yv<;>simp only[aR.run]at hp<;>first|cases hp|skip
 rename_i sz rs k iv;split at hp
 ·rename_i hb
  obtain⟨A,b,n,c,vs,e1,e2,e3,e4,-⟩:=dj.inv;have hn:n≠0:=by omega
  have hA:A=some b:=e4.resolve_left hn;subst hA;refine⟨.pointer (some (b.add (iv.toNat*ei.size+0))),?_,?_⟩
  ·simp only[bU,aB]
   exact⟨b,n,c,k,iv,e1▸hl,u9,hb.1,by omega,rfl⟩
  ·unfold execOp
   simp only[ho];refine fC ?_;have hlt:(0:Int)<=iv/\iv<(n:Int):=⟨hb.1,by rw[<- e2];exact hb.2⟩;simp only[Instr.indexAt,hy.int_inv,asIntOf,Sem.run_bind,Sem.run_pure,Result.andThen_ok,run_underlying f.und,e1,if_pos hlt,f'.sizeOf,Nat.add_zero]
 ·cases hp
theorem Qap (hR:R E.ntmps F σ ρ a w G)(hd:eT E.ntmps o)(hti:uO P E.ti){nv:Nat}{t:TypeId}{x i:Operand}(ho:o.op=.index t x i){ti:TI}
  (hi:E.ti t=some ti) {res:bJ}
  (h:(do
   bI ti.isStr
   let s <- rdA E g t x
   let a <- rdA E g 0 i
   sG o g nv .sidx [s,a]:RdM bJ).eval σ=some res) (hs:aL cf ρ g nv res.lets):fV P E F σ ρ a w g o Q res.upd:=by
 obtain⟨info,u,f⟩:=aU (hti.ok _ _ hi);simp only[aA,Qb0,aH]at h;obtain⟨_,h0,x',h1,y,h2,h3⟩:=h;split at h0
 ·rename_i aj
  obtain rfl:=Cal f aj;refine cB hR hd h3 hs fun hg d hp=>?_
  have hx:=iO hR hg h1;have hy:=iO hR hg h2;simp only[Rbt,Rbz]at hp;generalize x'.val ρ=xv at hp hx;generalize y.val ρ=yv at hp hy;cases xv<;>cases yv<;>simp only[aR.run]at hp<;>first|cases hp|skip
  rename_i s k iv;split at hp
  ·rename_i h0i
   split at hp
   ·rename_i b hb
    simp only[Option.some.injEq,List.cons.injEq,and_true]at hp;subst hp;refine⟨_,.int _ _,?_⟩;unfold execOp;simp only[ho];refine fC ?_
    have e:(⟨s.toArray⟩:ByteArray)[iv.toNat]?=some b:=by
     have:iv.toNat<s.length:=by
      rcases Rbo iv.toNat s.length with h|h
      ·exact h
      ·rw[Sbj h]at hb;cases hb
     rw[getElem?_pos (⟨s.toArray⟩:ByteArray) iv.toNat (by simpa[ByteArray.size] using this)];rw[Qb3 this]at hb;rw[<- hb];rfl
    simp only[Instr.index,hy.int_inv,hx.str_inv,asIntOf,Sem.run_bind,Sem.run_pure,Result.andThen_ok,run_underlying f.und,if_pos h0i,e]
   ·cases hp
  ·cases hp
 ·cases h0
theorem xE (hR:R E.ntmps F σ ρ a w G)(hg:gOn ρ g=true):∀ {xs:List Operand} {ts:List TypeId} {lk:List SV},(yN E g xs ts).eval σ=some lk ->
  lk.length=xs.length/\∀ (i:Nat) (sv:SV) (x:Operand),lk[i]?=some sv->xs[i]?=some x->bU σ ρ G w sv (a.eval x)
 | [], ts, lk, h => by
  simp only[yN,aC,Option.some.injEq]at h;subst h;simp
 | x :: xs, ts, lk, h => by
  simp only[yN,aA,Qb0,aC,Option.some.injEq]at h;obtain⟨sv,h1,l,h2,rfl⟩:=h;obtain⟨h3,h4⟩:=xE hR hg h2;refine⟨by simp[h3],fun i sv' x' hi hx=>?_⟩
  cases i with
  | zero =>
   simp only[Qb9,Option.some.injEq]at hi hx;subst hi hx;exact fG hR hg h1
  | succ i =>
   simp only[Rb7]at hi hx;exact h4 i sv' x' hi hx
theorem Cax:∀ {lk:List SV} {ls:List aO},uB lk=some ls->ls.length=lk.length/\∀ (i:Nat) (l:aO),ls[i]?=some l->lk[i]?=some (.one l)
 | [], ls, h => by
  simp only[uB,Option.some.injEq]at h;subst h;simp
 | .one l :: r, ls, h => by
  simp only[uB,Rbc]at h;obtain⟨m,h1,rfl⟩:=h;obtain⟨h2,h3⟩:=Cax h1;refine⟨by simp[h2],fun i l' hi=>?_⟩
  cases i with
  |zero=>simp only[Qb9,Option.some.injEq]at hi ⊢;rw[hi]
  |succ i=>simp only[Rb7]at hi ⊢;exact h3 i l' hi
 |.dead::_,_,h=>by simp[uB]at h
 |.agg _::_,_,h=>by simp[uB]at h
 |.tup _::_,_,h=>by simp[uB]at h
theorem Ial (hR:R E.ntmps F σ ρ a w G)(hd:eT E.ntmps o){nv:Nat}{fn:FuncId}{first cD:Array Operand}(ho:o.op=.makeFunc (.func fn) first cD){res:bJ}
  (h:(do
   bI first.isEmpty
   let vs <- yN E g cD.toList []
   let ls <- mJ (uB vs)
   sH o g [] (.one (.clo fn ls)) []:RdM bJ).eval σ=some res) (hs:aL cf ρ g nv res.lets):fV P E F σ ρ a w g o Q res.upd:=by
 simp only[aA,Qb0,aH,aT]at h;obtain⟨_,h0,lk,h1,ls,tW,h2⟩:=h;split at h0
 ·rename_i hf
  refine dC hR hd h2 hs fun hg _=>⟨.func (.func fn) #[] (cD.map a.eval),?_,?_⟩
  ·obtain⟨h3,h4⟩:=xE hR hg h1
   simp only[bU,aB];obtain⟨h5,h6⟩:=Cax tW;refine⟨cD.toList.map a.eval,by rw[<- Array.toList_map,Array.toArray_toList],.of_get (by simp[h3,h5]) fun i l v hi hv=>?_⟩;simp only[Rbr,Rbc]at hv;obtain⟨x,hv,rfl⟩:=hv;exact h4 i _ x (h6 i l hi) hv
  ·unfold execOp
   simp only[ho];refine fC ?_;have:first=#[]:=by simpa using hf
   subst this;simp[Instr.makeFunc]
 ·cases h0
theorem Iak (hR:R E.ntmps F σ ρ a w G)(hd:eT E.ntmps o){nv:Nat}{x:Operand}(ho:o.op=.nilCheck x){res:bJ}
  (h:(do
   match <- rdL E g 0 x with
   | .rp deps sz y => do
    let ds <- vF deps
    sH o g [.prim .ne [y] 0] (.one (.pe (.sn ds .no false y) sz (.c (.int .i64 0)) 0)) []
   |.px b off=>sH o g [] (.one (.px b off)) []
   |.pe l sz i off=>sH o g [] (.one (.pe l sz i off)) []
   |.clo f cs=>sH o g [] (.one (.clo f cs)) []
   |.pn=>sH o g [.prim .ne [.c (.rows 0 [])] 0] (.one (.pe (.sn [] .no false (.c (.rows 0 []))) 0 (.c (.int .i64 0)) 0)) []
   |_=>.no:RdM bJ).eval σ=some res) (hs:aL cf ρ g nv res.lets):fV P E F σ ρ a w g o Q res.upd:=by
 simp only[aA,Qb0]at h;obtain⟨l,h1,h2⟩:=h
 have ma:∀ b,a.eval x=.pointer (some b)->(execOp a.eval o).run P w=.ok (.value (.pointer (some b))) w:=by
  intro b hb;unfold execOp;simp only[ho,hb];rfl
 split at h2
 ·rename_i deps sz y
  simp only[aA,Qb0]at h2;obtain⟨ds,h3,h4⟩:=h2;refine dC hR hd h4 hs fun hg aj=>?_
  obtain⟨zs,hp,-,-⟩:=step1 aj hg;have hl:=eZ hR hg h1;simp only[aB]at hl;obtain⟨qn,hv2,hv3⟩:=iG h3
  rcases hl.2 qn with ⟨e1,z,e2⟩|⟨b,row,e1,e2,e3⟩
  ·simp only[Rbt,Rbz,e2,aR.run]at hp
   simp at hp
  ·refine⟨.pointer (some b),?_,ma b e1⟩
   simp only[bU,aB];refine⟨b,1,1,.i64,0,⟨⟨rfl,fun z hz=>hl.1.2 z (hv2 z hz).1⟩,fun _=>⟨?_,by simp,trivial⟩⟩,rfl,by omega,by simp,by simp[Addr.add]⟩;rw[e2];exact e3.drop hR hv3
 ·rename_i b off
  refine dC hR hd h2 hs fun hg _=>?_
  have hl:=eZ hR hg h1;have fq:=hl;simp only[aB]at fq;exact⟨_,hl,by rw[fq.1];exact ma _ fq.1⟩
 ·rename_i l' sz i off
  refine dC hR hd h2 hs fun hg _=>?_
  have hl:=eZ hR hg h1;have fq:=hl;simp only[aB]at fq;obtain⟨b,n,c,k,iv,-,-,-,-,e⟩:=fq;exact⟨_,hl,by rw[e];exact ma _ e⟩
 ·rename_i f cs
  refine dC hR hd h2 hs fun hg _=>?_
  have hl:=eZ hR hg h1;have fq:=hl;simp only[aB]at fq;obtain⟨vs,e,-⟩:=fq;refine⟨_,hl,?_⟩;unfold execOp;simp only[ho,e];rfl
 ·refine dC hR hd h2 hs fun hg aj=>?_
  obtain⟨zs,hp,-,-⟩:=step1 aj hg;simp[aI.val,aR.run]at hp
 ·cases h2
theorem Bbg {op:BinOp}{x y:Value}{dx dy d:D}(hx:Sc x dx)(hy:Sc y dy)(h:Hb7 op dx dy=some d)(fY:op=.lss\/op=.gtr) :
  ∃ v,Sc v d/\(if op=.lss then Builtin.min2 x y else Builtin.max2 x y).run P w=.ok v w:=by
 unfold Hb7 at h;split at h
 ·rename_i k x' k' y'
  rw[hx.int_inv,hy.int_inv];split at h
  ·rename_i hk
   subst hk;obtain rfl:=Option.some.inj h;refine⟨_,.int _ _,?_⟩
   rcases fY with rfl|rfl
   ·simp[Builtin.min2]
   ·simp[Builtin.max2]
  ·cases h
 ·cases h
theorem Say {op:BinOp}(fY:op=.lss\/op=.gtr):∀ {vs:List Value} {ds:List D} {x:Value} {dx d:D},Sc x dx->vs.length=ds.length->(∀ (i:Nat) (v:Value) (e:D),vs[i]?=some v->ds[i]?=some e->Sc v e) ->
  La8 op dx ds=some d->∃ v,Sc v d/\(vs.foldlM (fun a b=>if op=.lss then Builtin.min2 a b else Builtin.max2 a b) x).run P w=.ok v w
 | [], ds, x, dx, d, hx, hl, _, h => by
  obtain rfl:ds=[]:=Sbd (by simpa using hl.symm);simp only[La8,Option.some.injEq]at h;subst h;exact⟨x,hx,rfl⟩
 | v :: vs, ds, x, dx, d, hx, hl, hg, h => by
  cases ds with
  |nil=>simp at hl
  | cons e es =>
   simp only[La8,Qb0]at h;obtain⟨z,h1,h2⟩:=h;obtain⟨u,h3,h4⟩:=Bbg (P:=P) (w:=w) hx (hg 0 v e rfl rfl) h1 fY;obtain⟨r,h5,h6⟩:=Say fY (vs:=vs) (ds:=es) h3 (by simpa using hl) (fun i v' e' hi he=>hg (i+1) v' e' hi he) h2;refine⟨r,h5,?_⟩;rw[List.foldlM_cons,Sem.run_bind,h4];exact h6
theorem Kae (hg:gOn ρ g=true):∀ {ls:List aO} {xs:List aI},Iaa g ls=some xs->xs.length=ls.length /\
  ∀ (i:Nat) (l:aO) (x:aI) (v:Value),ls[i]?=some l->xs[i]?=some x->aB σ ρ G w l v->Sc v (x.val ρ)
 | [], xs, h => by
  simp only[Iaa,Option.some.injEq]at h;subst h;simp
 | l :: ls, xs, h => by
  simp only[Iaa,Qb0,Rbc]at h;obtain⟨x,h1,ys,h2,rfl⟩:=h;obtain⟨h3,h4⟩:=Kae hg h2;refine⟨by simp[h3],fun i l' x' v hi hx hl=>?_⟩
  cases i with
  | zero =>
   simp only[Qb9,Option.some.injEq]at hi hx;subst hi hx;exact jC hg h1 hl
  | succ i =>
   simp only[Rb7]at hi hx;exact h4 i l' x' v hi hx hl
theorem gL (hR:R E.ntmps F σ ρ a w G)(hd:eT E.ntmps o){nv:Nat}{args:Array Operand}{argTypes:Array TypeId}{b:Builtin}{p:aR}{op:BinOp}
  (hb:(b=.min/\p=.min/\op=.lss)\/(b=.max/\p=.max/\op=.gtr))
  (ho:o.op=.call { callee:=.builtin b,args,argTypes }) {lk:List SV} {ts:List TypeId} {ls:List aO} {xs:List aI} {res:bJ}
  (h1:(yN E g args.toList ts).eval σ=some lk) (h2:uB lk=some ls) (h3:Iaa g ls=some xs)
  (h:(sG o g nv p xs).eval σ=some res) (hs:aL cf ρ g nv res.lets):fV P E F σ ρ a w g o Q res.upd:=by
 refine cB hR hd h hs fun hg d hp=>?_
 obtain⟨h4,h5⟩:=xE hR hg h1;obtain⟨h6,h7⟩:=Cax h2;obtain⟨h8,h9⟩:=Kae (σ:=σ) (ρ:=ρ) (G:=G) (w:=w) hg h3
 have br:∀ (i:Nat) (v:Value) (e:D),(args.toList.map a.eval)[i]?=some v->(xs.map (·.val ρ))[i]?=some e->Sc v e:=by
  intro i v e hv he;simp only[Rbr,Rbc]at hv he;obtain⟨x,hx,rfl⟩:=hv;obtain⟨y,hy,rfl⟩:=he
  have hlt:i<ls.length:=by
   rw[<- h8];exact (List.getElem?_eq_some_iff.1 hy).1
  have hl:ls[i]?=some ls[i]:=Qb3 hlt;exact h9 i _ y _ hl hy (h5 i _ x (h7 i _ hl) hx)
 have hlen:(args.toList.map a.eval).length=(xs.map (·.val ρ)).length:=by
  simp only[Rbh];omega
 generalize gx:args.toList.map a.eval=vs at br hlen;generalize hes:xs.map (·.val ρ)=es at br hlen hp
 have cn:args.map a.eval=vs.toArray:=by
  apply Ubm;simpa using gx
 cases es with
 |nil=>rcases hb with ⟨-,rfl,-⟩ | ⟨-,rfl,-⟩<;>simp[aR.run]at hp
 | cons e es =>
  cases vs with
  |nil=>simp at hlen
  | cons v vs =>
   have hf:La8 op e es=some d:=by
    rcases hb with ⟨-,rfl,rfl⟩|⟨-,rfl,rfl⟩<;>simpa[aR.run] using hp
   obtain⟨r,bo,b9⟩:=Say (P:=P) (w:=w) (op:=op) (by rcases hb with ⟨-,-,rfl⟩|⟨-,-,rfl⟩<;>simp) (br 0 v e rfl rfl) (by simpa using hlen)
    (fun i v' e' hi he=>br (i+1) v' e' hi he) hf
   refine⟨r,bo,?_⟩
   rcases hb with ⟨rfl,rfl,rfl⟩|⟨rfl,rfl,rfl⟩
   ·refine lG ho (s:=Builtin.min_ argTypes o.type (args.map a.eval)) (fun _=>rfl) ?_
    rw[cn];simpa[Builtin.min_] using b9
   ·refine lG ho (s:=Builtin.max_ argTypes o.type (args.map a.eval)) (fun _=>rfl) ?_
    rw[cn];simpa[Builtin.max_] using b9
end
section
variable {P:Program} {E:Env} {F:bE} {σ:Nat->Option aP} {ρ:List D} {a:Act} {w w':World} {G:Gh} {g:Option (aI×Bool)} {o:Oper} {cf:Nat->List D->Option (List D)} {Q:Exit->Act->World->Prop} {next:Act->World->Prop}
def Scs (vs:List Value)(ds:List D):Prop:=vs.length=ds.length/\∀ (i:Nat) (v:Value) (d:D),vs[i]?=some v->ds[i]?=some d->Sc v d
theorem Scs.drop {vs:List Value}{ds:List D}(h:Scs vs ds)(k:Nat):Scs (vs.drop k) (ds.drop k) :=
 ⟨by simp[h.1],fun i v d hv hd=>by rw[Rb3]at hv hd;exact h.2 _ v d hv hd⟩
theorem Scs.take {vs:List Value}{ds:List D}(h:Scs vs ds)(k:Nat):Scs (vs.take k) (ds.take k) :=
 ⟨by simp[h.1],fun i v d hv hd=>by
  rw[Sbc]at hv hd;split at hv
  ·rename_i hk
   rw[if_pos hk]at hd;exact h.2 _ v d hv hd
  ·cases hv⟩
theorem Haq:∀ {ks ls:List Nat} {a b c d:List D},a.length=ks.length->b.length=ks.length->∀ {r:Bool},Pa3 (ks++ls) (a++c) (b++d)=some r ->
  ∃ r1,Pa3 ks a b=some r1/\(r1=true->Pa3 ls c d=some r)/\(r1=false->r=false)
 |[],ls,[],[],c,d,_,_,r,h=>⟨true,rfl,fun _=>h,fun h=>by cases h⟩
 | k :: ks, ls, x :: a, y :: b, c, d, h1, h2, r, h => by
  simp only[Sby,Pa3,Qb0]at h;obtain⟨e,h3,h4⟩:=h
  cases e with
  | true =>
   simp only[if_true]at h4;obtain⟨r1,h5,h6,h7⟩:=Haq (by simpa using h1) (by simpa using h2) h4;exact⟨r1,by simp[Pa3,h3,h5],h6,h7⟩
  | false =>
   simp only[Qb4,if_false,Option.some.injEq]at h4;exact⟨false,by simp[Pa3,h3],(fun h=>by cases h),fun _=>h4.symm⟩
 |[],_,_::_,_,_,_,h,_,_,_=>by simp at h
 |[],_,[],_::_,_,_,_,h,_,_=>by simp at h
 |_::_,_,[],_,_,_,h,_,_,_=>by simp at h
 |_::_,_,_::_,[],_,_,_,h,_,_=>by simp at h
theorem Ibn (l m:List UInt8):((⟨l.toArray⟩:ByteArray)==⟨m.toArray⟩)=(l==m):=by
 have:((⟨l.toArray⟩:ByteArray)==⟨m.toArray⟩)=(l.toArray==m.toArray):=rfl;rw[this];simp
theorem Qbw {x y:D}{r:Bool}(h:eqD 0 x y=some r):∃ k i j,x=.int k i/\y=.int k j/\r=(i==j):=by
 cases x<;>cases y<;>simp only[eqD]at h<;>first|cases h|skip
 split at h
 ·rename_i e
  subst e;exact⟨_,_,_,rfl,rfl,(Option.some.inj h).symm⟩
 ·cases h
theorem Qbv {x y:D}{r:Bool}(h:eqD 1 x y=some r):∃ i j,x=.bool i/\y=.bool j/\r=(i==j):=by
 cases x<;>cases y<;>simp only[eqD]at h<;>first|(cases h;done)|skip
 exact⟨_,_,rfl,rfl,(Option.some.inj h).symm⟩
theorem Qbu {x y:D}{r:Bool}(h:eqD 2 x y=some r):∃ i j,x=.str i/\y=.str j/\r=(i==j):=by
 cases x<;>cases y<;>simp only[eqD]at h<;>first|(cases h;done)|skip
 exact⟨_,_,rfl,rfl,(Option.some.inj h).symm⟩
theorem Mbd {x y:D}{r:Bool}(h:eqD 3 x y=some r):False:=by
 cases x<;>cases y<;>simp[eqD]at h
theorem Mbc {t:TypeId}{x y:Value}{dx dy:D}{b:Bool}(hx:Sc x dx)(hy:Sc y dy)(h:eqD (Eaf (mR P t)) dx dy=some b)(n:Nat):(Op.equalIn (n+1) t x y).run P w=.ok b w:=by
 unfold mR at h;split at h
 ·rename_i k hu
  obtain⟨k1,i,j,rfl,rfl,rfl⟩:=Qbw h;simp[Op.equalIn,run_underlying hu,hx.int_inv,hy.int_inv]
 ·rename_i hu
  obtain⟨i,j,rfl,rfl,rfl⟩:=Qbv h;simp[Op.equalIn,run_underlying hu,hx.bool_inv,hy.bool_inv]
 ·rename_i hu
  obtain⟨l,m,rfl,rfl,rfl⟩:=Qbu h;simp only[Op.equalIn,run_underlying hu,hx.str_inv,hy.str_inv,Sem.run_bind,Result.andThen_ok,Sem.run_pure];rw[Ibn]
 ·exact (Mbd h).elim
 ·exact (Mbd h).elim
 ·exact (Mbd h).elim
def pR (P:Program)(t:TypeId)(vs:List Value)(v:Value):Prop:=match P.underlying t with
 |some (.struct _)=>v=.agg vs.toArray
 |_=>vs=[v]
theorem Oa2 (P:Program)(d:Nat):∀ (fs:List Field) (acc l:List TypeId),fs.foldl (fun acc f=>acc.bind fun l=>(flat P d f.type).bind fun m=>bif Nat.beq f.offset l.length then some (l++m) else none) (some acc)=some l ->
  ∃ ls,l=acc++ls/\(∀ f r,fs=f::r->∃ m,flat P d f.type=some m/\f.offset=acc.length/\∃ fR,ls=m++fR/\r.foldl (fun acc f=>acc.bind fun l=>(flat P d f.type).bind fun m=>bif Nat.beq f.offset l.length then some (l++m) else none) (some (acc++m))=some l)/\(fs=[]->ls=[])
 | [], acc, l, h => by
  simp only[List.foldl_nil,Option.some.injEq]at h;exact⟨[],by simp[h],by simp,fun _=>rfl⟩
 | f :: r, acc, l, h => by
  simp only[List.foldl_cons,Qb7]at h
  cases hm:flat P d f.type with
  | none =>
   rw[hm]at h;simp only[Option.bind_none]at h
   have:∀ (r:List Field),r.foldl (fun acc f=>acc.bind fun l=>(flat P d f.type).bind fun m=>bif Nat.beq f.offset l.length then some (l++m) else none) (none:Option (List TypeId))=none:=by
    intro r
    induction r with
    |nil=>rfl
    |cons _ _ ih=>simpa using ih
   rw[this]at h;cases h
  | some m =>
   rw[hm]at h;simp only[Qb7]at h
   cases ho:Nat.beq f.offset acc.length with
   | false =>
    rw[ho]at h;simp only[cond_false]at h
    have:∀ (r:List Field),r.foldl (fun acc f=>acc.bind fun l=>(flat P d f.type).bind fun m=>bif Nat.beq f.offset l.length then some (l++m) else none) (none:Option (List TypeId))=none:=by
     intro r
     induction r with
     |nil=>rfl
     |cons _ _ ih=>simpa using ih
    rw[this]at h;cases h
   | true =>
    rw[ho]at h;simp only[cond_true]at h;obtain⟨ls,h1,-,-⟩:=Oa2 P d r (acc++m) l h;refine⟨m++ls,by rw[h1,List.append_assoc],fun f' r' e=>?_,by simp⟩;obtain⟨rfl,rfl⟩:=List.cons.inj e;exact⟨m,hm,by simpa using ho,ls,rfl,h⟩
theorem tQ {α:Type}(l:List α)(k m:Nat):(l.drop k).take m++l.drop (k+m)=l.drop k:=by
 rw[<- List.drop_drop,List.take_append_drop]
theorem Ba5 {t:TypeId}{d:Nat}{m:List TypeId}(hm:flat P d t=some m)(hs:Lbj P d t=true)(hc:Mai P d t=true){vs:List Value}{off:Nat}(hl:off+m.length<=vs.length) :
  ∃ v,pR P t ((vs.drop off).take m.length) v/\(part t vs.toArray off).run P w=.ok v w:=by
 unfold Lbj at hs;rw[hm]at hs
 cases hi:P.info? t with
 |none=>rw[hi]at hs;cases hs
 | some i =>
  rw[hi]at hs;simp only[Rbv]at hs
  cases d with
  |zero=>cases hc
  | succ d =>
   simp only[Mai]at hc;simp only[flat]at hm
   cases hu:P.underlying t with
   |none=>rw[hu]at hm;cases hm
   | some u =>
    unfold pR;rw[hu]at hc hm ⊢;simp only[part,Sem.run_bind,Na3 hu,Result.andThen_ok,run_sizeOf hi,Sem.run_ite];cases u<;>first|(cases hc;done)|skip
    case struct fs =>
     refine⟨_,rfl,?_⟩;simp only[Iaz,if_true,Sem.run_bind,run_sizeOf hi,Result.andThen_ok,Sem.run_pure,<- hs];congr 2;apply Ubm;simp[List.extract_eq_take_drop]
    all_goals
     simp only[Option.some.injEq]at hm;subst hm;have hlt:off<vs.length:=by simp only[Sbk]at hl;omega
     refine⟨vs[off],?_,?_⟩
     ·simp only[Sbk]
      rw[List.drop_eq_getElem_cons hlt];rfl
     ·simp[Iaz,Qb3 hlt]
theorem Hap (P:Program)(w:World):∀ (d:Nat) (t:TypeId) (l:List TypeId),Mai P d t=true->flat P d t=some l->∀ (xs ys:List Value) (dx dy:List D) (b:Bool) (x y:Value),
  Scs xs dx->Scs ys dy->xs.length=l.length->ys.length=l.length->pR P t xs x->pR P t ys y->Pa3 (l.map fun t=>Eaf (mR P t)) dx dy=some b ->
  ∀ n,d<=n->(Op.equalIn n t x y).run P w=.ok b w
 |0,t,l,hc,_=>by cases hc
 | d + 1, t, l, hc, hf => by
  intro xs ys dx dy b x y hx hy si hly rz rv he n hn;obtain⟨n,rfl⟩:∃ m,n=m+1:=⟨n-1,by omega⟩
  have rq:(∀ fs,P.underlying t≠some (.struct fs))->flat P (d+1) t=some [t]->(Op.equalIn (n+1) t x y).run P w=.ok b w:=by
   intro tE hft;rw[hf]at hft;obtain rfl:=Option.some.inj hft
   have h1:xs=[x]:=by
    unfold pR at rz;split at rz
    ·rename_i fs hu;exact absurd hu (tE fs)
    ·exact rz
   have h2:ys=[y]:=by
    unfold pR at rv;split at rv
    ·rename_i fs hu;exact absurd hu (tE fs)
    ·exact rv
   subst h1 h2
   match dx,dy,hx.1,hy.1 with
   | [dx], [dy], _, _ =>
    simp only[Rbt,Rbz,Pa3,Qb0]at he;obtain⟨e,h3,h4⟩:=he;have:e=b:=by cases e<;>simpa using h4
    subst this;exact Mbc (hx.2 0 x dx rfl rfl) (hy.2 0 y dy rfl rfl) h3 n
  simp only[Mai]at hc;simp only[flat]at hf
  cases hu:P.underlying t with
  |none=>rw[hu]at hc;cases hc
  | some u =>
   rw[hu]at hc hf;cases u<;>first|(cases hc;done)|skip
   case struct fs =>
    simp only[Qb1,Rbp,Rbu]at hc;obtain⟨um,br⟩:=hc;have nj:x=.agg xs.toArray:=by unfold pR at rz;rw[hu]at rz;exact rz
    have ni:y=.agg ys.toArray:=by unfold pR at rv;rw[hu]at rv;exact rv
    subst nj ni;have hfs:P.fieldsOf t=fs:=by simp[Program.fieldsOf,hu]
    rw[run_equalIn_struct (P:=P) w n t _ _ (by rw[hfs];exact hu) um,hfs];dsimp only at hf;generalize hgl:fs.toList=gs at hf br
    have key : ∀ (gs : List Field) (acc : List TypeId) (b : Bool), (∀ f ∈ gs, (f.name != "_") = true /\ Mai P d f.type = true /\ Lbj P d f.type = true) ->
      gs.foldl (fun acc f=>acc.bind fun l=>(flat P d f.type).bind fun m=>bif Nat.beq f.offset l.length then some (l++m) else none) (some acc)=some l ->
      Pa3 ((l.drop acc.length).map fun t=>Eaf (mR P t)) (dx.drop acc.length) (dy.drop acc.length)=some b ->
      (Op.eqFields n xs.toArray ys.toArray gs).run P w=.ok b w:=by
     intro gs
     induction gs with
     | nil =>
      intro acc b _ mw hq;simp only[List.foldl_nil,Option.some.injEq]at mw;subst mw;have e1:dx.drop acc.length=[]:=List.drop_of_length_le (by rw[<- hx.1];omega);have e2:dy.drop acc.length=[]:=List.drop_of_length_le (by rw[<- hy.1];omega);simp only[List.drop_length,Rbz,e1,e2,Pa3,Option.some.injEq]at hq;subst hq;simp[Op.eqFields]
     | cons f r ih =>
      intro acc b jt mw hq;obtain⟨ls,e1,h1,-⟩:=Oa2 P d (f::r) acc l mw;obtain⟨m,hm,lO,fR,e2,vo⟩:=h1 f r rfl;obtain⟨hname,sE,b7⟩:=jt f Rbj;have hlen:acc.length+m.length<=l.length:=by rw[e1,e2];simp
      have mi:l.drop acc.length=m++fR:=by rw[e1,e2];simp
      rw[mi,Sbr]at hq;rw[<- tQ dx acc.length m.length,<- tQ dy acc.length m.length]at hq
      have jx:((dx.drop acc.length).take m.length).length=(m.map fun t=>Eaf (mR P t)).length:=by
       simp only[Rbq,Sbf,Rbh,<- hx.1];omega
      have eN:((dy.drop acc.length).take m.length).length=(m.map fun t=>Eaf (mR P t)).length:=by
       simp only[Rbq,Sbf,Rbh,<- hy.1];omega
      obtain⟨r1,h2,h3,h4⟩:=Haq jx eN hq;obtain⟨vx,hvx,hpx⟩:=Ba5 (w:=w) hm b7 sE (vs:=xs) (off:=acc.length) (by omega);obtain⟨vy,hvy,hpy⟩:=Ba5 (w:=w) hm b7 sE (vs:=ys) (off:=acc.length) (by omega)
      have heq:=Hap P w d f.type m sE hm _ _ _ _ r1 vx vy ((hx.drop _).take _) ((hy.drop _).take _) (by simp only[Rbq,Sbf];omega)
       (by simp only[Rbq,Sbf];omega) hvx hvy h2 n (by omega)
      have hname' : f.name ≠ "_" := by simpa using hname
      rw[Op.eqFields];simp only[if_pos hname',Sem.run_bind,lO,hpx,hpy,heq,Result.andThen_ok]
      cases r1 with
      | false =>
       obtain rfl:=h4 rfl;simp
      | true =>
       have:=ih (acc++m) b (fun f' xt=>jt f' (Rbd _ xt)) vo (by
        rw[List.length_append,<- List.drop_drop,mi];simpa using h3 rfl)
       simpa using this
    exact key gs [] b (fun f xt=>by
     have:=br f xt;exact⟨this.1.1,this.1.2,this.2⟩) hf (by simpa using he)
   all_goals exact rq (by intro fs e;rw[hu]at e;cases e) (by simp[flat,hu])
theorem Ha9:∀ {ls:List aO} {xs:List aI} {vs:List Value},atoms ls=some xs->aD σ ρ G w ls vs->Scs vs (xs.map (·.val ρ))/\xs.length=ls.length
 | [], xs, vs, h, hl => by
  simp only[atoms,Option.some.injEq]at h;simp only[aD]at hl;subst h hl;exact⟨⟨rfl,by simp⟩,rfl⟩
 | l :: ls, xs, vs, h, hl => by
  cases l<;>simp only[atoms]at h<;>first|(cases h;done)|skip
  simp only[Rbc]at h;obtain⟨ys,h1,rfl⟩:=h;simp only[aD]at hl;obtain⟨u,us,rfl,h2,h3⟩:=hl;obtain⟨⟨h4,h5⟩,h6⟩:=Ha9 h1 h3;refine⟨⟨by simpa using h4,fun i v d hv hd=>?_⟩,by simp[h6]⟩
  cases i with
  | zero =>
   simp only[Qb9,Rbt,Option.some.injEq]at hv hd;subst hv hd;simpa[aB] using h2
  | succ i =>
   simp only[Rbt,Rb7]at hv hd;exact h5 i v d hv hd
theorem Gaa (hR:R E.ntmps F σ ρ a w G)(hd:eT E.ntmps o){nv:Nat}{p:aR}{xs:List aI}{neg:Bool}{op:BinOp}{t ty:TypeId}{x y:Operand}
  (ho:o.op=.binOp op t x y ty) (fY:op=if neg then .neq else .eql) {res:bJ}
  (h:(RdM.ret ⟨[.prim p xs 1]++(bif neg then [.prim .not [.v nv] 1] else []),match o.dst with|some d=>[(kT d,aP.slot none (mkS g (.v (bif neg then nv+1 else nv))))]|none=>[]⟩:RdM bJ).eval σ=some res)
  (hs:aL cf ρ g nv res.lets)
  (hv:gOn ρ g=true->∀ d,p.run (xs.map (·.val ρ))=some [d]->∃ b,d=.bool b/\(eqGuard op t x y (a.eval x) (a.eval y)).run P w=.ok () w /\
   (binOp op t (a.eval x) (a.eval y)).run P w=.ok (.bool (if neg then !b else b)) w):fV P E F σ ρ a w g o Q res.upd:=by
 simp only[aC,Option.some.injEq]at h;subst h;simp only[Eak]
 cases neg with
 | false =>
  simp only[cond_false,Rbs]at hs ⊢;refine⟨fun hg=>?_,fun hg=>Eb0 hR hd hg (Fa2 hs hg)⟩;obtain⟨d,h1,h2⟩:=fF hs hg;obtain⟨b,rfl,h3,h4⟩:=hv hg d h1;refine Ka1 hR hd hg (v:=.bool b) ?_ (by rw[h2];exact .bool _);unfold execOp;simp only[ho];refine fC ?_;rw[Sem.run_bind,h3];exact h4
 | true =>
  simp only[cond_true]at hs ⊢;have jn:aL cf ρ g nv [.prim p xs 1]:=⟨hs.1,trivial⟩;have gz:aL cf ρ g (nv+1) [.prim .not [.v nv] 1]:=⟨hs.2.1,trivial⟩;refine⟨fun hg=>?_,fun hg=>Eb0 hR hd hg (Fa2 gz hg)⟩;obtain⟨d,h1,h2⟩:=fF jn hg;obtain⟨e,h5,h6⟩:=fF gz hg;obtain⟨b,rfl,h3,h4⟩:=hv hg d h1;simp only[Rbt,Rbz,h2,aR.run,Option.some.injEq,List.cons.injEq,and_true]at h5;subst h5;refine Ka1 hR hd hg (v:=.bool (!b)) ?_ (by rw[h6];exact .bool _);unfold execOp;simp only[ho];refine fC ?_;rw[Sem.run_bind,h3];exact h4
theorem Aau {neg:Bool}{op:BinOp}(fY:op=if neg then .neq else .eql){t:TypeId}{x y:Value}{b:Bool}(h:(Op.equal t x y).run P w=.ok b w)
  (hx:∀ k n,x≠.int k n) (hs:∀ s,x≠.string s) (hf:∀ k b,x≠.float k b) (hc:∀ k r i,x≠.complex k r i):(binOp op t x y).run P w=.ok (.bool (if neg then !b else b)) w:=by
 cases neg with
 | false =>
  simp only[Qb4,if_false]at fY;subst fY;unfold binOp
  cases x<;>first
   |exact absurd rfl (hx _ _)
   |exact absurd rfl (hs _)
   |exact absurd rfl (hf _ _)
   |exact absurd rfl (hc _ _ _)
   |(cases y<;>simp[h])
 | true =>
  simp only[if_true]at fY;subst fY;unfold binOp
  cases x<;>first
   |exact absurd rfl (hx _ _)
   |exact absurd rfl (hs _)
   |exact absurd rfl (hf _ _)
   |exact absurd rfl (hc _ _ _)
   |(cases y<;>simp[h])
theorem mO {op:BinOp}{t:TypeId}{x y:Operand}{u v:Value}(h1:u≠.nilIface)(h2:(∀ c,u≠.agg c)\/P.eqGuardType P.depth t=false):(eqGuard op t x y u v).run P w=.ok () w:=by
 unfold eqGuard
 rcases h2 with h2|h2
 ·cases op<;>cases u<;>cases v<;>first|rfl|exact absurd rfl h1|exact absurd rfl (h2 _)
 ·cases op<;>cases u<;>cases v<;>first|rfl|exact absurd rfl h1|simp[h2]
theorem Cb4 {t:TypeId}{i:TI}{info:TypeInfo}{u:TypeDesc}(f:bX P t i info u)(h:i.isBool=true):u=.bool:=by
 have:Rab u=true:=by rw[<- h,f.eq];rfl
 unfold Rab at this;split at this
 ·rfl
 ·cases this
theorem Ebx {t:TypeId}{i:TI}{info:TypeInfo}{u:TypeDesc}(f:bX P t i info u)(h:i.isPtr=true):∃ e,u=.pointer e:=by
 have:Xa0 u=true:=by rw[<- h,f.eq];rfl
 unfold Xa0 at this;split at this
 ·exact⟨_,rfl⟩
 ·cases this
theorem Xaa {neg:Bool}{op:BinOp}(h:op=if neg then .neq else .eql):(bif neg then BinOp.neq else .eql)=op:=by cases neg<;>simp[h]
theorem Ka4 {t:TypeId}{ti:TI}{info:TypeInfo}{u:TypeDesc}(f:bX P t ti info u)(mo:ti.cmp=true){xs ys:List Value}{dx dy:List D}{b:Bool}(hx:Scs xs dx)(hy:Scs ys dy)
  (si:xs.length=ti.size) (hly:ys.length=ti.size) (h:Pa3 (ti.cells.map Eaf) dx dy=some b) :
  (Op.equal t (.agg xs.toArray) (.agg ys.toArray)).run P w=.ok b w/\P.eqGuardType P.depth t=false:=by
 have hc:ti.cmp=(Iaz u&&Mai P 12 t&&!(P.eqGuardType P.depth t)):=by rw[f.eq];rfl
 rw[hc]at mo;simp only[Qb1,Rbp]at mo;obtain⟨⟨iy,jt⟩,vd⟩:=mo;have cP:=f.cells;simp only[Rbc]at cP;obtain⟨l,jx,eN⟩:=cP;have hlen:=f.len;rw[<- eN]at hlen h;simp only[Rbh]at hlen;rw[List.map_map]at h
 have aj:∃ fs,u=.struct fs:=by
  have hu:=f.und;simp only[Mai,hu]at jt;cases u<;>first|(cases iy;done)|(cases jt;done)|exact⟨_,rfl⟩
 obtain⟨fs,rfl⟩:=aj;refine⟨?_,vd⟩;exact Hap P w 12 t l jt jx xs ys dx dy b _ _ hx hy (by omega) (by omega) (by unfold pR;rw[f.und]) (by unfold pR;rw[f.und]) h 10000 (by omega)
theorem Yas {t:TypeId}(hu:P.underlying t=some .bool)(b c:Bool)(n:Nat):(Op.equalIn (n+1) t (.bool b) (.bool c)).run P w=.ok (b==c) w:=by
 simp[Op.equalIn,run_underlying hu]
theorem Cbg {t e:TypeId}(hu:P.underlying t=some (.slice e))(x y p q:Nat)(n:Nat):(Op.equalIn (n+1) t (.slice none x y) (.slice none p q)).run P w=.ok true w:=by
 simp[Op.equalIn,run_underlying hu]
theorem Yar {t e:TypeId}(hu:P.underlying t=some (.slice e))(a:Addr)(x y p q:Nat)(n:Nat):(Op.equalIn (n+1) t (.slice (some a) x y) (.slice none p q)).run P w=.ok false w:=by
 simp[Op.equalIn,run_underlying hu]
theorem Cbf {t e:TypeId}(hu:P.underlying t=some (.pointer e))(A:Option Addr)(n:Nat):(Op.equalIn (n+1) t (.pointer A) (.pointer none)).run P w=.ok A.isNone w:=by
 cases A<;>simp[Op.equalIn,run_underlying hu]
theorem Sau (hR:R E.ntmps F σ ρ a w G)(hd:eT E.ntmps o)(hti:uO P E.ti){nv:Nat}{neg:Bool}{op:BinOp}{t ty:TypeId}{x y:Operand}
  (ho:o.op=.binOp op t x y ty) (fY:op=if neg then .neq else .eql) {res:bJ}
  (h:(Lbk E nv o g neg t x y).eval σ=some res) (hs:aL cf ρ g nv res.lets):fV P E F σ ρ a w g o Q res.upd:=by
 unfold Lbk at h;simp only[aA,Qb0]at h;obtain⟨va,h1,vb,h2,h3⟩:=h;split at h3
 ·
  rename_i ls ms;simp only[aA,Qb0,tiR,aT]at h3;obtain⟨ti,hi,h4⟩:=h3;obtain⟨info,u,f⟩:=aU (hti.ok _ _ hi);split at h4
  ·rename_i xs ys jm ib
   simp only[aA,Qb0,aH]at h4;obtain⟨_,h5,h6⟩:=h4;split at h5
   ·rename_i hb
    simp only[Qb1,Rbv]at hb;obtain⟨⟨mo,si⟩,hly⟩:=hb;refine Gaa hR hd ho fY h6 hs fun hg d hp=>?_
    obtain⟨vx,ex,a2h⟩:=fG hR hg h1;obtain⟨vy,ey,a1w⟩:=fG hR hg h2;obtain⟨kb,gg⟩:=Ha9 jm a2h;obtain⟨th,tj⟩:=Ha9 ib a1w;have eV:(ti.cells.map Eaf).length=xs.length:=by rw[Rbh,f.len];omega
    simp only[aR.run,eV,Sbr,Rbh,Rbc,List.cons.injEq,and_true]at hp;obtain⟨b,hp,rfl⟩:=hp;rw[List.take_left' (by simp),List.drop_left' (by simp)]at hp;have a3n:=kb.1;have a1i:=th.1;simp only[Rbh]at a3n a1i;obtain⟨h7,h8⟩:=Ka4 (w:=w) f mo kb th (by omega) (by omega) hp;refine⟨b,rfl,?_,?_⟩
    ·rw[ex];exact mO (by simp) (.inr h8)
    ·rw[ex,ey];exact Aau fY h7 (by simp) (by simp) (by simp) (by simp)
   ·cases h5
  ·cases h4
 ·rename_i l m
  simp only[aA,Qb0,tiR,aT]at h3;obtain⟨ti,hi,h4⟩:=h3;obtain⟨info,u,f⟩:=aU (hti.ok _ _ hi);split at h4
  ·
   rename_i p q hp hq;rw[gF]at h4;have hx:gOn ρ g=true->Sc (a.eval x) (p.val ρ):=fun hg=>jC hg hp (fG hR hg h1)
   have hy:gOn ρ g=true->Sc (a.eval y) (q.val ρ):=fun hg=>jC hg hq (fG hR hg h2)
   split at h4
   ·rename_i zk
    obtain rfl:=Cb4 f zk;refine cB hR hd h4 hs fun hg d km=>?_
    have hx:=hx hg;have hy:=hy hg;simp only[Rbt,Rbz]at km;generalize p.val ρ=pv at hx km;generalize q.val ρ=qv at hy km;cases pv<;>cases qv<;>simp only[aR.run]at km<;>first|(cases km;done)|skip
    rename_i b c;simp only[Option.some.injEq,List.cons.injEq,and_true]at km;subst km;refine⟨.bool (if neg then !(b==c) else b==c),.bool _,?_⟩;unfold execOp;simp only[ho,hx.bool_inv,hy.bool_inv];refine fC ?_;rw[Sem.run_bind,mO (by simp) (.inl (by simp))]
    have he:(Op.equal t (.bool b) (.bool c)).run P w=.ok (b==c) w:=by
     unfold Op.equal Op.maxDepth;exact Yas f.und b c 9999
    exact Aau fY he (by simp) (by simp) (by simp) (by simp)
   ·rw[Xaa fY]at h4
    exact Naw hR hd ho hx hy h4 hs
  ·rw[gF]at h4
   split at h4
   ·
    rename_i c7;simp only[aA,Qb0,aH]at h4;obtain⟨_,h5,s,h6,r0,h8,h7⟩:=h4;split at h5
    ·rename_i wv
     obtain⟨e,rfl⟩:=Har f wv
     have gn:aL cf ρ g nv r0.lets->(gOn ρ g=true->∀ z,s.x.val ρ=.rows z []->s.nie=true)->fV P E F σ ρ a w g o Q r0.upd:=by
      intro hs bh;refine Gaa hR hd ho fY h8 hs fun hg d hp=>?_
      have dj:=dM hR h6 (fG hR hg h1);simp only[Rbt,Rbz]at hp;have eo:=dj.rd;have qh:∀ z,s.x.val ρ=.rows z []->a.eval x=.slice none 0 0:=fun z hz=>dj.nie (bh hg z hz) z hz
      generalize s.x.val ρ=sv at hp eo qh;cases sv<;>simp only[aR.run]at hp<;>first|(cases hp;done)|skip
      rename_i sz rs;simp only[Option.some.injEq,List.cons.injEq,and_true]at hp;subst hp;obtain⟨A,b,n,c,vs,e1,e2,e3,e4,-⟩:=eo.inv
      have hy:∃ n' c',a.eval y=.slice none n' c':=by
       unfold Ja5 at c7;split at c7
       ·rename_i n' c';exact⟨n',c',rfl⟩
       ·cases c7
      obtain⟨n',c',hy⟩:=hy;refine⟨rs.isEmpty,rfl,?_,?_⟩
      ·rw[e1];exact mO (by simp) (.inl (by simp))
      ·have he:(Op.equal t (a.eval x) (a.eval y)).run P w=.ok rs.isEmpty w:=by
        unfold Op.equal Op.maxDepth
        cases vh:rs with
        | nil =>
         rw[qh sz (by rw[vh]),hy];exact Cbg f.und _ _ _ _ 9999
        | cons r rs' =>
         have:A=some b:=e4.resolve_left (by rw[<- e2,vh];simp);rw[e1,hy,this];exact Yar f.und _ _ _ _ _ 9999
       rw[e1]at he ⊢;exact Aau fY he (by simp) (by simp) (by simp) (by simp)
     simp only[aC,Option.some.injEq]at h7;subst h7
     cases hnie:s.nie with
     | true =>
      rw[hnie]at hs;exact gn hs fun _ _ _=>hnie
     | false =>
      rw[hnie]at hs;refine gn hs.2 fun hg z hz=>?_
      obtain⟨ds,h9,-⟩:=hs.1.1 hg;simp only[Rbt,Rbz]at h9;rw[hz]at h9;simp[aR.run]at h9
    ·cases h5
   ·rw[gF]at h4
    split at h4
    ·
     rename_i c7;simp only[aA,Qb0,aH]at h4;obtain⟨_,h5,h6⟩:=h4;split at h5
     ·rename_i hpt
      obtain⟨e,rfl⟩:=Ebx f hpt
      have hy:a.eval y=.pointer none:=by
       unfold Tad at c7;split at c7
       ·rfl
       ·cases c7
      have heq:∀ A,a.eval x=.pointer A->(Op.equal t (a.eval x) (a.eval y)).run P w=.ok A.isNone w:=by
       intro A hA;unfold Op.equal Op.maxDepth;rw[hA,hy];exact Cbf f.und A 9999
      have aw:∀ A,a.eval x=.pointer A->(eqGuard op t x y (a.eval x) (a.eval y)).run P w=.ok () w/\(binOp op t (a.eval x) (a.eval y)).run P w=.ok (.bool (if neg then !A.isNone else A.isNone)) w:=by
       intro A hA;refine⟨by rw[hA];exact mO (by simp) (.inl (by simp)),?_⟩;have:=heq A hA;rw[hA]at this ⊢;exact Aau fY this (by simp) (by simp) (by simp) (by simp)
      have hconst:∀ (c:Bool) (nvx:Nat),(sG o g nv .id [.c (.bool c)]).eval σ=some res->(gOn ρ g=true->∃ A,a.eval x=.pointer A/\c=(if neg then !A.isNone else A.isNone))->fV P E F σ ρ a w g o Q res.upd:=by
       intro c _ h7 hc;refine cB hR hd h7 hs fun hg d hp=>?_
       simp only[Rbt,Rbz,aI.val,aR.run,Option.some.injEq,List.cons.injEq,and_true]at hp;subst hp;obtain⟨A,hA,rfl⟩:=hc hg;refine⟨_,.bool _,?_⟩;unfold execOp;simp only[ho];refine fC ?_;rw[Sem.run_bind,(aw A hA).1];exact (aw A hA).2
      split at h6
      ·rename_i deps sz z
       simp only[aA,Qb0]at h6;obtain⟨ds,h7,h8⟩:=h6;refine Gaa hR hd ho fY h8 hs fun hg d hp=>?_
       have hl:=fG hR hg h1;simp only[bU,aB]at hl;simp only[Rbt,Rbz]at hp
       rcases hl.2 (iG h7).1 with ⟨e1,z',e2⟩|⟨b,row,e1,e2,-⟩
       ·rw[e2]at hp
        simp only[aR.run,List.isEmpty_nil,Option.some.injEq,List.cons.injEq,and_true]at hp;exact⟨true,hp.symm,aw none e1⟩
       ·rw[e2]at hp
        simp only[aR.run,List.isEmpty_cons,Option.some.injEq,List.cons.injEq,and_true]at hp;exact⟨false,hp.symm,aw (some b) e1⟩
      ·refine hconst _ 0 h6 fun hg=>?_
       have hl:=fG hR hg h1;simp only[bU,aB]at hl;exact⟨none,hl,by cases neg<;>rfl⟩
      ·refine hconst _ 0 h6 fun hg=>?_
       have hl:=fG hR hg h1;simp only[bU,aB]at hl;exact⟨_,hl.1,by cases neg<;>rfl⟩
      ·refine hconst _ 0 h6 fun hg=>?_
       have hl:=fG hR hg h1;simp only[bU,aB]at hl;obtain⟨_,_,_,_,_,_,_,_,_,e⟩:=hl;exact⟨_,e,by cases neg<;>rfl⟩
      ·cases h6
     ·cases h5
    ·cases h4
 ·cases h3
end
section
variable {P:Program} {E:Env} {F:bE} {σ:Nat->Option aP} {ρ:List D} {a:Act} {w w':World} {G:Gh} {g:Option (aI×Bool)} {o:Oper} {cf:Nat->List D->Option (List D)} {Q:Exit->Act->World->Prop} {next:Act->World->Prop}
theorem jP {t:TypeId}{i:TI}{info:TypeInfo}{u:TypeDesc}(f:bX P t i info u)(b:Addr)(cs:List Value)(hl:cs.length=i.size)
  (h:∀ j v,cs[j]?=some v->w.cell? (b.add j)=some v) {v:Value} (hv:if i.agg=true then v=.agg cs.toArray else cs=[v]):(loadVar t b).run P w=.ok v w:=by
 unfold loadVar;rw[Sem.run_bind,f.isAgg];simp only[Result.andThen_ok];split at hv
 ·rename_i iy
  rw[if_pos iy,Sem.run_bind,f.sizeOf];simp only[Result.andThen_ok];rw[Sem.run_bind,<- hl,run_loadCells_list w b cs h];simp only[Result.andThen_ok,Sem.run_pure,hv]
 ·rename_i iy
  rw[if_neg iy,run_load];have:=h 0 v (by rw[hv];rfl);simp only[Addr.add,if_true]at this;rw[this]
theorem kN (b:Addr):∀ (ls:List aO) (k:Nat),(∀ j l,ls[j]?=some l->∃ v,w.cell? (b.add (k+j))=some v/\aB σ ρ G w l v) ->
  ∃ vs,aD σ ρ G w ls vs/\∀ j v,vs[j]?=some v->w.cell? (b.add (k+j))=some v
 |[],k,_=>⟨[],by simp[aD],by simp⟩
 | l :: ls, k, h => by
  obtain⟨u,h1,h2⟩:=h 0 l rfl
  obtain⟨us,h3,h4⟩:=kN b ls (k+1) fun j l' hj=>by
   have:=h (j+1) l' (by simpa using hj);rwa[show k+1+j=k+(j+1) by omega]
  refine⟨u::us,by simp only[aD];exact⟨u,us,rfl,h2,h3⟩,fun j v hj=>?_⟩
  cases j with
  | zero =>
   simp only[Qb9,Option.some.injEq]at hj;exact hj▸h1
  | succ j =>
   have:=h4 j v (by simpa using hj);rwa[show k+(j+1)=k+1+j by omega]
theorem yG.snoc {own:Nat->Ow}{r k:Nat}{c:Addr}{n m:Nat}{u':Value}:∀ (p q:List Nat) (v:Value),yG own w r q v p (.slice (some c) n m)->own c.block=.slc r (q++p)->w.cell? (c.add k)=some u'->yG own w r q v (p++[k]) u'
 | [], q, v, h, ho, hc => by
  simp only[yG]at h;simp only[List.nil_append,yG];exact⟨c,n,m,u',h.symm,by simpa using ho,hc,rfl⟩
 | j :: p, q, v, h, ho, hc => by
  obtain⟨a',n',c',u1,rfl,h1,h2,h3⟩:=h;simp only[Sby,yG];exact⟨a',n',c',u1,rfl,h1,h2,yG.snoc p (q++[j]) u1 h3 (by simpa using ho) hc⟩
theorem Rd.sc_inv {ok:Nat->Prop}{v:Value}{d:D}(h:Rd ok w v d)(hd:d.isSc=true):Sc v d:=by
 cases h with
 |sc h=>exact h
 |hole=>simp[D.isSc]at hd
 |rows=>simp[D.isSc]at hd
theorem Rp.zero {own:Nat->Ow}{r:Nat}{p:List Nat}{v:Value}{d:D}(h:Rp own w r p 0 v d):Rd (fun b=>own b=.frz) w v d:=by
 generalize hm:0=m at h
 cases h with
 |sc h=>exact .sc h
 |hole _ h1=>exact .hole _ h1
 |fz h=>exact h
 |sl=>omega
theorem Zah {s:SlR}{c:Addr}{n cap:Nat}(h:Va4 σ ρ G w s (.slice (some c) n cap)){sz:Nat}{rs:List (List D)}(hx:s.x.val ρ=.rows sz rs){i:aI}{k:IntKind}{iv:Int}(hi:i.val ρ=.int k iv)
  {row:List D} (hr:rs[iv.toNat]?=some row) {off:Nat} {d:D} (hd:row[off]?=some d) (ck:CK) (hk:Eb7 ck=true->d.isSc=true) {y:aI} (hy:y.val ρ=d) :
  ∃ v,w.cell? (c.add (iv.toNat*sz+off))=some v/\aB σ ρ G w (iU s i sz off ck y) v:=by
 have eo:=h.rd;rw[hx]at eo;obtain⟨A,c',n',ez,vs,e1,e2,e3,e4,e5,e6,e7⟩:=eo.inv;obtain⟨rfl,rfl,rfl⟩:some c=A/\n=n'/\cap=ez:=by injection e1 with a b c;exact⟨a,b,c⟩
 have hlt:iv.toNat<rs.length:=by
  rcases Rbo iv.toNat rs.length with h|h
  ·exact h
  ·rw[Sbj h]at hr;cases hr
 have hc:c=c':=by
  rcases e4 with e4|e4
  ·omega
  ·exact Option.some.inj e4
 subst hc;obtain⟨-,aq⟩:=e6 _ _ hr _ _ hd;have bd:=e7 _ _ hr _ _ hd;refine⟨_,aq,?_⟩
 cases ck with
 | sc z =>
  simp only[iU,aB];rw[hy];exact bd.sc_inv (hk rfl)
 |pn=>simpa only[iU,aB] using bd.one
 |ot=>simpa only[iU,aB] using bd.one
 | sl z =>
  have hex:∀ z∈s.deps,iJ σ z.1 z.2:=fun z hz=>by
   obtain⟨m,hl⟩:=h.live z hz;exact hl.valid.known
  have a3p:aB σ ρ G w (.sn s.deps .no false y) (vs iv.toNat off):=by
   simp only[aB];exact⟨⟨bd.one,hex⟩,fun _=>⟨by rw[hy];exact bd,by simp,trivial⟩⟩
  simp only[iU];have ab:=h.own;unfold uI at ab;split
  ·rename_i r k' m p ho
   rw[ho]at ab;obtain⟨h1,h2,h3,h4,h5⟩:=ab;rw[hx]at h4
   cases hm:m-p.length with
   | zero =>
    have:Nat.ble (p.length+2) m=false:=by
     cases hb:Nat.ble (p.length+2) m with
     |false=>rfl
     |true=>simp only[Sbb]at hb;omega
    rw[this,cond_false];rw[hm]at h4;obtain⟨A',c'',n'',tA,pN,xy,e2',e3',n9,e5',e6',e7'⟩:=h4.zero.inv;obtain⟨rfl,rfl,rfl⟩:some c=A'/\n=n''/\cap=tA:=by injection xy with a b c;exact⟨a,b,c⟩
    have hc:c=c'':=by
     rcases n9 with n9|n9
     ·omega
     ·exact Option.some.inj n9
    subst hc;obtain⟨-,et⟩:=e6' _ _ hr _ _ hd;rw[aq]at et;simp only[aB];refine⟨⟨bd.one,by simp⟩,fun _=>⟨?_,by simp,trivial⟩⟩;rw[hy,Option.some.inj et];exact (e7' _ _ hr _ _ hd).mono fun b hb=>⟨.inl hb,rfl⟩
   | succ m' =>
    rw[hm]at h4
    cases h4 with
    |sc h=>cases h
    | sl A' c'' n'' tA _ _ pN e2' e3' n9 e5' e6' e7' e8' =>
     have hc:c=c'':=by
      rcases n9 with n9|⟨n9,-⟩
      ·exact Option.some.inj n9
      ·cases n9
     subst hc;obtain⟨-,jf,-⟩:=e6' rfl;have et:=e7' _ _ hr _ _ hd;have oR:=e8' _ _ hr _ _ hd;rw[aq]at et;rw[<- Option.some.inj et]at oR
     cases hb:Nat.ble (p.length+2) m with
     | false =>
      rw[cond_false]
      have:m'=0:=by
       have:¬ p.length+2<=m:=by rw[<- Sbb,hb];simp
       omega
      subst this;simp only[aB];refine⟨⟨bd.one,by simp⟩,fun _=>⟨?_,by simp,trivial⟩⟩;rw[hy];exact oR.zero.mono fun b hb=>⟨.inl hb,rfl⟩
     | true =>
      rw[cond_true];simp only[Sbb]at hb
      have wq:aZ ρ (p++[(i,sz,off)])=aZ ρ p++[iv.toNat*sz+off]:=by
       simp[aZ,kF,hi]
      simp only[aB];refine⟨⟨bd.one,fun z hz=>?_⟩,fun _=>⟨?_,by simp,?_⟩⟩
      ·simp only[Rbb]at hz
       subst hz;exact h2.valid.known
      ·rw[hy]
       rw[h1]at bd;exact bd
      ·simp only[Cac]
       intro r2 k2 m2 e2 eN;obtain⟨rfl,rfl⟩:r=r2/\k'=k2:=by simpa using e2
       obtain⟨x1,ex1⟩:=h2;obtain⟨x2,qx⟩:=eN;rw[ex1]at qx;obtain rfl:m=m2:=by injection qx with qx;injection qx
       refine⟨by simp;omega,?_,?_⟩
       ·rw[wq,hy,show m-(p++[(i,sz,off)]).length=m' by simp;omega]
        exact oR
       ·rw[wq]
        exact h5.snoc _ _ _ (by simpa using jf) aq
  ·exact a3p
theorem Gay:∀ {ks:List Bool} {ds:List D},Ca1 ks ds=true->∀ (j:Nat) (d:D),ks[j]?=some true->ds[j]?=some d->d.isSc=true
 |[],ds,_,j,d,hk,_=>by simp at hk
 |k::ks,[],h,j,d,hk,hd=>by simp at hd
 | k :: ks, e :: ds, h, j, d, hk, hd => by
  simp only[Ca1,Qb1,Sbe,Rbp]at h
  cases j with
  | zero =>
   simp only[Qb9,Option.some.injEq]at hk hd;subst hk hd;simpa using h.1
  |succ j=>exact Gay h.2 j d (by simpa using hk) (by simpa using hd)
theorem Car {t:TypeId}{b:Addr}{v:Value}(h:(loadVar t b).run P w=.ok v w):(Instr.loadAt t (.pointer (some b))).run P w=.ok v w:=by
 simp only[Instr.loadAt,Instr.sureAddr,Sem.run_bind,Sem.run_pure,Result.andThen_ok,h]
theorem wK (s:SlR)(i:aI)(sz:Nat):∀ (cs:List CK) (off y j:Nat) (l:aO),(dX s i sz off cs y)[j]?=some l->∃ c,cs[j]?=some c/\l=iU s i sz (off+j) c (.v (y+j))
 |[],off,y,j,l,h=>by simp[dX]at h
 | c :: cs, off, y, j, l, h => by
  simp only[dX]at h
  cases j with
  | zero =>
   simp only[Qb9,Option.some.injEq]at h;exact⟨c,rfl,h.symm⟩
  | succ j =>
   obtain⟨c',h1,h2⟩:=wK s i sz cs (off+1) (y+1) j l (by simpa using h);exact⟨c',by simpa using h1,by rw[h2];congr 1<;>first|omega|(congr 1;omega)⟩
theorem wJ (s:SlR)(i:aI)(sz:Nat):∀ (cs:List CK) (off y:Nat),(dX s i sz off cs y).length=cs.length
 |[],_,_=>rfl
 |c::cs,off,y=>by simp[dX,wJ s i sz cs (off+1) (y+1)]
theorem Cak {agg:Bool}{ls:List aO}{sv:SV}(h:Sap agg ls=some sv){vs:List Value}(hl:vs.length=ls.length):∃ v,if agg=true then v=.agg vs.toArray else vs=[v]:=by
 cases agg with
 |true=>exact⟨_,rfl⟩
 | false =>
  simp only[Sap,cond_false]at h;split at h
  ·match vs,hl with
   |[v],_=>exact⟨v,rfl⟩
  ·cases h
theorem Wau {sz off:Nat}{ks:List Bool}{x i:D}{ds:List D}(h:(aR.row sz off ks).run [x,i]=some ds) :
  ∃ rs k iv row,x=.rows sz rs/\i=.int k iv/\0<=iv/\rs[iv.toNat]?=some row/\off+ks.length<=row.length/\Ca1 ks (row.drop off)=true/\ds=(row.drop off).take ks.length:=by
 cases x<;>cases i<;>simp only[aR.run]at h<;>first|cases h|skip
 rename_i ll rs k iv;split at h
 ·rename_i h1
  obtain⟨rfl,h1⟩:=h1;split at h
  ·rename_i row hr
   split at h
   ·rename_i h2
    simp only[Option.some.injEq]at h;exact⟨rs,k,iv,row,rfl,rfl,h1,hr,h2.1,h2.2,h.symm⟩
   ·cases h
  ·cases h
 ·cases h
theorem Uaq (hR:R E.ntmps F σ ρ a w G)(hd:eT E.ntmps o)(hti:uO P E.ti){nv:Nat}{t:TypeId}{x:Operand}(ho:o.op=.load t x){ti:TI}
  (hi:E.ti t=some ti) {p:aO} (hp:gOn ρ g=true->aB σ ρ G w p (a.eval x)) {res:bJ}
  (h:(Saj nv o g ti p).eval σ=some res) (hs:aL cf ρ g nv res.lets):fV P E F σ ρ a w g o Q res.upd:=by
 obtain⟨info,u,f⟩:=aU (hti.ok _ _ hi)
 have hex:∀ {v:Value},(Instr.loadAt t (a.eval x)).run P w=.ok v w->(execOp a.eval o).run P w=.ok (.value v) w:=by
  intro v hv;unfold execOp;simp only[ho];exact fC hv
 unfold Saj at h;split at h
 ·rename_i b off
  simp only[aA,aQ,Qb7]at h;split at h
  ·rename_i ro bs hk
   simp only[aA,Qb0,aH]at h;obtain⟨_,cR,h⟩:=h;split at cR
   ·rename_i hle
    simp only[Sbb]at hle;split at h
    ·rename_i sv df
     refine wZ hR hd h hs fun hg=>?_
     have hl:=hp hg;simp only[aB]at hl;obtain⟨h1,h2,h3⟩:=hR.box hk
     obtain⟨vs,h4,h5⟩:=kN (σ:=σ) (ρ:=ρ) (G:=G) (w:=w) ((G.bx b).add off) ((bs.drop off).take ti.size) 0 fun j l hj=>by
      rw[Sbc]at hj;split at hj
      ·rw[Rb3]at hj
       obtain⟨v,h6,-,h7⟩:=h3 _ _ hj;refine⟨v,?_,h7⟩;rw[Rby,add_add];exact h6
      ·cases hj
     have hlen:vs.length=ti.size:=by
      rw[h4.len];simp;omega
     obtain⟨v,hv⟩:=Cak df h4.len;refine⟨v,rM df h4 hv,hex ?_⟩;rw[hl.1];exact Car (jP f _ vs hlen (fun j v hj=>by simpa using h5 j v hj) hv)
    ·cases h
   ·cases cR
  ·cases h
 ·rename_i l sz i off
  simp only[aA,Qb0]at h;obtain⟨s,dj,h⟩:=h
  have main:∀ (ks:List Bool) (ds:List D),(∀ (j:Nat) (c:CK),ti.cells[j]?=some c->Eb7 c=true->ks[j]?=some true)->ks.length=ti.cells.length->gOn ρ g=true ->
    (aR.row sz off ks).run [s.x.val ρ,i.val ρ]=some ds->(∀ j d,ds[j]?=some d->(aI.v (nv+j)).val ρ=d) ->
    ∃ vs,aD σ ρ G w (dX s i sz off ti.cells nv) vs/\vs.length=ti.size/\∃ b,a.eval x=.pointer (some b)/\∀ j v,vs[j]?=some v->w.cell? (b.add j)=some v:=by
   intro ks ds hks mC hg aw eA;have hl:=hp hg;simp only[aB]at hl;obtain⟨b,n,c,k,iv,h1,h2,h3,h4,h5⟩:=hl;have a1c:=dM hR dj h1;obtain⟨rs,k',yw,row,e1,e2,e3,e4,e5,e6,rfl⟩:=Wau aw;rw[h2]at e2;obtain⟨rfl,rfl⟩:k=k'/\iv=yw:=by injection e2 with a b;exact⟨a,b⟩
   obtain⟨vs,h6,h7⟩:=kN (σ:=σ) (ρ:=ρ) (G:=G) (w:=w) (b.add (iv.toNat*sz+off)) (dX s i sz off ti.cells nv) 0 fun j l' hj=>by
    obtain⟨c',cQ,rfl⟩:=wK _ _ _ _ _ _ _ _ hj;have fN:j<ti.cells.length:=(List.getElem?_eq_some_iff.1 cQ).1;have dt:row[off+j]?=some row[off+j]:=Qb3 (by omega)
    obtain⟨v,qn,hv2⟩:=Zah a1c e1 h2 e4 (off:=off+j) (d:=row[off+j]) dt c' (fun gb=>Gay e6 j _ (hks j c' cQ gb) (by rw[Rb3];exact dt)) (y:=.v (nv+j))
     (eA j _ (by rw[Sbc,if_pos (by omega),Rb3];exact dt))
    refine⟨v,?_,hv2⟩;rw[add_add,Rby,Rbn];exact qn
   exact⟨vs,h6,by rw[h6.len,wJ,f.len],_,h5,fun j v hj=>by simpa using h7 j v hj⟩
  split at h
  ·rename_i x' df
   have nj:x'=.v nv/\ti.agg=false/\∃ z,ti.cells=[.sc z]:=by
    unfold Sap at df
    cases iy:ti.agg with
    |true=>rw[iy]at df;simp at df
    | false =>
     rw[iy]at df;simp only[cond_false]at df
     cases hc:ti.cells with
     |nil=>rw[hc]at df;simp[dX]at df
     | cons c cs =>
      cases cs with
      | nil =>
       rw[hc]at df;simp only[dX,Option.some.injEq,SV.one.injEq]at df
       cases c with
       |sc z=>simp only[iU,aO.sc.injEq]at df;exact⟨df.symm,rfl,z,rfl⟩
       | sl z =>
        simp only[iU]at df;split at df
        ·cases hb:Nat.ble _ _<;>(rw[hb]at df;cases df)
        ·cases df
       |pn=>simp[iU]at df
       |ot=>simp[iU]at df
      |cons c' ke=>rw[hc]at df;simp[dX]at df
   obtain⟨rfl,iy,z,yn⟩:=nj
   have aj:aL cf ρ g nv [.prim (.row sz off [true]) [s.x,i] 1]:=by
    simp only[sG,aC,Option.some.injEq]at h;subst h;exact hs
   refine cB hR hd h hs fun hg d hpr=>?_
   obtain⟨d',h1,h2⟩:=fF aj hg;simp only[Rbt,Rbz]at hpr h1
   obtain⟨vs,h3,h4,b,h5,h6⟩:=main [true] [d'] (fun j c hc _=>by
    rw[yn]at hc
    cases j with
    |zero=>rfl
    | succ j => simp at hc) (by rw [yn]; rfl) hg h1 (fun j d hj => by
     cases j with
     |zero=>simp only[Qb9,Option.some.injEq]at hj;rw[<- hj];exact h2
     |succ j=>simp at hj)
   obtain⟨v,hv⟩:=Cak df h3.len;have h7:=rM df h3 hv;simp only[bU,aB]at h7;refine⟨v,?_,hex ?_⟩
   ·rw[h2]at h7
    rw[h1]at hpr;simp only[Option.some.injEq,List.cons.injEq,and_true]at hpr;exact hpr▸h7
   ·rw[h5]
    exact Car (jP f b vs h4 h6 hv)
  ·rename_i sv _ df
   refine dC hR hd h hs fun hg aj=>?_
   obtain⟨ds,h1,h2,h3⟩:=step1 aj hg;simp only[Rbt,Rbz]at h1;obtain⟨vs,h4,h5,b,h6,h7⟩:=main _ ds (fun j c hc gb=>by rw[Rbr,hc];simp[gb]) (by simp) hg h1 h3;obtain⟨v,hv⟩:=Cak df h4.len;refine⟨v,rM df h4 hv,hex ?_⟩;rw[h6];exact Car (jP f b vs h5 h7 hv)
  ·cases h
 ·cases h
end
section
variable {P:Program} {E:Env} {F:bE} {σ:Nat->Option aP} {ρ:List D} {a:Act} {w w':World} {G:Gh} {g:Option (aI×Bool)} {o:Oper} {cf:Nat->List D->Option (List D)} {Q:Exit->Act->World->Prop} {next:Act->World->Prop}
theorem Ha1:∀ {rs:List (List D)} {l:List UInt8},bytesOf rs=some l->∃ ns:List Int,rs=ns.map (fun n=>[D.int .u8 n])/\l=ns.map fun n=>UInt8.ofNat n.toNat
 | [], l, h => by
  simp only[bytesOf,Option.some.injEq]at h;exact⟨[],rfl,h.symm⟩
 | r :: rs, l, h => by
  unfold bytesOf at h;split at h
  ·rename_i hh;cases hh
  ·rename_i n r' hh
   obtain⟨rfl,rfl⟩:=List.cons.inj hh;simp only[Rbc]at h;obtain⟨l',h1,rfl⟩:=h;obtain⟨ns,rfl,rfl⟩:=Ha1 h1;exact⟨n::ns,rfl,rfl⟩
  ·cases h
theorem Uas (hR:R E.ntmps F σ ρ a w G)(hd:eT E.ntmps o)(hti:uO P E.ti){nv:Nat}{src dst:TypeId}{x:Operand}(ho:o.op=.convert src dst x){res:bJ}{s d ei:TI}{e:Nat}
  (jn:E.ti src=some s) (he:s.elem=some e) (qw:E.ti e=some ei) (hk:Mba ei.ik=true) (cI:E.ti dst=some d) (wz:d.isStr=true)
  {l:aO} {r:SlR} (h1:(rdL E g src x).eval σ=some l) (h2:(xD l).eval σ=some r)
  (h:(sG o g nv .bstr [r.x]).eval σ=some res) (hs:aL cf ρ g nv res.lets):fV P E F σ ρ a w g o Q res.upd:=by
 refine cB hR hd h hs fun hg z hp=>?_
 obtain⟨i1,u1,f1⟩:=aU (hti.ok _ _ jn);obtain⟨i2,u2,f2⟩:=aU (hti.ok _ _ cI);obtain⟨i3,u3,f3⟩:=aU (hti.ok _ _ qw);obtain rfl:=pG f1 he;obtain rfl:=Cal f2 wz
 have e3:u3=.int .u8:=by
  unfold Mba at hk;split at hk
  ·rename_i k fy
   simp only[Lbp,decide_eq_true_eq]at hk;have:=f3.ik.symm.trans fy;unfold Lbo at this;split at this
   ·rw[Option.some.inj this,hk]
   ·cases this
  ·cases hk
 subst e3;have hl:=(dM hR h2 (eZ hR hg h1)).rd;simp only[Rbt,Rbz]at hp;generalize r.x.val ρ=xv at hp hl;cases xv<;>simp only[aR.run]at hp<;>first|cases hp|skip
 rename_i sz rs;simp only[Rbc,List.cons.injEq,and_true]at hp;obtain⟨bs,hb,rfl⟩:=hp;obtain⟨ns,rfl,rfl⟩:=Ha1 hb;obtain⟨A,b,n,c,vs,e1,e2,e3,e4,e5,e6,e7⟩:=hl.inv;refine⟨_,.str _,?_⟩;unfold execOp;simp only[ho];refine fC ?_;rw[e1,run_convert_bytes_string w src dst e A n c f1.und f3.und f2.und]
 cases A with
 | none =>
  have:n=0:=by
   rcases e4 with e4|e4
   ·exact e4
   ·cases e4
  subst this;simp only[Rbh]at e2;obtain rfl:=Sbd e2;simp[Conv.bytesToString];rfl
 | some b' =>
  have pd:(loadCells b' n).run P w=.ok (ns.map (Value.int .u8)).toArray w:=by
   simp only[Rbh]at e2
   have:=run_loadCells_list (P:=P) w b' (ns.map (Value.int .u8)) (fun j v hj=>by
    simp only[Rbr,Rbc]at hj;obtain⟨m,hm,rfl⟩:=hj;have hr:(ns.map fun n=>[D.int .u8 n])[j]?=some [D.int .u8 m]:=by rw[Rbr,hm];rfl
    have h9:=e6 j _ hr 0 _ rfl;have bo:=(e7 j _ hr 0 _ rfl).sc_inv rfl
    have b7:sz=1:=by
     have:=e5 _ (Rbi hr);simpa using this.symm
    have dv:j<ns.length:=(List.getElem?_eq_some_iff.1 hm).1
    have cr:b'=b:=by
     rcases e4 with e4|e4
     ·omega
     ·exact Option.some.inj e4
    subst cr b7;rw[bo.int_inv]at h9;simpa using h9.2)
   simpa[e2] using this
  rw[run_bytesToString w b' n c ns pd,foldl_push_bytes];simp[ByteArray.empty,ByteArray.emptyWithCapacity];rfl
theorem Nau (hR:R E.ntmps F σ ρ a w G)(hd:eT E.ntmps o)(hti:uO P E.ti){nv:Nat}{src dst:TypeId}{x:Operand}(ho:o.op=.convert src dst x){res:bJ}{s d:TI}
  (jn:E.ti src=some s) (hsS:s.isStr=true) (cI:E.ti dst=some d) (wz:d.isStr=true) {x':aI} (h1:(rdA E g src x).eval σ=some x')
  (h:(sG o g nv .sid [x']).eval σ=some res) (hs:aL cf ρ g nv res.lets):fV P E F σ ρ a w g o Q res.upd:=by
 refine cB hR hd h hs fun hg z hp=>?_
 obtain⟨i1,u1,f1⟩:=aU (hti.ok _ _ jn);obtain⟨i2,u2,f2⟩:=aU (hti.ok _ _ cI);obtain rfl:=Cal f1 hsS;obtain rfl:=Cal f2 wz;have hl:=iO hR hg h1;simp only[Rbt,Rbz]at hp;generalize x'.val ρ=xv at hp hl;cases xv<;>simp only[aR.run]at hp<;>first|cases hp|skip
 refine⟨_,.str _,?_⟩;unfold execOp;simp only[ho,hl.str_inv];refine fC ?_;simp only[convert,Sem.run_bind,run_underlying f1.und,run_underlying f2.und,Result.andThen_ok];rfl
theorem Jaj {is:Bool}{len cap:Nat}{lo hi:Option Value}{kl kh:IntKind}{l h:Int}(jr:(lo=none/\l=0)\/lo=some (.int kl l))(n5:(hi=none/\h=len)\/(hi=some (.int kh h)/\h<=cap))(h0:0<=l)(h1:l<=h) :
  (Instr.sliceBounds is len cap lo hi none).run P w=.ok (l.toNat,h.toNat,cap) w:=by
 rcases n5 with ⟨rfl,rfl⟩|⟨rfl,hc⟩<;>rcases jr with ⟨rfl,rfl⟩|rfl
 ·simp[Instr.sliceBounds]
 ·have e2:0<=l/\l<=(len:Int):=⟨h0,by omega⟩
  simp[Instr.sliceBounds,Instr.sliceBound,asIntOf,e2]
 ·have e1:0<=h/\h<=(cap:Int):=⟨by omega,hc⟩
  simp[Instr.sliceBounds,Instr.sliceBound,asIntOf,e1]
 ·have e1:0<=h/\h<=(cap:Int):=⟨by omega,hc⟩
  have e2:0<=l/\l<=(h.toNat:Int):=⟨h0,by omega⟩;have e3:0<=l/\l<=max h 0:=⟨h0,by omega⟩;simp[Instr.sliceBounds,Instr.sliceBound,asIntOf,e1,e2,e3]
theorem Ta6 {ei:TI}{lo fl:Bool}{s:SlR}{p:Pth}(h:Ia3 ei lo s=(p,fl)):(p=.no) \/
  (p=.view/\∃ r k m q,s.own=some (r,k,m,q)/\(q=.path []\/q=.view)/\(m=1\/lo=false\/fl=true)):=by
 unfold Ia3 at h
 have one:∀ m:Nat,(bif Nat.beq m 1||!lo then (Pth.view,false) else bif Ma2 ei.cells then (Pth.view,true) else (Pth.no,false))=(p,fl)->p=.no\/(p=.view/\(m=1\/lo=false\/fl=true)):=by
  intro m h
  cases hb:(Nat.beq m 1||!lo) with
  | true =>
   rw[hb]at h;simp only[cond_true,Prod.mk.injEq]at h;simp only[Sbe,Rbv,Rbp]at hb;exact .inr ⟨h.1.symm,hb.imp id .inl⟩
  | false =>
   rw[hb]at h
   cases hn:Ma2 ei.cells with
   | true =>
    rw[hn]at h;simp only[cond_false,cond_true,Prod.mk.injEq]at h;exact .inr ⟨h.1.symm,.inr (.inr h.2.symm)⟩
   | false =>
    rw[hn]at h;simp only[cond_false,Prod.mk.injEq]at h;exact .inl h.1.symm
 split at h
 ·rename_i r k m ho
  exact (one _ h).imp id fun ⟨h1,h2⟩=>⟨h1,_,_,_,_,ho,.inl rfl,h2⟩
 ·rename_i r k m ho
  exact (one _ h).imp id fun ⟨h1,h2⟩=>⟨h1,_,_,_,_,ho,.inr rfl,h2⟩
 ·simp only[Prod.mk.injEq]at h
  exact .inl h.1.symm
theorem Qak {sz:Nat}{fl:Bool}{x i j:D}{ds:List D}(h:(aR.sub sz fl).run [x,i,j]=some ds) :
  ∃ rs ki kj lo hi,x=.rows sz rs/\i=.int ki lo/\j=.int kj hi/\(fl=true->∀ r∈rs,∀ d∈r,d.isSc=true)/\0<=lo/\lo<=hi/\hi<=rs.length/\ds=[.rows sz ((rs.take hi.toNat).drop lo.toNat)]:=by
 cases x<;>cases i<;>cases j<;>simp only[aR.run]at h<;>first|cases h|skip
 split at h
 ·rename_i h1
  obtain⟨rfl,h1,h2,h3,h4⟩:=h1;simp only[Option.some.injEq]at h;refine⟨_,_,_,_,_,rfl,rfl,rfl,fun hf=>?_,h2,h3,h4,h.symm⟩;rw[hf]at h1;simp only[Bool.not_true,Bool.false_or,Rbu]at h1;exact fun r hr d hd=>h1 r hr d hd
 ·cases h
theorem Kax {rs:List (List D)}{lo hi i:Nat}{r:List D}(h:((rs.take hi).drop lo)[i]?=some r):rs[lo+i]?=some r/\lo+i<hi:=by
 rw[Rb3,Sbc]at h;split at h
 ·rename_i hl;exact⟨h,hl⟩
 ·cases h
theorem Rd.part {ok:Nat->Prop}{A:Option Addr}{n c sz:Nat}{rs:List (List D)}(h:Rd ok w (.slice A n c) (.rows sz rs)){lo hi:Nat}(h1:lo<=hi)(h2:hi<=n) :
  Rd ok w (.slice (if c=lo then A else A.map (·.add (lo*sz))) (hi-lo) (c-lo)) (.rows sz ((rs.take hi).drop lo)):=by
 obtain⟨A',b,n',c',vs,e1,e2,e3,e4,e5,e6,e7⟩:=h.inv;obtain⟨rfl,rfl,rfl⟩:A=A'/\n=n'/\c=c':=by injection e1 with a b c;exact⟨a,b,c⟩
 refine .rows _ (b.add (lo*sz)) _ _ sz _ (fun i j=>vs (lo+i) j) (by simp;omega) (by omega) ?_ (fun r hr=>?_) (fun i r cu j d hj=>?_) (fun i r cu j d hj=>?_)
 ·by_cases hz:hi-lo=0
  ·exact .inl hz
  ·refine .inr ?_
   have hA:A=some b:=e4.resolve_left (by omega);rw[if_neg (by omega),hA];rfl
 ·exact e5 r (Tbc (Tbd hr))
 ·obtain⟨h3,h4⟩:=Kax cu
  obtain⟨h5,h6⟩:=e6 _ _ h3 _ _ hj;refine⟨by rw[add_block];exact h5,?_⟩;rw[add_add,show lo*sz+(i*sz+j)=(lo+i)*sz+j by rw[Nat.add_mul,Rbn]];exact h6
 ·obtain⟨h3,h4⟩:=Kax cu
  exact e7 _ _ h3 _ _ hj
theorem Rp.sc_inv {own:Nat->Ow}{r m:Nat}{p:List Nat}{v:Value}{d:D}(h:Rp own w r p m v d)(hd:d.isSc=true):Sc v d:=by
 cases h with
 |sc h=>exact h
 |hole=>simp[D.isSc]at hd
 |fz h=>exact h.sc_inv hd
 |sl=>simp[D.isSc]at hd
theorem Rp.part {own:Nat->Ow}{r m:Nat}{p:List Nat}{A:Option Addr}{n c sz:Nat}{rs:List (List D)}(h:Rp own w r p m (.slice A n c) (.rows sz rs)){lo hi:Nat}(h1:lo<=hi)(h2:hi<=n)
  (hc:m=1\/lo=0\/∀ r∈rs,∀ d∈r,d.isSc=true) :
  Rp own w r p m (.slice (if c=lo then A else A.map (·.add (lo*sz))) (hi-lo) (c-lo)) (.rows sz ((rs.take hi).drop lo)):=by
 generalize hv:Value.slice A n c=v at h;generalize hx:D.rows sz rs=x at h
 cases h with
 |sc h=>subst hx;cases h
 |hole=>cases hx
 |fz h=>subst hv hx;exact .fz (h.part h1 h2)
 | sl A' b n' c' ll rs' vs hn cQ hA b7 ab aq bd =>
  obtain⟨rfl,rfl,rfl⟩:A=A'/\n=n'/\c=c':=by injection hv with a b c;exact⟨a,b,c⟩
  obtain⟨rfl,rfl⟩:sz=ll/\rs=rs':=by injection hx with a b;exact⟨a,b⟩
  rename_i m';refine .sl _ (if c=lo then b else b.add (lo*sz)) _ _ sz _ (fun i j=>vs (lo+i) j) (by simp;omega) (by omega) ?_ (fun r hr=>?_) (fun e=>?_) (fun i r' cu j d hj=>?_) (fun i r' cu j d hj=>?_)
  ·rcases hA with hA|⟨hA,h0⟩
   ·refine .inl ?_
    rw[hA];by_cases h:c=lo
    ·rw[if_pos h,if_pos h]
    ·rw[if_neg h,if_neg h];rfl
   ·refine .inr ⟨?_,by omega⟩
    rw[hA];split<;>rfl
  ·exact b7 r (Tbc (Tbd hr))
  ·have tD:A=some b:=by
    rcases hA with hA|⟨hA,h0⟩
    ·exact hA
    ·rw[hA]at e
     split at e<;>cases e
   obtain⟨h3,h4,h5⟩:=ab tD;by_cases h:c=lo
   ·rw[if_pos h]
    exact⟨h3,h4,fun k hk=>by rw[h,Nat.sub_self,Nat.zero_mul]at hk;omega⟩
   ·rw[if_neg h]
    refine⟨?_,by rw[add_block];exact h4,fun k hk=>?_⟩
    ·unfold Addr.add;split
     ·exact h3
     ·rfl
    ·rw[add_add]
     refine h5 _ ?_;rw[Nat.sub_mul]at hk;omega
  ·obtain⟨h3,h4⟩:=Kax cu
   rw[if_neg (by omega),add_add,show lo*sz+(i*sz+j)=(lo+i)*sz+j by rw[Nat.add_mul,Rbn]];exact aq _ _ h3 _ _ hj
  ·obtain⟨h3,h4⟩:=Kax cu
   have:=bd _ _ h3 _ _ hj
   rcases hc with hc|hc|hc
   ·obtain rfl:m'=0:=by omega
    exact .fz this.zero
   ·subst hc
    simpa using this
   ·exact .sc (this.sc_inv (hc r' (Rbi h3) d (Rbi hj)))
theorem vB {t e:TypeId}{x:Operand}{lo hi:Option Operand}(ho:o.op=.slice t x lo hi none)(hu:P.underlying t=some (.slice e)){size:Nat}(b7:(sizeOf e).run P w=.ok size w)
  {A:Option Addr} {n c:Nat} (hx:a.eval x=.slice A n c) {kl kh:IntKind} {l h:Int} (jr:(lo=none/\l=0)\/lo.map a.eval=some (.int kl l)) (n5:(hi=none/\h=n)\/(hi.map a.eval=some (.int kh h)/\h<=c)) (h0:0<=l) (h1:l<=h) :
  (execOp a.eval o).run P w=.ok (.value (.slice (if c=l.toNat then A else A.map (·.add (l.toNat*size))) (h.toNat-l.toNat) (c-l.toNat))) w:=by
 unfold execOp;simp only[ho];refine fC ?_;have hb:=Jaj (P:=P) (w:=w) (is:=true) (len:=n) (cap:=c) (lo:=lo.map a.eval) (hi:=hi.map a.eval) (kl:=kl) (kh:=kh) (l:=l) (h:=h) (jr.imp (fun ⟨h1,h2⟩=>⟨by rw[h1];rfl,h2⟩) id) (n5.imp (fun ⟨h1,h2⟩=>⟨by rw[h1];rfl,h2⟩) id) h0 h1;simp only[Instr.sliceAt,Instr.slice,Sem.run_bind,run_underlying hu,Result.andThen_ok,hx,Option.map_none,hb,b7,Sem.run_pure]
end
section
variable {P:Program} {E:Env} {F:bE} {σ:Nat->Option aP} {ρ:List D} {a:Act} {w w':World} {G:Gh} {g:Option (aI×Bool)} {o:Oper} {cf:Nat->List D->Option (List D)} {Q:Exit->Act->World->Prop} {next:Act->World->Prop}
theorem vO {g:Option (aI×Bool)}(h:noG g=true):g=none:=by
 cases g with
 |none=>rfl
 |some _=>cases h
theorem Aa6 {p:aR}{xs:List aI}{nv:Nat}(h:Ta1 cf ρ g nv (.prim p xs 1))(hg:gOn ρ g=true) :
  ∃ d,p.run (xs.map (·.val ρ))=some [d]/\(aI.v nv).val ρ=d:=fF (cf:=cf) (nv:=nv) ⟨h,trivial⟩ hg
theorem Aas {t:TypeId}{x:Operand}{lo hi:Option Operand}(ho:o.op=.slice t x lo hi none)(hu:P.underlying t=some .string)
  {s:List UInt8} (hx:a.eval x=.string ⟨s.toArray⟩) {kl kh:IntKind} {l h:Int} (jr:(lo=none/\l=0)\/lo.map a.eval=some (.int kl l)) (n5:(hi=none/\h=s.length)\/(hi.map a.eval=some (.int kh h)/\h<=s.length)) (h0:0<=l) (h1:l<=h) :
  (execOp a.eval o).run P w=.ok (.value (.string ⟨((s.take h.toNat).drop l.toNat).toArray⟩)) w:=by
 unfold execOp;simp only[ho];refine fC ?_;have hb:=Jaj (P:=P) (w:=w) (is:=false) (len:=s.length) (cap:=s.length) (lo:=lo.map a.eval) (hi:=hi.map a.eval) (kl:=kl) (kh:=kh) (l:=l) (h:=h) (jr.imp (fun ⟨h1,h2⟩=>⟨by rw[h1];rfl,h2⟩) id) (n5.imp (fun ⟨h1,h2⟩=>⟨by rw[h1];rfl,h2⟩) id) h0 h1;have hlen:(⟨s.toArray⟩:ByteArray).size=s.length:=rfl;simp only[Instr.sliceAt,Instr.slice,Sem.run_bind,run_underlying hu,Result.andThen_ok,hx,Option.map_none,Option.isSome_none,Qb4,if_false,hlen,hb,Sem.run_pure];congr 2;apply ByteArray.ext;rw[ByteArray.data_extract];apply Ubm;simp[List.drop_take,List.extract]
theorem Sar {x i j:D}{ds:List D}(h:aR.ssub.run [x,i,j]=some ds) :
  ∃ s ki kj lo hi,x=.str s/\i=.int ki lo/\j=.int kj hi/\0<=lo/\lo<=hi/\hi<=s.length/\ds=[.str ((s.take hi.toNat).drop lo.toNat)]:=by
 cases x<;>cases i<;>cases j<;>simp only[aR.run]at h<;>first|cases h|skip
 split at h
 ·rename_i h1
  simp only[Option.some.injEq]at h;exact⟨_,_,_,_,_,rfl,rfl,rfl,h1.1,h1.2.1,h1.2.2,h.symm⟩
 ·cases h
theorem Sa4 {lo:Bool}{s:SlR}{ei:TI}{p:Pth}{fl:Bool}(w8:Ia3 ei lo s=(p,fl)){A:Option Addr}{n c sz:Nat}(dj:Va4 σ ρ G w s (.slice A n c)){rs:List (List D)}(hx:s.x.val ρ=.rows sz rs)
  {l h:Nat} (h1:l<=h) (h2:h<=n) (jr:lo=false->l=0) (cP:fl=true->∀ r∈rs,∀ d∈r,d.isSc=true) {y:aI} (hy:y.val ρ=.rows sz ((rs.take h).drop l)) :
  aB σ ρ G w (.sn s.deps p false y) (.slice (if c=l then A else A.map (·.add (l*sz))) (h-l) (c-l)):=by
 simp only[aB];refine⟨⟨rfl,fun z hz=>?_⟩,fun _=>⟨?_,by simp,?_⟩⟩
 ·obtain⟨m,hl⟩:=dj.live z hz
  exact hl.valid.known
 ·rw[hy]
  exact Rd.part (hx▸dj.rd) h1 h2
 ·rcases Ta6 w8 with rfl|⟨rfl,r,k,m,q,ho,hq,hc⟩
  ·trivial
  ·intro r2 k2 m2 e2 eN
   have ab:=dj.own;unfold uI at ab;rw[ho]at ab;obtain⟨h3,⟨x1,h4⟩,h5⟩:=ab;rw[h3]at e2;obtain⟨rfl,rfl⟩:r=r2/\k=k2:=by simpa using e2
   obtain⟨x2,qx⟩:=eN;rw[h4]at qx;obtain rfl:m=m2:=by injection qx with qx;injection qx
   have cA:Rp G.own w r [] m (.slice A n c) (.rows sz rs):=by
    rw[<- hx]
    rcases hq with rfl|rfl
    ·simpa[aZ] using h5.2.1
    ·exact h5
   rw[hy];refine cA.part h1 h2 ?_
   rcases hc with hc|hc|hc
   ·exact .inl hc
   ·exact .inr (.inl (jr hc))
   ·exact .inr (.inr (cP hc))
theorem Wa5 {lo:Bool}{s:SlR}{ei:TI}{p:Pth}{fl:Bool}(w8:Ia3 ei lo s=(p,fl)){A:Option Addr}{n c sz:Nat}(dj:Va4 σ ρ G w s (.slice A n c)){rs:List (List D)}(hx:s.x.val ρ=.rows sz rs)
  {l:Nat} (h1:l<=n) (jr:lo=false->l=0) (cP:fl=true->∀ r∈rs,∀ d∈r,d.isSc=true) {y:aI} (hy:y.val ρ=.rows sz ((rs.take n).drop l)) {lx:aI} (hl:kF ρ lx=l) :
  aB σ ρ G w (.sn s.deps (Ebe p sz lx s) false y) (.slice (if c=l then A else A.map (·.add (l*sz))) (n-l) (c-l)):=by
 have h0:=Sa4 w8 dj hx h1 (Nat.le_refl n) jr cP hy;unfold Ebe;split
 ·rename_i r k m ho
  simp only[aB]at h0 ⊢;refine⟨h0.1,fun hv=>⟨(h0.2 hv).1,(h0.2 hv).2.1,?_⟩⟩;intro r2 k2 m2 e2 eN;have ab:=dj.own;unfold uI at ab;rw[ho]at ab;obtain⟨h3,-,-,-,h5⟩:=ab;rw[h3]at e2;obtain⟨rfl,rfl⟩:r=r2/\k=k2:=by simpa using e2
  simp only[aZ,Rbz,yG]at h5;exact⟨A,n,c,h5.symm,by rw[hl];exact h1,by rw[hl]⟩
 ·exact h0
theorem Aa1 (hR:R E.ntmps F σ ρ a w G)(hg:gOn ρ g=true){lo:Option Operand}{y:aI}
  (h:(match lo with|some a=>rdA E g 0 a|none=>RdM.ret (.c (.int .i64 0)):RdM aI).eval σ=some y) {k:IntKind} {l:Int} (hy:y.val ρ=.int k l) :
  (lo=none/\l=0)\/lo.map a.eval=some (.int k l):=by
 split at h
 ·rename_i x
  have:=iO hR hg h;rw[hy]at this;exact .inr (by rw[Rb9,this.int_inv])
 ·simp only[aC,Option.some.injEq]at h
  subst h;simp only[aI.val,D.int.injEq]at hy;exact .inl ⟨rfl,hy.2.symm⟩
theorem Qao (hR:R E.ntmps F σ ρ a w G)(hd:eT E.ntmps o)(hti:uO P E.ti){nv nb nr:Nat}{mv b6:Bool}{t:TypeId}{x:Operand}{lo hi mx:Option Operand}(ho:o.op=.slice t x lo hi mx){res:bJ}
  (h:(oJ E mv b6 nv nb nr g o).eval σ=some res) (hs:aL cf ρ g nv res.lets):fV P E F σ ρ a w g o Q res.upd:=by
 simp only[oJ,ho]at h
 cases mx with
 | some _ =>
  simp only[aA,Qb0]at h;obtain⟨_,_,h⟩:=h;cases h
 |none =>
 simp only[aA,Qb0,tiR,aT]at h;obtain⟨ti,hi1,l,h1,sh,h2,h⟩:=h;obtain⟨info,u,f⟩:=aU (hti.ok _ _ hi1);split at h
 ·rename_i s
  simp only[aA,Qb0,aH]at h;obtain⟨_,cR,h⟩:=h;split at cR
  ·rename_i hb
   simp only[Qb1]at hb;obtain rfl:=Cal f hb.1;split at h
   ·rename_i h'
    simp only[aA,Qb0]at h;obtain⟨hA,h3,h⟩:=h;refine cB hR hd h hs fun hg d hp=>?_
    simp only[Rbt,Rbz]at hp;obtain⟨s',ki,kj,li,cu,e1,e2,e3,e4,e5,e6,e7⟩:=Sar hp;simp only[List.cons.injEq,and_true]at e7;have hx:=eZ hR hg h1;simp only[aB,e1]at hx;have hh:=iO hR hg h3;rw[e3]at hh;refine⟨_,e7▸.str _,Aas ho f.und hx.str_inv (Aa1 hR hg h2 e2) (.inr ⟨by rw[Rb9,hh.int_inv],e6⟩) e4 e5⟩
   ·obtain rfl:g=none:=vO (by simpa using hb.2)
    simp only[aC,Option.some.injEq]at h;subst h;simp only[Eak];refine⟨fun hg=>?_,fun hg=>by simp[gOn]at hg⟩;obtain⟨d1,h4,h5⟩:=Aa6 hs.1 hg;obtain⟨d2,h6,h7⟩:=Aa6 hs.2.1 hg;simp only[Rbt,Rbz,Step.n]at h4 h6 h7;obtain⟨s',ki,kj,li,cu,e1,e2,e3,e4,e5,e6,e7⟩:=Sar h6;rw[e1]at h4;simp only[aR.run,Option.some.injEq,List.cons.injEq,and_true]at h4;rw[h5,<- h4]at e3;obtain⟨-,rfl⟩:IntKind.i64=kj/\(s'.length:Int)=cu:=by injection e3 with a b;exact⟨a,b⟩
    have hx:=eZ hR hg h1;simp only[aB,e1]at hx;refine Ka1 hR hd hg (Aas (kh:=.i64) ho f.und hx.str_inv (Aa1 hR hg h2 e2) (.inl ⟨rfl,rfl⟩) e4 e5) ?_;rw[h7];simp only[List.cons.injEq,and_true]at e7;rw[e7];exact .str _
  ·cases cR
 ·simp only[aA,Qb0,aH]at h
  obtain⟨_,cR,s,h3,ei,h4,h⟩:=h;split at cR
  ·rename_i wv
   cases hel':ti.elem with
   |none=>rw[hel']at wv;cases wv
   |some e =>
   obtain rfl:=pG f hel';rw[hel',Option.getD_some,aT]at h4;obtain⟨fe,u',f'⟩:=aU (hti.ok _ _ h4);generalize w8:Ia3 ei lo.isSome s=pf at h;obtain⟨p,fl⟩:=pf;dsimp only at h;split at h
   ·rename_i h'
    simp only[aA,Qb0]at h;obtain⟨hA,h5,h⟩:=h;split at h
    ·rename_i dp pp z _
     refine dC hR hd h hs fun hg aj=>?_
     obtain⟨d,h6,h7⟩:=fF aj hg;simp only[Rbt,Rbz]at h6;obtain⟨rs,ki,kj,li,cu,e1,e2,e3,e4,e5,e6,e7,e8⟩:=Qak h6;have hl:=eZ hR hg h1;have hh:=iO hR hg h5;rw[e3]at hh
     have hz:s.x=.c (.rows z []):=by
      unfold xD at h3;simp only[aA,Qb0]at h3;obtain⟨ds,-,h3⟩:=h3;split at h3
      ·simp only[aC,Option.some.injEq]at h3;rw[<- h3]
      ·simp only[aA,aQ,Qb7]at h3
       split at h3
       ·simp only[aC,Option.some.injEq]at h3;rw[<- h3]
       ·cases h3
      ·simp only[aC,Option.some.injEq]at h3;rw[<- h3]
     have c7:a.eval x=.slice none 0 0:=by
      unfold xD at h3;simp only[aA,Qb0]at h3;obtain⟨ds,h3,-⟩:=h3;have fq:=hl;simp only[aB]at fq;exact (fq.2 (iG h3).1).2.1 trivial z rfl
     rw[hz]at e1
     obtain⟨-,rfl⟩:z=ei.size/\[]=rs:=by
      simp only[aI.val]at e1
      injection e1 with a b;exact⟨a,b⟩
     have ub:li=0:=by simp at e7;omega
     have n5:cu=0:=by simp at e7;omega
     subst ub n5;refine⟨a.eval x,hl,?_⟩;rw[vB (kh:=kj) (kl:=ki) (l:=0) (h:=0) ho f.und (f'.sizeOf w) c7 (Aa1 hR hg h2 e2) (.inr ⟨by rw[Rb9,hh.int_inv],by simp⟩) (by omega) (by omega),c7];rfl
    ·refine dC hR hd h hs fun hg aj=>?_
     obtain⟨d,h6,h7⟩:=fF aj hg;simp only[Rbt,Rbz]at h6;obtain⟨rs,ki,kj,li,cu,e1,e2,e3,e4,e5,e6,e7,e8⟩:=Qak h6;have hh:=iO hR hg h5;rw[e3]at hh;have dj:=dM hR h3 (eZ hR hg h1);have eo:=dj.rd;rw[e1]at eo;obtain⟨A,b,n,c,vs,i1,i2,i3,-⟩:=eo.inv;rw[i1]at dj;have jr:=Aa1 hR hg h2 e2;refine⟨_,?_,vB (kh:=kj) ho f.und (f'.sizeOf w) i1 jr (.inr ⟨by rw[Rb9,hh.int_inv],by omega⟩) e5 e6⟩;refine Sa4 w8 dj e1 (by omega) (by omega) (fun hf=>?_) e4 ?_
     ·rcases jr with ⟨-,ia⟩|ia
      ·rw[ia];rfl
      ·cases lo with
       |none=>simp at ia
       |some _=>simp at hf
     ·rw[h7]
      simpa using e8
   ·refine dC hR hd h hs fun hg aj=>?_
    obtain⟨d1,so,h5⟩:=Aa6 aj.1 hg;obtain⟨d2,h6,h7⟩:=Aa6 aj.2.1 hg;simp only[Rbt,Rbz,Step.n]at so h6 h7;obtain⟨rs,ki,kj,li,cu,e1,e2,e3,e4,e5,e6,e7,e8⟩:=Qak h6;rw[e1]at so;simp only[aR.run,Option.some.injEq,List.cons.injEq,and_true]at so;rw[h5,<- so]at e3;obtain⟨-,rfl⟩:IntKind.i64=kj/\(rs.length:Int)=cu:=by injection e3 with a b;exact⟨a,b⟩
    have dj:=dM hR h3 (eZ hR hg h1);have eo:=dj.rd;rw[e1]at eo;obtain⟨A,b,n,c,vs,i1,i2,i3,-⟩:=eo.inv;rw[i1]at dj;have jr:=Aa1 hR hg h2 e2;refine⟨_,?_,vB (kh:=.i64) ho f.und (f'.sizeOf w) i1 jr (.inl ⟨rfl,by rw[i2]⟩) e5 e6⟩;have ga:kF ρ sh=li.toNat:=by unfold kF;rw[e2]
    have ve:((rs.length:Nat):Int).toNat=n:=by rw[Int.toNat_natCast];exact i2
    rw[ve];refine Wa5 (lx:=sh) w8 dj e1 (l:=li.toNat) (by omega) (fun hf=>?_) e4 ?_ ga
    ·rcases jr with ⟨-,ia⟩|ia
     ·rw[ia];rfl
     ·cases lo with
      |none=>simp at ia
      |some _=>simp at hf
    ·rw[h7,List.take_of_length_le (by omega:rs.length<=n)]
     simpa using e8
  ·cases cR
end
end Go.Proofs.YtpgnlmfmlffjcaaGreat.Rf
