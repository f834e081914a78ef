/- Terms for qq program's functions, and my they are right: part 2 of 9. -/
import Derived.Test.YtcbkmmhkccnamaaGreatRf1
import Derived.WalkKit
import Derived.Laws.StructEq
import Derived.Laws.BytesArg
open Array renaming ext' → Rbl
open Bool renaming and_eq_true → Obh, false_eq_true → Obp, not_eq_true' → Ob6, or_eq_true → Pbo
open List renaming getElem?_eq_getElem → Obl, getElem?_cons_zero → Obn, mem_cons_of_mem → Obq, mem_singleton → Obt, mem_cons_self → Obu, mem_of_getElem? → Obw, map_cons → Ob1, getElem?_map → Ob5, length_map → Ob7, all_eq_true → Ob8, map_nil → Pba, append_nil → Pbc, getElem?_cons_succ → Pbi, getElem?_drop → Pbk, getElem?_take → Pbq, eq_nil_of_length_eq_zero → Pbr, length_singleton → Pbw, getElem?_eq_none → Pb2, length_take → Pb3, cons_append → Qbb, length_drop → Qbg, mem_of_mem_drop → Qbl, map_append → Qb0
open Nat renaming add_assoc → Ob0, lt_or_ge → Ob2, beq_eq → Ob4, zero_add → Ob9, ble_eq → Pbn
open Option renaming bind_eq_some_iff → Obg, bind_some → Obm, map_eq_some_iff → Obr, map_some → Pbj
set_option linter.unusedSimpArgs false
set_option linter.unusedVariables false
set_option linter.unnecessarySimpa false
set_option linter.unusedSectionVars false
namespace Go.Proofs.YtcbkmmhkccnamaaGreat.Rf
theorem RdM.run_eval {α:Type}{look:Nat->Option aN}{m:RdM α}{x:α}{log:List Nat}(h:m.run look=some (x,log)):m.eval look=some x:=by
 induction m generalizing log with
 | ret a =>
  simp only[RdM.run,Option.some.injEq,Prod.mk.injEq]at h;rw[h.1];rfl
 |no=>cases h
 | rd k f ih =>
  simp only[RdM.run,Obr]at h;obtain⟨⟨y,l⟩,h1,h2⟩:=h;simp only[Prod.mk.injEq]at h2;obtain⟨rfl,_⟩:=h2;exact ih _ h1
theorem RdM.run_same {α:Type}{look ve:Nat->Option aN}{m:RdM α}{x:α}{log:List Nat}(h:m.run look=some (x,log))(hs:∀ k∈log,ve k=look k):m.run ve=some (x,log):=by
 induction m generalizing log with
 |ret a=>exact h
 |no=>cases h
 | rd k f ih =>
  simp only[RdM.run,Obr]at h ⊢;obtain⟨⟨y,l⟩,h1,h2⟩:=h;simp only[Prod.mk.injEq]at h2;obtain⟨rfl,rfl⟩:=h2;refine⟨(y,l),?_,rfl⟩;rw[hs k Obu];exact ih _ h1 fun j hj=>hs j (Obq _ hj)
section
variable {α γ:Type} {look:Nat->Option aN}
theorem aF (a:α):(RdM.ret a).eval look=some a:=rfl
theorem bJ:(RdM.no:RdM α).eval look=none:=rfl
theorem Vae (k:Nat)(f:Option aN->RdM α):(RdM.rd k f).eval look=(f (look k)).eval look:=rfl
theorem aA (m:RdM α)(f:α->RdM γ):(m >>= f).eval look=(m.eval look).bind fun x=>(f x).eval look:=by
 show (RdM.bind m f).eval look=_
 induction m with
 |ret a=>rfl
 |no=>rfl
 |rd k g ih=>exact ih _
theorem aO (k:Nat):(rdK k).eval look=some (look k):=rfl
theorem aS (x:Option α):(lQ x).eval look=x:=by cases x<;>rfl
theorem aH (b:Bool):(bG b).eval look=if b=true then some () else none:=by cases b<;>rfl
theorem fZ (c:Bool)(x y:RdM α):(bif c then x else y).eval look=if c=true then x.eval look else y.eval look:=by cases c<;>rfl
end
def Qam (cf:Nat->List D->Option (List D))(ρ:List D)(g:Option (aI×Bool))(nv:Nat):Step->Prop
 | .prim p xs n => (gOn ρ g = true -> ∃ ds, p.run (xs.map (·.val ρ)) = some ds /\ ds.length = n /\ ∀ j d, ds[j]? = some d -> (aI.v (nv + j)).val ρ = d) /\
   (gOn ρ g=false->∀ j,j<n->(aI.v (nv+j)).val ρ=.undef)
 | .call f xs n olds => (gOn ρ g = true -> ∃ ds, cf f (xs.map (·.val ρ)) = some ds /\ ds.length = n /\ ∀ j d, ds[j]? = some d -> (aI.v (nv + j)).val ρ = d) /\
   (gOn ρ g=false->∀ j d,(List.replicate (n-olds.length) D.undef++olds.map (·.val ρ))[j]?=some d->(aI.v (nv+j)).val ρ=d)
def aJ (cf:Nat->List D->Option (List D))(ρ:List D)(g:Option (aI×Bool)):Nat->List Step->Prop
 |_,[]=>True
 |nv,s::r=>Qam cf ρ g nv s/\aJ cf ρ g (nv+s.n) r
structure sG (P:Program) (ti:Nat->Option TI):Prop where
 ok:∀ t i,ti t=some i->rF P t=some i
structure bU (P:Program) (t:TypeId) (i:TI) (info:TypeInfo) (u:TypeDesc):Prop where
 info_:P.info? t=some info
 und:P.underlying t=some u
 cells:(flat P 12 t).map (·.map (lX P))=some i.cells
 len:i.cells.length=i.size
 zero:Oaw i.agg info.zero i.cells=true
 eq:i=Jbj P t info u i.cells
theorem aV {P:Program}{t:TypeId}{i:TI}(h:rF P t=some i):∃ info u,bU P t i info u:=by
 unfold rF at h
 cases h1:P.info? t with
 |none=>rw[h1]at h;cases h
 | some info =>
  cases h2:P.underlying t with
  |none=>rw[h1,h2]at h;cases h
  | some u =>
   cases h3:(flat P 12 t).map (·.map (lX P)) with
   |none=>rw[h1,h2,h3]at h;cases h
   | some cs =>
    rw[h1,h2,h3]at h;dsimp only at h
    cases hb:(Nat.beq cs.length info.size&&Oaw (Gai u) info.zero cs) with
    |false=>rw[hb]at h;cases h
    | true =>
     rw[hb]at h;obtain rfl:=Option.some.inj h;simp only[Obh,Ob4]at hb;exact⟨info,u,h1,h2,h3,hb.1,hb.2,rfl⟩
section
variable {P:Program} {t:TypeId} {i:TI} {info:TypeInfo} {u:TypeDesc}
theorem bU.agg (h:bU P t i info u):i.agg=Gai u:=by rw[h.eq];rfl
theorem bU.size (h:bU P t i info u):i.size=info.size:=by rw[h.eq];rfl
theorem bU.elem (h:bU P t i info u):i.elem=Van u:=by rw[h.eq];rfl
theorem bU.flds (h:bU P t i info u):i.flds=Ua9 u:=by rw[h.eq];rfl
theorem bU.bytes (h:bU P t i info u):i.bytes=info.bytes:=by rw[h.eq];rfl
theorem bU.ik (h:bU P t i info u):i.ik=Hb9 u:=by rw[h.eq];rfl
theorem Kat (h:P.underlying t=some u)(w:World):(Go.isAgg t).run P w=.ok (Gai u) w:=by
 simp only[Go.isAgg,underlying,program,bind,pure,Sem.bind,Sem.run,h];cases u<;>rfl
theorem run_sizeOf (h:P.info? t=some info)(w:World):(Go.sizeOf t).run P w=.ok info.size w:=by
 simp only[Go.sizeOf,typeInfo,program,bind,pure,Sem.bind,Sem.run,h]
theorem run_underlying (h:P.underlying t=some u)(w:World):(Go.underlying t).run P w=.ok u w:=by
 simp only[underlying,program,bind,pure,Sem.bind,Sem.run,h]
theorem bU.isAgg (h:bU P t i info u)(w:World):(Go.isAgg t).run P w=.ok i.agg w:=by rw[Kat h.und,h.agg]
theorem bU.sizeOf (h:bU P t i info u)(w:World):(Go.sizeOf t).run P w=.ok i.size w:=by rw[run_sizeOf h.info_,h.size]
end
theorem D.beq0_eq {a b:D}(h:a.beq0 b=true):a=b:=by
 unfold D.beq0 at h;split at h<;>first|cases h|skip
 ·simp only[Obh,Ibe,decide_eq_true_eq]at h
  rw[h.1,h.2]
 ·simp only[beq_iff_eq]at h;rw[h]
 ·simp only[beq_iff_eq]at h;rw[h]
 ·simp only[Ob4]at h;rw[h]
 ·rfl
 ·rfl
theorem aI.beq0_eq {a b:aI}(h:a.beq0 b=true):a=b:=by
 unfold aI.beq0 at h;split at h
 ·simp only[Ob4]at h;rw[h]
 ·rw[D.beq0_eq h]
 ·cases h
theorem Oae {g h:Option (aI×Bool)}(e:Bbt g h=true):g=h:=by
 unfold Bbt at e;split at e
 ·rfl
 ·simp only[Obh,beq_iff_eq]at e
  rw[aI.beq0_eq e.1,e.2]
 ·cases e
section
variable {P:Program} {E:Env} {F:bC} {σ:Nat->Option aN} {ρ:List D} {a:Act} {w:World} {G:Gh} {g:Option (aI×Bool)}
theorem Abh (hg:gOn ρ g=true){v:SV}{u:Value}(h:bR σ ρ G w v u):bR σ ρ G w (unG g v) u:=by
 unfold unG;split
 ·rename_i h' x
  cases e:Bbt g (some h') with
  |false=>exact h
  | true =>
   simp only[bR,aB,cond_true]at h ⊢;exact h.2 (Oae e▸hg)
 ·exact h
theorem Oal {ti:Nat->Option TI}{t:TypeId}{v:Value}{sv:SV}(h:Oam ti t v=some sv):bR σ ρ G w sv v:=by
 unfold Oam at h;split at h
 ·obtain rfl:=Option.some.inj h;exact .int _ _
 ·obtain rfl:=Option.some.inj h;exact .bool _
 ·obtain rfl:=Option.some.inj h
  rename_i s;have:=Sc.str s.data.toList;simpa[bR,aB,aI.val] using this
 ·split at h
  ·obtain rfl:=Option.some.inj h
   simp only[bR,aB];refine⟨⟨rfl,by simp⟩,fun _=>⟨?_,?_,trivial⟩⟩
   ·exact .rows none ⟨0,0,none⟩ 0 0 _ [] (fun _ _=>undef) rfl (Nat.le_refl _) (.inl rfl) (by simp) (by simp) (by simp)
   ·exact fun _ z _=>trivial
  ·cases h
 ·obtain rfl:=Option.some.inj h;rfl
 ·cases h
theorem fF (hR:R E.ntmps F σ ρ a w G)(hg:gOn ρ g=true){t:TypeId}{x:Operand}{sv:SV}(h:(Ka2 E g t x).eval σ=some sv):bR σ ρ G w sv (a.eval x):=by
 cases x with
 | tmp k =>
  simp only[Ka2,Vae]at h;split at h
  ·rename_i g' v hk
   rw[fZ]at h;split at h
   ·rename_i hb
    simp only[Obh]at hb;simp only[aF,Option.some.injEq]at h;subst h;refine Abh hg ?_
    have hg':gOn ρ g'=true:=by
     cases g' with
     |none=>rfl
     |some z=>exact Oae hb.1▸hg
    have:=hR.slot hk hg';unfold xS at this;rw[if_pos (by simpa using hb.2)]at this;exact this
   ·cases h
  ·cases h
 | const v =>
  simp only[Ka2,aS]at h;exact Oal h
 |global _=>cases h
 | func f =>
  simp only[Ka2,aF,Option.some.injEq]at h;subst h;simp only[bR,aB];exact⟨[],rfl,by simp[aG]⟩
theorem eO (hR:R E.ntmps F σ ρ a w G)(hg:gOn ρ g=true){t:TypeId}{x:Operand}{l:aM}(h:(rdL E g t x).eval σ=some l):aB σ ρ G w l (a.eval x):=by
 simp only[rdL,aA,Obg]at h;obtain⟨sv,h1,h2⟩:=h;have:=fF hR hg h1;unfold one at h2;split at h2
 ·simp only[aF,Option.some.injEq]at h2
  subst h2;exact this
 ·cases h2
theorem iV (hg:gOn ρ g=true){l:aM}{x:aI}{v:Value}(h:rO g l=some x)(hl:aB σ ρ G w l v):Sc v (x.val ρ):=by
 unfold rO at h;split at h
 ·obtain rfl:=Option.some.inj h
  simpa[aB] using hl
 ·rename_i h' y
  cases e:Bbt g (some h') with
  |false=>rw[e]at h;cases h
  | true =>
   rw[e]at h;obtain rfl:=Option.some.inj h;simp only[aB]at hl;exact hl.2 (Oae e▸hg)
 ·cases h
theorem iJ (hR:R E.ntmps F σ ρ a w G)(hg:gOn ρ g=true){t:TypeId}{x:Operand}{y:aI}(h:(rdA E g t x).eval σ=some y):Sc (a.eval x) (y.val ρ):=by
 simp only[rdA,aA,Obg,aS]at h;obtain⟨l,h1,h2⟩:=h;exact iV hg h2 (eO hR hg h1)
end
def Nx (n:Nat)(F:bC)(σ:Nat->Option aN)(ρ:List D)(u:List (Nat×aN))(a:Act)(w:World):Prop:=∃ G,R n F (upds σ u) ρ a w G
def eG (n:Nat)(o:Oper):Prop:=∀ d,o.dst=some d->d<n
section
variable {P:Program} {E:Env} {F:bC} {σ:Nat->Option aN} {ρ:List D} {a:Act} {w w':World} {G:Gh} {g:Option (aI×Bool)} {o:Oper} {cf:Nat->List D->Option (List D)} {Q:Exit->Act->World->Prop} {next:Act->World->Prop}
theorem lK {v:Value}(h:(execOp a.eval o).run P w=.ok (.value v) w')(hn:next (a.put o.dst v) w'):o.wp P a w next Q:=by
 unfold Oper.wp;rw[h];exact hn
theorem Oax (h:(execOp a.eval o).run P w=.ok .skip w')(hn:next (a.put o.dst undef) w'):o.wp P a w next Q:=by
 unfold Oper.wp;rw[h];exact hn
theorem Iah (hR:R E.ntmps F σ ρ a w G)(hd:eG E.ntmps o)(hg:gOn ρ g=true){v:Value}{nv:Nat}(h:(execOp a.eval o).run P w=.ok (.value v) w)
  (hv:Sc v ((aI.v nv).val ρ)):o.wp P a w (Nx E.ntmps F σ ρ (dE o none (mkS g (.v nv)))) Q:=by
 refine lK h ⟨G,hR.pure o hd none _ v fun _=>?_⟩
 cases g with
 |none=>exact hv
 | some z =>
  simp only[mkS,bR,aB];exact⟨.inl hv,fun _=>hv⟩
theorem Bbb (hR:R E.ntmps F σ ρ a w G)(hd:eG E.ntmps o)(hg:gOn ρ g=false){nv:Nat}(hv:(aI.v nv).val ρ=.undef) :
  Nx E.ntmps F σ ρ (dE o none (mkS g (.v nv))) (a.put o.dst undef) w:=by
 refine⟨G,hR.pure o hd none _ undef fun _=>?_⟩
 cases g with
 |none=>cases hg
 | some z =>
  simp only[mkS,bR,aB];exact⟨.inr ⟨trivial,hv⟩,fun h=>by rw[h]at hg;cases hg⟩
theorem Ebl (hR:R E.ntmps F σ ρ a w G)(hd:eG E.ntmps o)(hg:gOn ρ g=false){sv:SV} :
  Nx E.ntmps F σ ρ (dE o g sv) (a.put o.dst undef) w:=⟨G,hR.pure o hd g _ undef fun h=>by rw[h]at hg;cases hg⟩
def fV (P:Program)(E:Env)(F:bC)(σ:Nat->Option aN)(ρ:List D)(a:Act)(w:World)(g:Option (aI×Bool))(o:Oper)(Q:Exit->Act->World->Prop)(u:List (Nat×aN)):Prop :=
 (gOn ρ g=true->o.wp P a w (Nx E.ntmps F σ ρ u) Q)/\(gOn ρ g=false->Nx E.ntmps F σ ρ u (a.put o.dst undef) w)
theorem step1 {p:aY}{xs:List aI}{nv n:Nat}(h:aJ cf ρ g nv [.prim p xs n])(hg:gOn ρ g=true) :
  ∃ ds,p.run (xs.map (·.val ρ))=some ds/\ds.length=n/\∀ j d,ds[j]?=some d->(aI.v (nv+j)).val ρ=d:=h.1.1 hg
theorem fC {p:aY}{xs:List aI}{nv:Nat}(h:aJ cf ρ g nv [.prim p xs 1])(hg:gOn ρ g=true) :
  ∃ d,p.run (xs.map (·.val ρ))=some [d]/\(aI.v nv).val ρ=d:=by
 obtain⟨ds,h1,h2,h3⟩:=step1 h hg
 match ds,h2 with
 |[d],_=>exact⟨d,h1,h3 0 d rfl⟩
theorem Da0 {p:aY}{xs:List aI}{nv:Nat}(h:aJ cf ρ g nv [.prim p xs 1])(hg:gOn ρ g=false):(aI.v nv).val ρ=.undef:=h.1.2 hg 0 (by omega)
theorem Caf (o:Oper)(g:Option (aI×Bool))(v:SV):(match o.dst with|some d=>[(kT d,aN.slot g v)]|none=>[])=dE o g v:=rfl
theorem bZ (hR:R E.ntmps F σ ρ a w G)(hd:eG E.ntmps o){nv:Nat}{p:aY}{xs:List aI}{res:bI}
  (h:(qD o g nv p xs).eval σ=some res) (hs:aJ cf ρ g nv res.lets)
  (hv:gOn ρ g=true->∀ d,p.run (xs.map (·.val ρ))=some [d]->∃ v,Sc v d/\(execOp a.eval o).run P w=.ok (.value v) w):fV P E F σ ρ a w g o Q res.upd:=by
 simp only[qD,aF,Option.some.injEq]at h;subst h;simp only[Caf];refine⟨fun hg=>?_,fun hg=>Bbb hR hd hg (Da0 hs hg)⟩;obtain⟨d,h1,h2⟩:=fC hs hg;obtain⟨v,h3,h4⟩:=hv hg d h1;exact Iah hR hd hg h4 (h2▸h3)
theorem dA (hR:R E.ntmps F σ ρ a w G)(hd:eG E.ntmps o){lets:List Step}{sv:SV}{res:bI}{nv:Nat}
  (h:(qE o g lets sv []).eval σ=some res) (hs:aJ cf ρ g nv res.lets)
  (hv:gOn ρ g=true->aJ cf ρ g nv lets->∃ v,bR σ ρ G w sv v/\(execOp a.eval o).run P w=.ok (.value v) w):fV P E F σ ρ a w g o Q res.upd:=by
 simp only[qE,aF,Option.some.injEq]at h;subst h;simp only[Caf,Pbc];refine⟨fun hg=>?_,fun hg=>Ebl hR hd hg⟩;obtain⟨v,h1,h2⟩:=hv hg hs;exact lK h2 ⟨G,hR.pure o hd g _ v fun _=>h1⟩
theorem vB (hR:R E.ntmps F σ ρ a w G)(hd:eG E.ntmps o){sv:SV}{res:bI}{nv:Nat}
  (h:(Ta2 o g nv sv).eval σ=some res) (hs:aJ cf ρ g nv res.lets)
  (hv:gOn ρ g=true->∃ v,bR σ ρ G w sv v/\(execOp a.eval o).run P w=.ok (.value v) w):fV P E F σ ρ a w g o Q res.upd:=by
 unfold Ta2 at h;split at h
 ·rename_i z l
  split at h
  ·rename_i x hx
   refine bZ hR hd h hs fun hg d hp=>?_
   obtain⟨v,h1,h2⟩:=hv hg;simp only[aY.run,Ob1,Pba,Option.some.injEq,List.cons.injEq,and_true]at hp;exact⟨v,hp▸iV hg hx h1,h2⟩
  ·exact dA hR hd h hs fun hg _=>hv hg
 ·exact dA hR hd h hs fun hg _=>hv hg
theorem fA {s:Sem Value}{v:Value}(h:s.run P w=.ok v w'):(do pure (Next.value (<- s)):Sem Next).run P w=.ok (.value v) w':=by
 simp only[Sem.run_bind,h,Result.andThen_ok,Sem.run_pure]
theorem Gav (hR:R E.ntmps F σ ρ a w G)(hd:eG E.ntmps o){nv:Nat}{x:Operand}(ho:o.op=.move x\/o.op=.assign x){res:bI}
  (h:(do Ta2 o g nv (<- Ka2 E g o.type x):RdM bI).eval σ=some res) (hs:aJ cf ρ g nv res.lets):fV P E F σ ρ a w g o Q res.upd:=by
 simp only[aA,Obg]at h;obtain⟨sv,h1,h2⟩:=h;refine vB hR hd h2 hs fun hg=>⟨a.eval x,fF hR hg h1,?_⟩
 rcases ho with ho|ho<;>(unfold execOp;rw[ho];rfl)
theorem Sc.int_inv {v:Value}{k:IntKind}{n:Int}(h:Sc v (.int k n)):v=.int k n:=by cases h;rfl
theorem Sc.bool_inv {v:Value}{b:Bool}(h:Sc v (.bool b)):v=.bool b:=by cases h;rfl
theorem Sc.str_inv {v:Value}{l:List UInt8}(h:Sc v (.str l)):v=.string ⟨l.toArray⟩:=by cases h;rfl
theorem Ga4 (hR:R E.ntmps F σ ρ a w G)(hg:gOn ρ g=true){z:aI×Bool}{t:TypeId}{x:Operand}{y:aI}(h:(Ga5 E g z t x).eval σ=some y)(hz:gOn ρ (some z)=true):Sc (a.eval x) (y.val ρ):=by
 simp only[Ga5,aA,Obg]at h;obtain⟨l,h1,h2⟩:=h;have hl:=eO hR hg h1;split at h2
 ·rename_i b hb
  simp only[aF,Option.some.injEq]at h2;subst h2;exact iV hg hb hl
 ·simp only[aS]at h2
  exact iV hz h2 hl
theorem Qa7 (hR:R E.ntmps F σ ρ a w G)(hd:eG E.ntmps o){nv:Nat}{c x y:Operand}(ho:o.op=.pick c x y){res:bI}
  (h:(do
   let c <- rdA E g 0 c
   let a <- Ga5 E g (c,true) o.type x
   let b <- Ga5 E g (c,false) o.type y
   qD o g nv .pick [c,a,b]:RdM bI).eval σ=some res) (hs:aJ cf ρ g nv res.lets):fV P E F σ ρ a w g o Q res.upd:=by
 simp only[aA,Obg]at h;obtain⟨c',h1,x',h2,y',h3,h4⟩:=h;refine bZ hR hd h4 hs fun hg d hp=>?_
 have hc:=iJ hR hg h1;simp only[Ob1,Pba]at hp;generalize hcv:c'.val ρ=cv at hp hc
 cases cv with
 | bool b =>
  simp only[aY.run,Option.some.injEq,List.cons.injEq,and_true]at hp;have e:a.eval c=.bool b:=hc.bool_inv;refine⟨if b then a.eval x else a.eval y,?_,?_⟩
  ·cases b with
   | true =>
    rw[if_pos rfl]at hp ⊢;exact hp▸Ga4 hR hg h2 (by simp[gOn,hcv])
   | false =>
    simp only[Obp,if_false]at hp ⊢;exact hp▸Ga4 hR hg h3 (by simp[gOn,hcv])
  ·unfold execOp
   simp only[ho,e];simp only[asBool,Sem.run_bind,Sem.run_pure,Result.andThen_ok]
 |_=>simp[aY.run]at hp
theorem toList_mk (l:List UInt8):(⟨l.toArray⟩:ByteArray).toList=l:=by
 rw[ByteArray.toList_eq]
theorem size_mk (l:List UInt8):(⟨l.toArray⟩:ByteArray).size=l.length:=rfl
theorem Wab (x y:List UInt8):(⟨x.toArray⟩:ByteArray)++(⟨y.toArray⟩:ByteArray)=⟨(x++y).toArray⟩:=by
 apply ByteArray.ext;rw[ByteArray.data_append];simp
theorem Rad {op:BinOp}{t:TypeId}{k k':IntKind}{x y:Int}{d:D}(h:Maw op (.int k x) (.int k' y)=some d) :
    ∃ v,Sc v d/\(binOp op t (.int k x) (.int k' y)).run P w=.ok v w:=by
  unfold Maw at h;dsimp only at h
  cases op<;>dsimp only at h<;>first
    | (simp only [Tan] at h
       split at h
       · cases h
       · rename_i hy
         obtain rfl:=Option.some.inj h;exact⟨_,.int _ _,by simp[binOp,Op.shift,hy]⟩)
    | (split at h
       · rename_i hk
         subst hk;simp only[zM]at h
         first
         | (obtain rfl := Option.some.inj h
            first
            |exact⟨_,.int _ _,by simp[binOp,Op.intArith,Op.intBits]⟩
            |exact⟨_,.bool _,by simp[binOp,Op.intCmp]⟩)
         | (split at h
            · cases h
            · rename_i hy
              obtain rfl:=Option.some.inj h;exact⟨_,.int _ _,by simp[binOp,Op.intDiv,hy]⟩)
         |cases h
       · cases h)
theorem Rac {op:BinOp}{t:TypeId}{x y:List UInt8}{d:D}(h:Maw op (.str x) (.str y)=some d) :
    ∃ v,Sc v d/\(binOp op t (.string ⟨x.toArray⟩) (.string ⟨y.toArray⟩)).run P w=.ok v w:=by
  simp only[Maw,Cb8]at h;have a2f:IntKind.i64.max=9223372036854775807:=by decide
  cases op<;>dsimp only at h<;>first
    | (obtain rfl := Option.some.inj h
       exact⟨_,.bool _,by simp[binOp,Op.stringOp,toList_mk]⟩)
    | (split at h
       · rename_i hl
         obtain rfl:=Option.some.inj h;refine⟨_,.str _,?_⟩;simp only[binOp,Op.stringOp,size_mk,Wab,a2f];rw[if_neg (by omega)];rfl
       · cases h)
    |cases h
theorem Ab2 {op:BinOp}{t:TypeId}{vx vy:Value}{dx dy d:D}(hx:Sc vx dx)(hy:Sc vy dy)(h:Maw op dx dy=some d) :
  ∃ v,Sc v d/\(binOp op t vx vy).run P w=.ok v w:=by
 cases hx<;>cases hy<;>first|exact Rad h|exact Rac h|(simp[Maw]at h)
theorem Ra8 {op:BinOp}{t:TypeId}{x y:Operand}{vx vy:Value}{dx dy:D}(hx:Sc vx dx)(hy:Sc vy dy):(eqGuard op t x y vx vy).run P w=.ok () w:=by
 cases hx<;>cases hy<;>(unfold eqGuard;cases op<;>simp)
theorem Kam (hR:R E.ntmps F σ ρ a w G)(hd:eG E.ntmps o){nv:Nat}{op:BinOp}{t ty:TypeId}{x y:Operand}(ho:o.op=.binOp op t x y ty){res:bI}
  {x' y':aI} (h1:gOn ρ g=true->Sc (a.eval x) (x'.val ρ)) (h2:gOn ρ g=true->Sc (a.eval y) (y'.val ρ))
  (h:(qD o g nv (.bin op) [x',y']).eval σ=some res) (hs:aJ cf ρ g nv res.lets):fV P E F σ ρ a w g o Q res.upd:=by
 refine bZ hR hd h hs fun hg d hp=>?_
 simp only[Ob1,Pba,aY.run,Obr,List.cons.injEq,and_true]at hp;obtain⟨d',hp,rfl⟩:=hp;obtain⟨v,h3,h4⟩:=Ab2 (P:=P) (w:=w) (t:=t) (h1 hg) (h2 hg) hp;refine⟨v,h3,?_⟩;unfold execOp;simp only[ho];refine fA ?_;rw[Sem.run_bind,Ra8 (h1 hg) (h2 hg)];exact h4
theorem Xat (hR:R E.ntmps F σ ρ a w G)(hd:eG E.ntmps o){nv:Nat}{op:UnOp}{t:TypeId}{x:Operand}(ho:o.op=.unOp op t x){res:bI}
  (h:(do
   let a <- rdA E g 0 x
   match op with
   |.not=>qD o g nv .not [a]
   |.neg=>qD o g nv .neg [a]
   |.xor=>qD o g nv .inv [a]
   |_=>.no:RdM bI).eval σ=some res) (hs:aJ cf ρ g nv res.lets):fV P E F σ ρ a w g o Q res.upd:=by
 simp only[aA,Obg]at h;obtain⟨x',h1,h2⟩:=h;split at h2
 ·refine bZ hR hd h2 hs fun hg d hp=>?_
  have hx:=iJ hR hg h1;simp only[Ob1,Pba]at hp;generalize x'.val ρ=xv at hp hx;cases xv<;>simp only[aY.run]at hp<;>first|cases hp|skip
  rename_i b;exact⟨_,.bool _,by unfold execOp;simp only[ho,hx.bool_inv];rfl⟩
 ·refine bZ hR hd h2 hs fun hg d hp=>?_
  have hx:=iJ hR hg h1;simp only[Ob1,Pba]at hp;generalize x'.val ρ=xv at hp hx;cases xv<;>simp only[aY.run]at hp<;>first|cases hp|skip
  exact⟨_,.int _ _,by unfold execOp;simp only[ho,hx.int_inv];rfl⟩
 ·refine bZ hR hd h2 hs fun hg d hp=>?_
  have hx:=iJ hR hg h1;simp only[Ob1,Pba]at hp;generalize x'.val ρ=xv at hp hx;cases xv<;>simp only[aY.run,zM,Pbj,Option.some.injEq,List.cons.injEq,and_true]at hp<;>first|cases hp|skip
  exact⟨_,.int _ _,by unfold execOp;simp only[ho,hx.int_inv];rfl⟩
 ·cases h2
theorem Qa9 (hR:R E.ntmps F σ ρ a w G)(hd:eG E.ntmps o)(hti:sG P E.ti){nv:Nat}{src dst:TypeId}{x:Operand}(ho:o.op=.convert src dst x){res:bI}{s d:TI}{k:IntKind}
  (nk:E.ti src=some s) (lz:s.ik.isSome=true) (gp:E.ti dst=some d) (hk:d.ik=some k) {x':aI} (h1:(rdA E g src x).eval σ=some x')
  (h:(qD o g nv (.conv k) [x']).eval σ=some res) (hs:aJ cf ρ g nv res.lets):fV P E F σ ρ a w g o Q res.upd:=by
 refine bZ hR hd h hs fun hg e hp=>?_
 have hx:=iJ hR hg h1;simp only[Ob1,Pba]at hp;generalize x'.val ρ=xv at hp hx;cases xv<;>simp only[aY.run]at hp<;>first|cases hp|skip
 rename_i k0 n;obtain⟨i1,u1,f1⟩:=aV (hti.ok _ _ nk);obtain⟨i2,u2,f2⟩:=aV (hti.ok _ _ gp)
 have e2:u2=.int k:=by
  have:=f2.ik.symm.trans hk;unfold Hb9 at this;split at this
  ·rw[Option.some.inj this]
  ·cases this
 subst e2;refine⟨_,.int _ _,?_⟩;unfold execOp;simp only[ho,hx.int_inv];refine fA ?_;simp only[convert,Sem.run_bind,run_underlying f1.und,run_underlying f2.und,Result.andThen_ok];rfl
end
section
variable {P:Program} {E:Env} {F:bC} {σ:Nat->Option aN} {ρ:List D} {a:Act} {w w':World} {G:Gh} {g:Option (aI×Bool)} {o:Oper} {cf:Nat->List D->Option (List D)} {Q:Exit->Act->World->Prop} {next:Act->World->Prop}
def Ia1 (σ:Nat->Option aN)(r k:Nat):Prop:=∃ m,vX σ r k m
theorem iC:∀ {deps ds:List (Nat×Nat)},(sS deps).eval σ=some ds ->
  (∀ z∈deps,kJ σ z.1 z.2)/\(∀ z∈ds,z∈deps/\Ia1 σ z.1 z.2)/\∀ z∈deps,z∈ds\/∃ x m,σ (kR z.1)=some (.root x m z.2 .frozen)
 | [], ds, h => by
  simp only[sS,aF,Option.some.injEq]at h;subst h;simp
 | (r, k) :: rest, ds, h => by
  simp only[sS,aA,aO,Obm]at h;split at h
  ·rename_i x m aE st hk
   simp only[aA,Obg]at h;obtain⟨gn,h1,h2⟩:=h;obtain⟨h3,h4,h5⟩:=iC h1;split at h2
   ·rw[fZ]at h2
    split at h2
    ·rename_i e
     simp only[Ob4]at e;simp only[aF,Option.some.injEq]at h2;subst h2 e;refine⟨fun z hz=>?_,fun z hz=>⟨Obq _ (h4 z hz).1,(h4 z hz).2⟩,fun z hz=>?_⟩
     ·rcases List.mem_cons.1 hz with rfl|hz
      ·exact⟨x,m,.frozen,hk,.inr rfl⟩
      ·exact h3 z hz
     ·rcases List.mem_cons.1 hz with rfl|hz
      ·exact .inr ⟨x,m,hk⟩
      ·exact h5 z hz
    ·cases h2
   ·rw[fZ]at h2
    split at h2
    ·rename_i e
     simp only[Ob4]at e;simp only[aF,Option.some.injEq]at h2;subst h2 e;refine⟨fun z hz=>?_,fun z hz=>?_,fun z hz=>?_⟩
     ·rcases List.mem_cons.1 hz with rfl|hz
      ·exact⟨x,m,.live,hk,.inl rfl⟩
      ·exact h3 z hz
     ·rcases List.mem_cons.1 hz with rfl|hz
      ·exact⟨Obu,m,x,hk⟩
      ·exact⟨Obq _ (h4 z hz).1,(h4 z hz).2⟩
     ·rcases List.mem_cons.1 hz with rfl|hz
      ·exact .inl Obu
      ·exact (h5 z hz).imp (Obq _) id
    ·cases h2
   ·cases h2
  ·cases h
theorem Rd.drop (hR:R E.ntmps F σ ρ a w G){deps ds:List (Nat×Nat)}(h:∀ z∈deps,z∈ds\/∃ x m,σ (kR z.1)=some (.root x m z.2 .frozen)){v:Value}{d:D}
  (hv:Rd (allow G deps) w v d):Rd (allow G ds) w v d:=by
 refine hv.mono fun b hb=>⟨?_,rfl⟩
 rcases hb with hb|⟨r,k,p,hm,hb⟩
 ·exact .inl hb
 ·rcases h (r,k) hm with h1|⟨x,m,h1⟩
  ·exact .inr ⟨r,k,p,h1,hb⟩
  ·exact absurd hb ((hR.root h1).2 b p)
def rX (σ:Nat->Option aN)(ρ:List D)(G:Gh)(w:World)(s:SlR)(v:Value):Prop :=
 match s.own with
 |none=>True
 | some (r, k, m, p) => s.deps = [(r, k)] /\ vX σ r k m /\ match p with
  |.no=>True
  |.view=>Rp G.own w r [] m v (s.x.val ρ)
  |.suf sz lo=>Abe (G.hdr r) v sz (jS ρ lo)
  |.path q=>q.length<=m/\Rp G.own w r (aZ ρ q) (m-q.length) v (s.x.val ρ)/\wB G.own w r [] (G.hdr r) (aZ ρ q) v
structure Sap (σ:Nat->Option aN) (ρ:List D) (G:Gh) (w:World) (s:SlR) (v:Value):Prop where
 rd:Rd (allow G s.deps) w v (s.x.val ρ)
 live:∀ z∈s.deps,Ia1 σ z.1 z.2
 nie:s.nie=true->∀ z,s.x.val ρ=.rows z []->v=.slice none 0 0
 own:rX σ ρ G w s v
theorem dH (hR:R E.ntmps F σ ρ a w G){l:aM}{s:SlR}(h:(vC l).eval σ=some s){v:Value}(hl:aB σ ρ G w l v):Sap σ ρ G w s v:=by
 unfold vC at h;split at h
 ·rename_i r
  simp only[aB]at hl;simp only[aA,aO,Obm]at h;split at h
  ·rename_i x m aE hk
   simp only[aF,Option.some.injEq]at h;subst h;have hr:=hR.root hk;simp only[bK]at hr;rw[<- hl.1]at hr;refine⟨hr.rd.mono fun b hb=>⟨hb.imp id fun ⟨q,hq⟩=>⟨r,aE,q,by simp,hq⟩,rfl⟩,?_,by simp,?_⟩
   ·intro z hz
    simp only[Obt]at hz;subst hz;exact⟨m,x,hk⟩
   ·refine⟨rfl,⟨x,hk⟩,Nat.zero_le _,by simpa[aZ] using hr,?_⟩
    simp only[aZ,Pba,wB];exact hl.1
  ·rename_i x m aE hk
   simp only[aF,Option.some.injEq]at h;subst h;have hr:=(hR.root hk).1;rw[<- hl.1]at hr;exact⟨hr.mono fun b hb=>⟨.inl hb,rfl⟩,by simp,by simp,trivial⟩
  ·cases h
 ·rename_i deps p nie x
  simp only[aB]at hl;simp only[aA,Obg]at h;obtain⟨ds,h1,h2⟩:=h;obtain⟨h3,h4,h5⟩:=iC h1;obtain⟨h6,h7,h8⟩:=hl.2 h3;have h9:=h6.drop hR h5;split at h2
  ·simp only[aF,Option.some.injEq]at h2
   subst h2;exact⟨h9,fun z hz=>(h4 z hz).2,h7,trivial⟩
  ·rename_i r k z cn
   simp only[aA,aO,Obm]at h2;split at h2
   ·rename_i x' m aE hk
    simp only[aF,Option.some.injEq]at h2;subst h2;have hz:=(h4 z (by simp)).1;simp only[Obt]at hz;subst hz;have gu:Ia1 σ r k:=(h4 (r,k) (by simp)).2;obtain⟨m',x'',jd⟩:=gu;rw[hk]at jd;obtain⟨rfl,rfl,rfl⟩:x'=x''/\m=m'/\aE=k:=by injection jd with jd;injection jd with a b c d;exact⟨a,b,c⟩
    refine⟨h9,fun z hz=>(h4 z hz).2,h7,rfl,⟨x',hk⟩,?_⟩
    cases p with
    |no=>trivial
    |view=>exact h8 r aE m rfl ⟨x',hk⟩
    |path q=>exact h8 r aE m rfl ⟨x',hk⟩
    |suf sz lo=>exact h8 r aE m rfl ⟨x',hk⟩
   ·cases h2
  ·simp only[aF,Option.some.injEq]at h2
   subst h2;exact⟨h9,fun z hz=>(h4 z hz).2,h7,trivial⟩
 ·cases h
theorem Rd.inv {ok:Nat->Prop}{v:Value}{sz:Nat}{rs:List (List D)}(h:Rd ok w v (.rows sz rs)) :
  ∃ (A:Option Addr) (a:Addr) (n c:Nat) (vs:Nat->Nat->Value),v=.slice A n c/\rs.length=n/\n<=c/\(n=0\/A=some a)/\(∀ r∈rs,r.length=sz) /\
   (∀ i r,rs[i]?=some r->∀ j d,r[j]?=some d->ok a.block/\w.cell? (a.add (i*sz+j))=some (vs i j)) /\
   (∀ i r,rs[i]?=some r->∀ j d,r[j]?=some d->Rd ok w (vs i j) d):=by
 cases h with
 |sc h=>cases h
 |rows A a n c sz rs vs hn hc hA dm bc b5=>exact⟨A,a,n,c,vs,rfl,hn,hc,hA,dm,bc,b5⟩
theorem nR {t:TypeId}{i:TI}{info:TypeInfo}{u:TypeDesc}{e:Nat}(f:bU P t i info u)(h:i.elem=some e):u=.slice e:=by
 have:=f.elem.symm.trans h;unfold Van at this;split at this
 ·rw[Option.some.inj this]
 ·cases this
theorem Fag {t:TypeId}{i:TI}{info:TypeInfo}{u:TypeDesc}(f:bU P t i info u)(h:i.elem.isSome=true):∃ e,u=.slice e:=by
 cases e:i.elem with
 |none=>rw[e]at h;cases h
 |some e'=>exact⟨e',nR f e⟩
theorem Aau {t:TypeId}{i:TI}{info:TypeInfo}{u:TypeDesc}(f:bU P t i info u)(h:i.isStr=true):u=.string:=by
 have:Uar u=true:=by rw[<- h,f.eq];rfl
 unfold Uar at this;split at this
 ·rfl
 ·cases this
theorem Jad {t:TypeId}{i:TI}{info:TypeInfo}{u:TypeDesc}(f:bU P t i info u){k off ft:Nat}(h:i.flds[k]?=some (off,ft)) :
  ∃ fs fd,u=.struct fs/\fs[k]?=some fd/\fd.offset=off/\fd.type=ft:=by
 rw[f.flds]at h;unfold Ua9 at h;split at h
 ·rename_i fs
  simp only[Ob5,Obr,Prod.mk.injEq]at h;obtain⟨fd,h1,h2,h3⟩:=h;exact⟨fs,fd,rfl,by simpa using h1,h2,h3⟩
 ·simp at h
theorem Jao {α:Type}{as:Array α}{x:α}(h:as.toList=[x]):as=#[x]:=by
 apply Rbl;simpa using h
theorem Zak {α:Type}{as:Array α}{x y:α}(h:as.toList=[x,y]):as=#[x,y]:=by
 apply Rbl;simpa using h
theorem kN {b:Builtin}{args:Array Operand}{argTypes:Array TypeId}{s:Sem Value}{v:Value}(ho:o.op=.call { callee:=.builtin b,args,argTypes })
  (hb:∀ consts,builtin b argTypes o.type consts (args.map a.eval)=(do pure (.value (<- s)))) (h:s.run P w=.ok v w'):(execOp a.eval o).run P w=.ok (.value v) w':=by
 unfold execOp;simp only[ho,resolve,Sem.run_bind,Sem.run_pure,Result.andThen_ok,invoke,hb];rw[h];rfl
theorem Na6 {α γ:Type}(f:α->γ)(x:α):Array.map f #[x]=#[f x]:=by simp
theorem Bbe {α γ:Type}(f:α->γ)(x y:α):Array.map f #[x,y]=#[f x,f y]:=by simp
theorem Nav {t ty:TypeId}{argTypes:Array TypeId}(ht:argTypes[0]?=some t)(hu:P.underlying t=some .string)(s:ByteArray) :
  (Builtin.len_ argTypes ty #[.string s]).run P w=.ok (.int .i64 s.size) w:=by
 simp[Builtin.len_,ht,run_underlying hu,goInt]
theorem run_len_slice {t ty e:TypeId}{argTypes:Array TypeId}(ht:argTypes[0]?=some t)(hu:P.underlying t=some (.slice e))(A:Option Addr)(n c:Nat) :
  (Builtin.len_ argTypes ty #[.slice A n c]).run P w=.ok (.int .i64 n) w:=by
 simp[Builtin.len_,ht,run_underlying hu,goInt]
theorem Tae (hR:R E.ntmps F σ ρ a w G)(hd:eG E.ntmps o)(hti:sG P E.ti){nv:Nat}{args:Array Operand}{argTypes:Array TypeId}
  (ho:o.op=.call { callee:=.builtin .len,args,argTypes }) {x:Operand} (hx:args.toList=[x]) {t:TypeId} (ht:argTypes[0]?=some t) {ti:TI} (hi:E.ti t=some ti) {res:bI}
  (h:(do
   let l <- rdL E g t x
   match rO g l with
   | some a => do
    bG ti.isStr
    qD o g nv .slen [a]
   | none => do
    bG ti.elem.isSome
    let s <- vC l
    qD o g nv .len [s.x]:RdM bI).eval σ=some res) (hs:aJ cf ρ g nv res.lets):fV P E F σ ρ a w g o Q res.upd:=by
 obtain⟨info,u,f⟩:=aV (hti.ok _ _ hi);simp only[aA,Obg]at h;obtain⟨l,h1,h2⟩:=h;split at h2
 ·rename_i y hy
  simp only[aA,aH,Obg]at h2;obtain⟨_,h3,h4⟩:=h2;split at h3
  ·rename_i a4e
   obtain rfl:=Aau f a4e;refine bZ hR hd h4 hs fun hg d hp=>?_
   have hv:=iV hg hy (eO hR hg h1);simp only[Ob1,Pba]at hp;generalize y.val ρ=yv at hp hv;cases yv<;>simp only[aY.run]at hp<;>first|cases hp|skip
   rename_i s;refine⟨_,.int _ _,kN ho (fun _=>rfl) ?_⟩;have e:=Nav (P:=P) (w:=w) (ty:=o.type) ht f.und ⟨s.toArray⟩;rw[<- hv.str_inv]at e;rw[Jao hx,Na6];exact e
  ·cases h3
 ·rename_i hy
  simp only[aA,aH,Obg]at h2;obtain⟨_,h3,s,h4,h5⟩:=h2;split at h3
  ·rename_i sk
   obtain⟨e,rfl⟩:=Fag f sk;refine bZ hR hd h5 hs fun hg d hp=>?_
   have hv:=(dH hR h4 (eO hR hg h1)).rd;simp only[Ob1,Pba]at hp;generalize s.x.val ρ=yv at hp hv;cases yv<;>simp only[aY.run]at hp<;>first|cases hp|skip
   rename_i sz rs;obtain⟨A,b,n,c,vs,e1,e2,-⟩:=hv.inv;refine⟨_,.int _ _,kN ho (fun _=>rfl) ?_⟩;have e:=run_len_slice (P:=P) (w:=w) (ty:=o.type) ht f.und A n c;rw[<- e1]at e;rw[Jao hx,e2,Na6];exact e
  ·cases h3
theorem aG.len {ls:List aM}:∀ {vs:List Value},aG σ ρ G w ls vs->vs.length=ls.length:=by
 induction ls with
 |nil=>intro vs h;simp only[aG]at h;simp[h]
 | cons l ls ih =>
  intro vs h;simp only[aG]at h;obtain⟨u,us,rfl,_,h2⟩:=h;simp[ih h2]
theorem aG.get {ls:List aM}:∀ {vs:List Value} {i:Nat} {l:aM},aG σ ρ G w ls vs->ls[i]?=some l->∃ v,vs[i]?=some v/\aB σ ρ G w l v:=by
 induction ls with
 |nil=>intro vs i l h hi;simp at hi
 | cons l0 ls ih =>
  intro vs i l h hi;simp only[aG]at h;obtain⟨u,us,rfl,h1,h2⟩:=h
  cases i with
  | zero =>
   simp only[Obn,Option.some.injEq]at hi;subst hi;exact⟨u,rfl,h1⟩
  | succ i =>
   simp only[Pbi]at hi ⊢;exact ih h2 hi
theorem aG.of_get {ls:List aM}:∀ {vs:List Value},vs.length=ls.length->(∀ (i:Nat) (l:aM) (v:Value),ls[i]?=some l->vs[i]?=some v->aB σ ρ G w l v)->aG σ ρ G w ls vs:=by
 induction ls with
 |nil=>intro vs h _;simp only[aG];exact Pbr h
 | cons l0 ls ih =>
  intro vs h hg
  cases vs with
  |nil=>simp at h
  | cons u us =>
   simp only[aG];exact⟨u,us,rfl,hg 0 l0 u rfl rfl,ih (by simpa using h) fun i l v hi hv=>hg (i+1) l v hi hv⟩
theorem aG.drop {ls:List aM}{vs:List Value}(k:Nat)(h:aG σ ρ G w ls vs):aG σ ρ G w (ls.drop k) (vs.drop k):=by
 refine .of_get (by simp[h.len]) fun i l v hi hv=>?_
 rw[Pbk]at hi hv;obtain⟨v',h1,h2⟩:=h.get hi;rw[h1]at hv;exact Option.some.inj hv▸h2
theorem aG.take {ls:List aM}{vs:List Value}(k:Nat)(h:aG σ ρ G w ls vs):aG σ ρ G w (ls.take k) (vs.take k):=by
 refine .of_get (by simp[h.len]) fun i l v hi hv=>?_
 rw[Pbq]at hi hv;split at hi
 ·rename_i hk
  rw[if_pos hk]at hv;obtain⟨v',h1,h2⟩:=h.get hi;rw[h1]at hv;exact Option.some.inj hv▸h2
 ·cases hi
theorem pM {agg:Bool}{ls:List aM}{sv:SV}(h:Paa agg ls=some sv){vs:List Value}(hl:aG σ ρ G w ls vs){v:Value}
  (hv:if agg=true then v=.agg vs.toArray else vs=[v]):bR σ ρ G w sv v:=by
 unfold Paa at h
 cases agg with
 | true =>
  simp only[cond_true,Option.some.injEq]at h;subst h;exact⟨vs,by simpa using hv,hl⟩
 | false =>
  simp only[cond_false]at h;split at h
  ·simp only[Option.some.injEq]at h
   subst h;simp only[Obp,if_false]at hv;subst hv;simp only[aG]at hl;obtain⟨u,us,e,h1,-⟩:=hl;obtain⟨rfl,-⟩:=List.cons.inj e;exact h1
  ·cases h
theorem Nam (hR:R E.ntmps F σ ρ a w G)(hd:eG E.ntmps o)(hti:sG P E.ti){nv:Nat}{t:TypeId}{x:Operand}{k:Nat}(ho:o.op=.field t x k){ti fi:TI}{off ft:Nat}
  (hi:E.ti t=some ti) (hf:ti.flds[k]?=some (off,ft)) (hfi:E.ti ft=some fi) {res:bI}
  (h:(do
   match <- Ka2 E g t x with
   | .agg ls => do
    bG (Nat.ble (off+fi.size) ls.length&&Nat.beq ls.length ti.size)
    match Paa fi.agg ((ls.drop off).take fi.size) with
    |some v=>Ta2 o g nv v
    |none=>.no
   |_=>.no:RdM bI).eval σ=some res) (hs:aJ cf ρ g nv res.lets):fV P E F σ ρ a w g o Q res.upd:=by
 obtain⟨info,u,f⟩:=aV (hti.ok _ _ hi);obtain⟨hJ,u',f'⟩:=aV (hti.ok _ _ hfi);obtain⟨fs,fd,rfl,h1,rfl,rfl⟩:=Jad f hf;simp only[aA,Obg]at h;obtain⟨sv,h2,h3⟩:=h;split at h3
 ·rename_i ls
  simp only[aA,aH,Obg]at h3;obtain⟨_,h4,h5⟩:=h3;split at h4
  ·rename_i hb
   simp only[Obh,Pbn]at hb;split at h5
   ·rename_i sv' gb
    refine vB hR hd h5 hs fun hg=>?_
    obtain⟨vs,e,hl⟩:=fF hR hg h2;have eW:=(hl.drop fd.offset).take fi.size;have hlen:=hl.len
    have bf:∀ v,(if fi.agg=true then v=.agg ((vs.drop fd.offset).take fi.size).toArray else (vs.drop fd.offset).take fi.size=[v]) ->
      (execOp a.eval o).run P w=.ok (.value v) w:=by
     intro v hv;unfold execOp;simp only[ho];refine fA ?_;simp only[Instr.field,Sem.run_bind,run_underlying f.und,Result.andThen_ok,h1,e,asAgg,Sem.run_pure,part,f'.isAgg,f'.sizeOf]
     cases sR:fi.agg with
     | true =>
      rw[sR]at hv;simp only[if_true]at hv ⊢;rw[hv];simp only[Sem.run_bind,f'.sizeOf,Result.andThen_ok,Sem.run_pure];congr 2;apply Rbl;simp[List.extract_eq_take_drop]
     | false =>
      rw[sR]at hv;simp only[Obp,if_false]at hv ⊢
      have:vs[fd.offset]?=some v:=by
       have h0:((vs.drop fd.offset).take fi.size)[0]?=some v:=by rw[hv];rfl
       rw[Pbq]at h0;split at h0
       ·rw[Pbk]at h0;simpa using h0
       ·cases h0
      simp[this]
    cases sR:fi.agg with
    | true =>
     refine⟨.agg ((vs.drop fd.offset).take fi.size).toArray,pM gb eW (by rw[sR];rfl),bf _ (by rw[sR];rfl)⟩
    | false =>
     have om:((ls.drop fd.offset).take fi.size).length=1:=by
      rw[sR]at gb;unfold Paa at gb;simp only[cond_false]at gb;split at gb
      ·rename_i l om;rw[om];rfl
      ·cases gb
     have s5:((vs.drop fd.offset).take fi.size).length=1:=by rw[eW.len,om]
     obtain⟨v,hv⟩:=List.length_eq_one_iff.1 s5;exact⟨v,pM gb eW (by rw[sR];exact hv),bf _ (by rw[sR];exact hv)⟩
   ·cases h5
  ·cases h4
 ·cases h3
theorem gU.get:∀ {ts:List (Bool×List aM)} {us:List Value} {i:Nat} {ag:Bool} {ls:List aM},gU σ ρ G w ts us->ts[i]?=some (ag,ls) ->
  ∃ u vs,us[i]?=some u/\aG σ ρ G w ls vs/\(if ag=true then u=.agg vs.toArray else vs=[u])
 |[],_,_,_,_,_,h=>by simp at h
 | (a0, l0) :: r, us, i, ag, ls, ht, h => by
  obtain⟨u,cA,vs,rfl,h1,h2,h3⟩:=ht
  cases i with
  | zero =>
   simp only[Obn,Option.some.injEq,Prod.mk.injEq]at h;obtain⟨rfl,rfl⟩:=h;exact⟨u,vs,rfl,h1,h2⟩
  | succ i =>
   simp only[Pbi]at h ⊢;exact gU.get h3 h
theorem Iag (hR:R E.ntmps F σ ρ a w G)(hd:eG E.ntmps o){nv:Nat}{x:Operand}{i:Nat}(ho:o.op=.extract x i){res:bI}
  (h:(do
   match <- Ka2 E g 0 x with
   | .tup vs => match vs[i]? with
    | some (a, ls) => match Paa a ls with
     |some v=>Ta2 o g nv v
     |none=>.no
    |none=>.no
   |_=>.no:RdM bI).eval σ=some res) (hs:aJ cf ρ g nv res.lets):fV P E F σ ρ a w g o Q res.upd:=by
 simp only[aA,Obg]at h;obtain⟨sv,h2,h3⟩:=h;split at h3
 ·rename_i ts
  split at h3
  ·rename_i ag ls hi
   split at h3
   ·rename_i v hv
    refine vB hR hd h3 hs fun hg=>?_
    obtain⟨us,e,ht⟩:=fF hR hg h2;obtain⟨u,vs,h4,h5,h6⟩:=ht.get hi;refine⟨u,pM hv h5 h6,?_⟩;unfold execOp;simp only[ho];refine fA ?_;simp[Instr.extract,e,h4]
   ·cases h3
  ·cases h3
 ·cases h3
theorem Da6 (hR:R E.ntmps F σ ρ a w G)(hd:eG E.ntmps o)(hti:sG P E.ti){nv:Nat}{t:TypeId}{x:Operand}{k:Nat}(ho:o.op=.fieldAddr t x k){ti fi:TI}{off ft:Nat}
  (hi:E.ti t=some ti) (hf:ti.flds[k]?=some (off,ft)) (hfi:E.ti ft=some fi) (lE:0<fi.size) {res:bI}
  (h:(do Nae o g off (<- rdL E g 0 x):RdM bI).eval σ=some res) (hs:aJ cf ρ g nv res.lets):fV P E F σ ρ a w g o Q res.upd:=by
 obtain⟨info,u,f⟩:=aV (hti.ok _ _ hi);obtain⟨hJ,u',f'⟩:=aV (hti.ok _ _ hfi);obtain⟨fs,fd,rfl,h1,rfl,rfl⟩:=Jad f hf;simp only[aA,Obg]at h;obtain⟨l,h2,h3⟩:=h
 have bf:∀ b:Addr,a.eval x=.pointer (some b)->(execOp a.eval o).run P w=.ok (.value (.pointer (some (b.add fd.offset)))) w:=by
  intro b hb;unfold execOp;simp only[ho];refine fA ?_;have cn:¬ fi.size=0:=by omega
  simp only[Instr.fieldAt,Sem.run_bind,run_underlying f.und,Result.andThen_ok,h1,Instr.sureAddr,hb,Sem.run_pure,fieldPlace,f'.sizeOf,if_neg cn]
 unfold Nae at h3;split at h3
 ·rename_i b off
  refine dA hR hd h3 hs fun hg _=>?_
  have hl:=eO hR hg h2;simp only[aB]at hl;refine⟨_,?_,bf _ hl.1⟩;simp only[bR,aB];exact⟨by rw[add_add],hl.2⟩
 ·rename_i l' sz i off
  refine dA hR hd h3 hs fun hg _=>?_
  have hl:=eO hR hg h2;simp only[aB]at hl;obtain⟨b,n,c,k',iv,h4,h5,h6,h7,h8⟩:=hl;refine⟨_,?_,bf _ h8⟩;simp only[bR,aB];exact⟨b,n,c,k',iv,h4,h5,h6,h7,by rw[add_add,Ob0]⟩
 ·cases h3
end
section
variable {P:Program} {E:Env} {F:bC} {σ:Nat->Option aN} {ρ:List D} {a:Act} {w w':World} {G:Gh} {g:Option (aI×Bool)} {o:Oper} {cf:Nat->List D->Option (List D)} {Q:Exit->Act->World->Prop} {next:Act->World->Prop}
theorem Da5 (hR:R E.ntmps F σ ρ a w G)(hd:eG E.ntmps o)(hti:sG P E.ti){nv:Nat}{t:TypeId}{x i:Operand}(ho:o.op=.indexAddr t x i){ti ei:TI}{e:Nat}
  (hi:E.ti t=some ti) (he:ti.elem=some e) (xn:E.ti e=some ei) {res:bI}
  (h:(do
   let l <- rdL E g t x
   let s <- vC l
   let a <- rdA E g 0 i
   bG (Nat.blt 0 ei.size)
   qE o g [.prim .inb [s.x,a] 0] (.one (.pe l ei.size a 0)) []:RdM bI).eval σ=some res) (hs:aJ cf ρ g nv res.lets):fV P E F σ ρ a w g o Q res.upd:=by
 obtain⟨info,u,f⟩:=aV (hti.ok _ _ hi);obtain⟨hJ,u',f'⟩:=aV (hti.ok _ _ xn);obtain rfl:=nR f he;simp only[aA,Obg,aH]at h;obtain⟨l,h1,s,h2,y,h3,_,h4,h5⟩:=h;refine dA hR hd h5 hs fun hg ba=>?_
 obtain⟨ds,hp,-,-⟩:=step1 ba hg;have hl:=eO hR hg h1;have gi:=(dH hR h2 hl).rd;have hy:=iJ hR hg h3;simp only[Ob1,Pba]at hp;generalize zf:s.x.val ρ=xv at hp gi;generalize xi:y.val ρ=yv at hp hy;cases xv<;>cases yv<;>simp only[aY.run]at hp<;>first|cases hp|skip
 rename_i sz rs k iv;split at hp
 ·rename_i hb
  obtain⟨A,b,n,c,vs,e1,e2,e3,e4,-⟩:=gi.inv;have hn:n≠0:=by omega
  have hA:A=some b:=e4.resolve_left hn;subst hA;refine⟨.pointer (some (b.add (iv.toNat*ei.size+0))),?_,?_⟩
  ·simp only[bR,aB]
   exact⟨b,n,c,k,iv,e1▸hl,xi,hb.1,by omega,rfl⟩
  ·unfold execOp
   simp only[ho];refine fA ?_;have ar:(0:Int)<=iv/\iv<(n:Int):=⟨hb.1,by rw[<- e2];exact hb.2⟩;simp only[Instr.indexAt,hy.int_inv,asIntOf,Sem.run_bind,Sem.run_pure,Result.andThen_ok,run_underlying f.und,e1,if_pos ar,f'.sizeOf,Nat.add_zero]
 ·cases hp
theorem Nal (hR:R E.ntmps F σ ρ a w G)(hd:eG E.ntmps o)(hti:sG P E.ti){nv:Nat}{t:TypeId}{x i:Operand}(ho:o.op=.index t x i){ti:TI}
  (hi:E.ti t=some ti) {res:bI}
  (h:(do
   bG ti.isStr
   let s <- rdA E g t x
   let a <- rdA E g 0 i
   qD o g nv .sidx [s,a]:RdM bI).eval σ=some res) (hs:aJ cf ρ g nv res.lets):fV P E F σ ρ a w g o Q res.upd:=by
 obtain⟨info,u,f⟩:=aV (hti.ok _ _ hi);simp only[aA,Obg,aH]at h;obtain⟨_,h0,x',h1,y,h2,h3⟩:=h;split at h0
 ·rename_i ba
  obtain rfl:=Aau f ba;refine bZ hR hd h3 hs fun hg d hp=>?_
  have hx:=iJ hR hg h1;have hy:=iJ hR hg h2;simp only[Ob1,Pba]at hp;generalize x'.val ρ=xv at hp hx;generalize y.val ρ=yv at hp hy;cases xv<;>cases yv<;>simp only[aY.run]at hp<;>first|cases hp|skip
  rename_i s k iv;split at hp
  ·rename_i h0i
   split at hp
   ·rename_i b hb
    simp only[Option.some.injEq,List.cons.injEq,and_true]at hp;subst hp;refine⟨_,.int _ _,?_⟩;unfold execOp;simp only[ho];refine fA ?_
    have e:(⟨s.toArray⟩:ByteArray)[iv.toNat]?=some b:=by
     have:iv.toNat<s.length:=by
      rcases Ob2 iv.toNat s.length with h|h
      ·exact h
      ·rw[Pb2 h]at hb;cases hb
     rw[getElem?_pos (⟨s.toArray⟩:ByteArray) iv.toNat (by simpa[ByteArray.size] using this)];rw[Obl this]at hb;rw[<- hb];rfl
    simp only[Instr.index,hy.int_inv,hx.str_inv,asIntOf,Sem.run_bind,Sem.run_pure,Result.andThen_ok,run_underlying f.und,if_pos h0i,e]
   ·cases hp
  ·cases hp
 ·cases h0
theorem vD (hR:R E.ntmps F σ ρ a w G)(hg:gOn ρ g=true):∀ {xs:List Operand} {ts:List TypeId} {oa:List SV},(wI E g xs ts).eval σ=some oa ->
  oa.length=xs.length/\∀ (i:Nat) (sv:SV) (x:Operand),oa[i]?=some sv->xs[i]?=some x->bR σ ρ G w sv (a.eval x)
 | [], ts, oa, h => by
  simp only[wI,aF,Option.some.injEq]at h;subst h;simp
 | x :: xs, ts, oa, h => by
  simp only[wI,aA,Obg,aF,Option.some.injEq]at h;obtain⟨sv,h1,l,h2,rfl⟩:=h;obtain⟨h3,h4⟩:=vD hR hg h2;refine⟨by simp[h3],fun i sv' x' hi hx=>?_⟩
  cases i with
  | zero =>
   simp only[Obn,Option.some.injEq]at hi hx;subst hi hx;exact fF hR hg h1
  | succ i =>
   simp only[Pbi]at hi hx;exact h4 i sv' x' hi hx
theorem Aa2:∀ {oa:List SV} {ls:List aM},rR oa=some ls->ls.length=oa.length/\∀ (i:Nat) (l:aM),ls[i]?=some l->oa[i]?=some (.one l)
 | [], ls, h => by
  simp only[rR,Option.some.injEq]at h;subst h;simp
 | .one l :: r, ls, h => by
  simp only[rR,Obr]at h;obtain⟨m,h1,rfl⟩:=h;obtain⟨h2,h3⟩:=Aa2 h1;refine⟨by simp[h2],fun i l' hi=>?_⟩
  cases i with
  |zero=>simp only[Obn,Option.some.injEq]at hi ⊢;rw[hi]
  |succ i=>simp only[Pbi]at hi ⊢;exact h3 i l' hi
 |.dead::_,_,h=>by simp[rR]at h
 |.agg _::_,_,h=>by simp[rR]at h
 |.tup _::_,_,h=>by simp[rR]at h
theorem Fa8 (hR:R E.ntmps F σ ρ a w G)(hd:eG E.ntmps o){nv:Nat}{fn:FuncId}{first eN:Array Operand}(ho:o.op=.makeFunc (.func fn) first eN){res:bI}
  (h:(do
   bG first.isEmpty
   let vs <- wI E g eN.toList []
   let ls <- lQ (rR vs)
   qE o g [] (.one (.clo fn ls)) []:RdM bI).eval σ=some res) (hs:aJ cf ρ g nv res.lets):fV P E F σ ρ a w g o Q res.upd:=by
 simp only[aA,Obg,aH,aS]at h;obtain⟨_,h0,oa,h1,ls,tw,h2⟩:=h;split at h0
 ·rename_i hf
  refine dA hR hd h2 hs fun hg _=>⟨.func (.func fn) #[] (eN.map a.eval),?_,?_⟩
  ·obtain⟨h3,h4⟩:=vD hR hg h1
   simp only[bR,aB];obtain⟨h5,h6⟩:=Aa2 tw;refine⟨eN.toList.map a.eval,by rw[<- Array.toList_map,Array.toArray_toList],.of_get (by simp[h3,h5]) fun i l v hi hv=>?_⟩;simp only[Ob5,Obr]at hv;obtain⟨x,hv,rfl⟩:=hv;exact h4 i _ x (h6 i l hi) hv
  ·unfold execOp
   simp only[ho];refine fA ?_;have:first=#[]:=by simpa using hf
   subst this;simp[Instr.makeFunc]
 ·cases h0
theorem Fa7 (hR:R E.ntmps F σ ρ a w G)(hd:eG E.ntmps o){nv:Nat}{x:Operand}(ho:o.op=.nilCheck x){res:bI}
  (h:(do
   match <- rdL E g 0 x with
   | .rp deps sz y => do
    let ds <- sS deps
    qE o g [.prim .ne [y] 0] (.one (.pe (.sn ds .no false y) sz (.c (.int .i64 0)) 0)) []
   |.px b off=>qE o g [] (.one (.px b off)) []
   |.pe l sz i off=>qE o g [] (.one (.pe l sz i off)) []
   |.clo f cs=>qE o g [] (.one (.clo f cs)) []
   |.pn=>qE o g [.prim .ne [.c (.rows 0 [])] 0] (.one (.pe (.sn [] .no false (.c (.rows 0 []))) 0 (.c (.int .i64 0)) 0)) []
   |_=>.no:RdM bI).eval σ=some res) (hs:aJ cf ρ g nv res.lets):fV P E F σ ρ a w g o Q res.upd:=by
 simp only[aA,Obg]at h;obtain⟨l,h1,h2⟩:=h
 have pb:∀ b,a.eval x=.pointer (some b)->(execOp a.eval o).run P w=.ok (.value (.pointer (some b))) w:=by
  intro b hb;unfold execOp;simp only[ho,hb];rfl
 split at h2
 ·rename_i deps sz y
  simp only[aA,Obg]at h2;obtain⟨ds,h3,h4⟩:=h2;refine dA hR hd h4 hs fun hg ba=>?_
  obtain⟨zs,hp,-,-⟩:=step1 ba hg;have hl:=eO hR hg h1;simp only[aB]at hl;obtain⟨s5,hv2,hv3⟩:=iC h3
  rcases hl.2 s5 with ⟨e1,z,e2⟩|⟨b,row,e1,e2,e3⟩
  ·simp only[Ob1,Pba,e2,aY.run]at hp
   simp at hp
  ·refine⟨.pointer (some b),?_,pb b e1⟩
   simp only[bR,aB];refine⟨b,1,1,.i64,0,⟨⟨rfl,fun z hz=>hl.1.2 z (hv2 z hz).1⟩,fun _=>⟨?_,by simp,trivial⟩⟩,rfl,by omega,by simp,by simp[Addr.add]⟩;rw[e2];exact e3.drop hR hv3
 ·rename_i b off
  refine dA hR hd h2 hs fun hg _=>?_
  have hl:=eO hR hg h1;have eW:=hl;simp only[aB]at eW;exact⟨_,hl,by rw[eW.1];exact pb _ eW.1⟩
 ·rename_i l' sz i off
  refine dA hR hd h2 hs fun hg _=>?_
  have hl:=eO hR hg h1;have eW:=hl;simp only[aB]at eW;obtain⟨b,n,c,k,iv,-,-,-,-,e⟩:=eW;exact⟨_,hl,by rw[e];exact pb _ e⟩
 ·rename_i f cs
  refine dA hR hd h2 hs fun hg _=>?_
  have hl:=eO hR hg h1;have eW:=hl;simp only[aB]at eW;obtain⟨vs,e,-⟩:=eW;refine⟨_,hl,?_⟩;unfold execOp;simp only[ho,e];rfl
 ·refine dA hR hd h2 hs fun hg ba=>?_
  obtain⟨zs,hp,-,-⟩:=step1 ba hg;simp[aI.val,aY.run]at hp
 ·cases h2
theorem Xa0 {op:BinOp}{x y:Value}{dx dy d:D}(hx:Sc x dx)(hy:Sc y dy)(h:Ebm op dx dy=some d)(jn:op=.lss\/op=.gtr) :
  ∃ v,Sc v d/\(if op=.lss then Builtin.min2 x y else Builtin.max2 x y).run P w=.ok v w:=by
 unfold Ebm at h;split at h
 ·rename_i k x' k' y'
  rw[hx.int_inv,hy.int_inv];split at h
  ·rename_i hk
   subst hk;obtain rfl:=Option.some.inj h;refine⟨_,.int _ _,?_⟩
   rcases jn with rfl|rfl
   ·simp[Builtin.min2]
   ·simp[Builtin.max2]
  ·cases h
 ·cases h
theorem Pai {op:BinOp}(jn:op=.lss\/op=.gtr):∀ {vs:List Value} {ds:List D} {x:Value} {dx d:D},Sc x dx->vs.length=ds.length->(∀ (i:Nat) (v:Value) (e:D),vs[i]?=some v->ds[i]?=some e->Sc v e) ->
  Jac op dx ds=some d->∃ v,Sc v d/\(vs.foldlM (fun a b=>if op=.lss then Builtin.min2 a b else Builtin.max2 a b) x).run P w=.ok v w
 | [], ds, x, dx, d, hx, hl, _, h => by
  obtain rfl:ds=[]:=Pbr (by simpa using hl.symm);simp only[Jac,Option.some.injEq]at h;subst h;exact⟨x,hx,rfl⟩
 | v :: vs, ds, x, dx, d, hx, hl, hg, h => by
  cases ds with
  |nil=>simp at hl
  | cons e es =>
   simp only[Jac,Obg]at h;obtain⟨z,h1,h2⟩:=h;obtain⟨u,h3,h4⟩:=Xa0 (P:=P) (w:=w) hx (hg 0 v e rfl rfl) h1 jn;obtain⟨r,h5,h6⟩:=Pai jn (vs:=vs) (ds:=es) h3 (by simpa using hl) (fun i v' e' hi he=>hg (i+1) v' e' hi he) h2;refine⟨r,h5,?_⟩;rw[List.foldlM_cons,Sem.run_bind,h4];exact h6
theorem Haw (hg:gOn ρ g=true):∀ {ls:List aM} {xs:List aI},Fax g ls=some xs->xs.length=ls.length /\
  ∀ (i:Nat) (l:aM) (x:aI) (v:Value),ls[i]?=some l->xs[i]?=some x->aB σ ρ G w l v->Sc v (x.val ρ)
 | [], xs, h => by
  simp only[Fax,Option.some.injEq]at h;subst h;simp
 | l :: ls, xs, h => by
  simp only[Fax,Obg,Obr]at h;obtain⟨x,h1,ys,h2,rfl⟩:=h;obtain⟨h3,h4⟩:=Haw hg h2;refine⟨by simp[h3],fun i l' x' v hi hx hl=>?_⟩
  cases i with
  | zero =>
   simp only[Obn,Option.some.injEq]at hi hx;subst hi hx;exact iV hg h1 hl
  | succ i =>
   simp only[Pbi]at hi hx;exact h4 i l' x' v hi hx hl
theorem gN (hR:R E.ntmps F σ ρ a w G)(hd:eG E.ntmps o){nv:Nat}{args:Array Operand}{argTypes:Array TypeId}{b:Builtin}{p:aY}{op:BinOp}
  (hb:(b=.min/\p=.min/\op=.lss)\/(b=.max/\p=.max/\op=.gtr))
  (ho:o.op=.call { callee:=.builtin b,args,argTypes }) {oa:List SV} {ts:List TypeId} {ls:List aM} {xs:List aI} {res:bI}
  (h1:(wI E g args.toList ts).eval σ=some oa) (h2:rR oa=some ls) (h3:Fax g ls=some xs)
  (h:(qD o g nv p xs).eval σ=some res) (hs:aJ cf ρ g nv res.lets):fV P E F σ ρ a w g o Q res.upd:=by
 refine bZ hR hd h hs fun hg d hp=>?_
 obtain⟨h4,h5⟩:=vD hR hg h1;obtain⟨h6,h7⟩:=Aa2 h2;obtain⟨h8,h9⟩:=Haw (σ:=σ) (ρ:=ρ) (G:=G) (w:=w) hg h3
 have cD:∀ (i:Nat) (v:Value) (e:D),(args.toList.map a.eval)[i]?=some v->(xs.map (·.val ρ))[i]?=some e->Sc v e:=by
  intro i v e hv he;simp only[Ob5,Obr]at hv he;obtain⟨x,hx,rfl⟩:=hv;obtain⟨y,hy,rfl⟩:=he
  have ar:i<ls.length:=by
   rw[<- h8];exact (List.getElem?_eq_some_iff.1 hy).1
  have hl:ls[i]?=some ls[i]:=Obl ar;exact h9 i _ y _ hl hy (h5 i _ x (h7 i _ hl) hx)
 have hlen:(args.toList.map a.eval).length=(xs.map (·.val ρ)).length:=by
  simp only[Ob7];omega
 generalize kf:args.toList.map a.eval=vs at cD hlen;generalize hes:xs.map (·.val ρ)=es at cD hlen hp
 have dj:args.map a.eval=vs.toArray:=by
  apply Rbl;simpa using kf
 cases es with
 |nil=>rcases hb with ⟨-,rfl,-⟩ | ⟨-,rfl,-⟩<;>simp[aY.run]at hp
 | cons e es =>
  cases vs with
  |nil=>simp at hlen
  | cons v vs =>
   have hf:Jac op e es=some d:=by
    rcases hb with ⟨-,rfl,rfl⟩|⟨-,rfl,rfl⟩<;>simpa[aY.run] using hp
   obtain⟨r,b9,da⟩:=Pai (P:=P) (w:=w) (op:=op) (by rcases hb with ⟨-,-,rfl⟩|⟨-,-,rfl⟩<;>simp) (cD 0 v e rfl rfl) (by simpa using hlen)
    (fun i v' e' hi he=>cD (i+1) v' e' hi he) hf
   refine⟨r,b9,?_⟩
   rcases hb with ⟨rfl,rfl,rfl⟩|⟨rfl,rfl,rfl⟩
   ·refine kN ho (s:=Builtin.min_ argTypes o.type (args.map a.eval)) (fun _=>rfl) ?_
    rw[dj];simpa[Builtin.min_] using da
   ·refine kN ho (s:=Builtin.max_ argTypes o.type (args.map a.eval)) (fun _=>rfl) ?_
    rw[dj];simpa[Builtin.max_] using da
end
section
variable {P:Program} {E:Env} {F:bC} {σ:Nat->Option aN} {ρ:List D} {a:Act} {w w':World} {G:Gh} {g:Option (aI×Bool)} {o:Oper} {cf:Nat->List D->Option (List D)} {Q:Exit->Act->World->Prop} {next:Act->World->Prop}
def Scs (vs:List Value)(ds:List D):Prop:=vs.length=ds.length/\∀ (i:Nat) (v:Value) (d:D),vs[i]?=some v->ds[i]?=some d->Sc v d
theorem Scs.drop {vs:List Value}{ds:List D}(h:Scs vs ds)(k:Nat):Scs (vs.drop k) (ds.drop k) :=
 ⟨by simp[h.1],fun i v d hv hd=>by rw[Pbk]at hv hd;exact h.2 _ v d hv hd⟩
theorem Scs.take {vs:List Value}{ds:List D}(h:Scs vs ds)(k:Nat):Scs (vs.take k) (ds.take k) :=
 ⟨by simp[h.1],fun i v d hv hd=>by
  rw[Pbq]at hv hd;split at hv
  ·rename_i hk
   rw[if_pos hk]at hd;exact h.2 _ v d hv hd
  ·cases hv⟩
theorem Faf:∀ {ks ls:List Nat} {a b c d:List D},a.length=ks.length->b.length=ks.length->∀ {r:Bool},Ma3 (ks++ls) (a++c) (b++d)=some r ->
  ∃ r1,Ma3 ks a b=some r1/\(r1=true->Ma3 ls c d=some r)/\(r1=false->r=false)
 |[],ls,[],[],c,d,_,_,r,h=>⟨true,rfl,fun _=>h,fun h=>by cases h⟩
 | k :: ks, ls, x :: a, y :: b, c, d, h1, h2, r, h => by
  simp only[Qbb,Ma3,Obg]at h;obtain⟨e,h3,h4⟩:=h
  cases e with
  | true =>
   simp only[if_true]at h4;obtain⟨r1,h5,h6,h7⟩:=Faf (by simpa using h1) (by simpa using h2) h4;exact⟨r1,by simp[Ma3,h3,h5],h6,h7⟩
  | false =>
   simp only[Obp,if_false,Option.some.injEq]at h4;exact⟨false,by simp[Ma3,h3],(fun h=>by cases h),fun _=>h4.symm⟩
 |[],_,_::_,_,_,_,h,_,_,_=>by simp at h
 |[],_,[],_::_,_,_,_,h,_,_=>by simp at h
 |_::_,_,[],_,_,_,h,_,_,_=>by simp at h
 |_::_,_,_::_,[],_,_,_,h,_,_=>by simp at h
theorem Eb1 (l m:List UInt8):((⟨l.toArray⟩:ByteArray)==⟨m.toArray⟩)=(l==m):=by
 have:((⟨l.toArray⟩:ByteArray)==⟨m.toArray⟩)=(l.toArray==m.toArray):=rfl;rw[this];simp
theorem Oba {x y:D}{r:Bool}(h:eqD 0 x y=some r):∃ k i j,x=.int k i/\y=.int k j/\r=(i==j):=by
 cases x<;>cases y<;>simp only[eqD]at h<;>first|cases h|skip
 split at h
 ·rename_i e
  subst e;exact⟨_,_,_,rfl,rfl,(Option.some.inj h).symm⟩
 ·cases h
theorem Nb9 {x y:D}{r:Bool}(h:eqD 1 x y=some r):∃ i j,x=.bool i/\y=.bool j/\r=(i==j):=by
 cases x<;>cases y<;>simp only[eqD]at h<;>first|(cases h;done)|skip
 exact⟨_,_,rfl,rfl,(Option.some.inj h).symm⟩
theorem Nb8 {x y:D}{r:Bool}(h:eqD 2 x y=some r):∃ i j,x=.str i/\y=.str j/\r=(i==j):=by
 cases x<;>cases y<;>simp only[eqD]at h<;>first|(cases h;done)|skip
 exact⟨_,_,rfl,rfl,(Option.some.inj h).symm⟩
theorem Ib7 {x y:D}{r:Bool}(h:eqD 3 x y=some r):False:=by
 cases x<;>cases y<;>simp[eqD]at h
theorem Ib6 {t:TypeId}{x y:Value}{dx dy:D}{b:Bool}(hx:Sc x dx)(hy:Sc y dy)(h:eqD (Caa (lX P t)) dx dy=some b)(n:Nat):(Op.equalIn (n+1) t x y).run P w=.ok b w:=by
 unfold lX at h;split at h
 ·rename_i k hu
  obtain⟨k1,i,j,rfl,rfl,rfl⟩:=Oba h;simp[Op.equalIn,run_underlying hu,hx.int_inv,hy.int_inv]
 ·rename_i hu
  obtain⟨i,j,rfl,rfl,rfl⟩:=Nb9 h;simp[Op.equalIn,run_underlying hu,hx.bool_inv,hy.bool_inv]
 ·rename_i hu
  obtain⟨l,m,rfl,rfl,rfl⟩:=Nb8 h;simp only[Op.equalIn,run_underlying hu,hx.str_inv,hy.str_inv,Sem.run_bind,Result.andThen_ok,Sem.run_pure];rw[Eb1]
 ·exact (Ib7 h).elim
 ·exact (Ib7 h).elim
 ·exact (Ib7 h).elim
def nY (P:Program)(t:TypeId)(vs:List Value)(v:Value):Prop:=match P.underlying t with
 |some (.struct _)=>v=.agg vs.toArray
 |_=>vs=[v]
theorem La2 (P:Program)(d:Nat):∀ (fs:List Field) (acc l:List TypeId),fs.foldl (fun acc f=>acc.bind fun l=>(flat P d f.type).bind fun m=>bif Nat.beq f.offset l.length then some (l++m) else none) (some acc)=some l ->
  ∃ ls,l=acc++ls/\(∀ f r,fs=f::r->∃ m,flat P d f.type=some m/\f.offset=acc.length/\∃ jt,ls=m++jt/\r.foldl (fun acc f=>acc.bind fun l=>(flat P d f.type).bind fun m=>bif Nat.beq f.offset l.length then some (l++m) else none) (some (acc++m))=some l)/\(fs=[]->ls=[])
 | [], acc, l, h => by
  simp only[List.foldl_nil,Option.some.injEq]at h;exact⟨[],by simp[h],by simp,fun _=>rfl⟩
 | f :: r, acc, l, h => by
  simp only[List.foldl_cons,Obm]at h
  cases hm:flat P d f.type with
  | none =>
   rw[hm]at h;simp only[Option.bind_none]at h
   have:∀ (r:List Field),r.foldl (fun acc f=>acc.bind fun l=>(flat P d f.type).bind fun m=>bif Nat.beq f.offset l.length then some (l++m) else none) (none:Option (List TypeId))=none:=by
    intro r
    induction r with
    |nil=>rfl
    |cons _ _ ih=>simpa using ih
   rw[this]at h;cases h
  | some m =>
   rw[hm]at h;simp only[Obm]at h
   cases ho:Nat.beq f.offset acc.length with
   | false =>
    rw[ho]at h;simp only[cond_false]at h
    have:∀ (r:List Field),r.foldl (fun acc f=>acc.bind fun l=>(flat P d f.type).bind fun m=>bif Nat.beq f.offset l.length then some (l++m) else none) (none:Option (List TypeId))=none:=by
     intro r
     induction r with
     |nil=>rfl
     |cons _ _ ih=>simpa using ih
    rw[this]at h;cases h
   | true =>
    rw[ho]at h;simp only[cond_true]at h;obtain⟨ls,h1,-,-⟩:=La2 P d r (acc++m) l h;refine⟨m++ls,by rw[h1,List.append_assoc],fun f' r' e=>?_,by simp⟩;obtain⟨rfl,rfl⟩:=List.cons.inj e;exact⟨m,hm,by simpa using ho,ls,rfl,h⟩
theorem rG {α:Type}(l:List α)(k m:Nat):(l.drop k).take m++l.drop (k+m)=l.drop k:=by
 rw[<- List.drop_drop,List.take_append_drop]
theorem Aae {t:TypeId}{d:Nat}{m:List TypeId}(hm:flat P d t=some m)(hs:Hb6 P d t=true)(hc:Jaj P d t=true){vs:List Value}{off:Nat}(hl:off+m.length<=vs.length) :
  ∃ v,nY P t ((vs.drop off).take m.length) v/\(part t vs.toArray off).run P w=.ok v w:=by
 unfold Hb6 at hs;rw[hm]at hs
 cases hi:P.info? t with
 |none=>rw[hi]at hs;cases hs
 | some i =>
  rw[hi]at hs;simp only[Ob4]at hs
  cases d with
  |zero=>cases hc
  | succ d =>
   simp only[Jaj]at hc;simp only[flat]at hm
   cases hu:P.underlying t with
   |none=>rw[hu]at hm;cases hm
   | some u =>
    unfold nY;rw[hu]at hc hm ⊢;simp only[part,Sem.run_bind,Kat hu,Result.andThen_ok,run_sizeOf hi,Sem.run_ite];cases u<;>first|(cases hc;done)|skip
    case struct fs =>
     refine⟨_,rfl,?_⟩;simp only[Gai,if_true,Sem.run_bind,run_sizeOf hi,Result.andThen_ok,Sem.run_pure,<- hs];congr 2;apply Rbl;simp[List.extract_eq_take_drop]
    all_goals
     simp only[Option.some.injEq]at hm;subst hm;have ar:off<vs.length:=by simp only[Pbw]at hl;omega
     refine⟨vs[off],?_,?_⟩
     ·simp only[Pbw]
      rw[List.drop_eq_getElem_cons ar];rfl
     ·simp[Gai,Obl ar]
theorem Fae (P:Program)(w:World):∀ (d:Nat) (t:TypeId) (l:List TypeId),Jaj P d t=true->flat P d t=some l->∀ (xs ys:List Value) (dx dy:List D) (b:Bool) (x y:Value),
  Scs xs dx->Scs ys dy->xs.length=l.length->ys.length=l.length->nY P t xs x->nY P t ys y->Ma3 (l.map fun t=>Caa (lX P t)) dx dy=some b ->
  ∀ n,d<=n->(Op.equalIn n t x y).run P w=.ok b w
 |0,t,l,hc,_=>by cases hc
 | d + 1, t, l, hc, hf => by
  intro xs ys dx dy b x y hx hy vg hly tz tR he n hn;obtain⟨n,rfl⟩:∃ m,n=m+1:=⟨n-1,by omega⟩
  have uf:(∀ fs,P.underlying t≠some (.struct fs))->flat P (d+1) t=some [t]->(Op.equalIn (n+1) t x y).run P w=.ok b w:=by
   intro vm hft;rw[hf]at hft;obtain rfl:=Option.some.inj hft
   have h1:xs=[x]:=by
    unfold nY at tz;split at tz
    ·rename_i fs hu;exact absurd hu (vm fs)
    ·exact tz
   have h2:ys=[y]:=by
    unfold nY at tR;split at tR
    ·rename_i fs hu;exact absurd hu (vm fs)
    ·exact tR
   subst h1 h2
   match dx,dy,hx.1,hy.1 with
   | [dx], [dy], _, _ =>
    simp only[Ob1,Pba,Ma3,Obg]at he;obtain⟨e,h3,h4⟩:=he;have:e=b:=by cases e<;>simpa using h4
    subst this;exact Ib6 (hx.2 0 x dx rfl rfl) (hy.2 0 y dy rfl rfl) h3 n
  simp only[Jaj]at hc;simp only[flat]at hf
  cases hu:P.underlying t with
  |none=>rw[hu]at hc;cases hc
  | some u =>
   rw[hu]at hc hf;cases u<;>first|(cases hc;done)|skip
   case struct fs =>
    simp only[Obh,Ob6,Ob8]at hc;obtain⟨ya,cD⟩:=hc;have rk:x=.agg xs.toArray:=by unfold nY at tz;rw[hu]at tz;exact tz
    have tf:y=.agg ys.toArray:=by unfold nY at tR;rw[hu]at tR;exact tR
    subst rk tf;have hfs:P.fieldsOf t=fs:=by simp[Program.fieldsOf,hu]
    rw[run_equalIn_struct (P:=P) w n t _ _ (by rw[hfs];exact hu) ya,hfs];dsimp only at hf;generalize hgl:fs.toList=gs at hf cD
    have key : ∀ (gs : List Field) (acc : List TypeId) (b : Bool), (∀ f ∈ gs, (f.name != "_") = true /\ Jaj P d f.type = true /\ Hb6 P d f.type = true) ->
      gs.foldl (fun acc f=>acc.bind fun l=>(flat P d f.type).bind fun m=>bif Nat.beq f.offset l.length then some (l++m) else none) (some acc)=some l ->
      Ma3 ((l.drop acc.length).map fun t=>Caa (lX P t)) (dx.drop acc.length) (dy.drop acc.length)=some b ->
      (Op.eqFields n xs.toArray ys.toArray gs).run P w=.ok b w:=by
     intro gs
     induction gs with
     | nil =>
      intro acc b _ py hq;simp only[List.foldl_nil,Option.some.injEq]at py;subst py;have e1:dx.drop acc.length=[]:=List.drop_of_length_le (by rw[<- hx.1];omega);have e2:dy.drop acc.length=[]:=List.drop_of_length_le (by rw[<- hy.1];omega);simp only[List.drop_length,Pba,e1,e2,Ma3,Option.some.injEq]at hq;subst hq;simp[Op.eqFields]
     | cons f r ih =>
      intro acc b qx py hq;obtain⟨ls,e1,h1,-⟩:=La2 P d (f::r) acc l py;obtain⟨m,hm,oB,jt,e2,wz⟩:=h1 f r rfl;obtain⟨hname,vv,dm⟩:=qx f Obu;have hlen:acc.length+m.length<=l.length:=by rw[e1,e2];simp
      have hdl:l.drop acc.length=m++jt:=by rw[e1,e2];simp
      rw[hdl,Qb0]at hq;rw[<- rG dx acc.length m.length,<- rG dy acc.length m.length]at hq
      have om:((dx.drop acc.length).take m.length).length=(m.map fun t=>Caa (lX P t)).length:=by
       simp only[Pb3,Qbg,Ob7,<- hx.1];omega
      have ln:((dy.drop acc.length).take m.length).length=(m.map fun t=>Caa (lX P t)).length:=by
       simp only[Pb3,Qbg,Ob7,<- hy.1];omega
      obtain⟨r1,h2,h3,h4⟩:=Faf om ln hq;obtain⟨vx,hvx,hpx⟩:=Aae (w:=w) hm dm vv (vs:=xs) (off:=acc.length) (by omega);obtain⟨vy,hvy,hpy⟩:=Aae (w:=w) hm dm vv (vs:=ys) (off:=acc.length) (by omega)
      have heq:=Fae P w d f.type m vv hm _ _ _ _ r1 vx vy ((hx.drop _).take _) ((hy.drop _).take _) (by simp only[Pb3,Qbg];omega)
       (by simp only[Pb3,Qbg];omega) hvx hvy h2 n (by omega)
      have hname' : f.name ≠ "_" := by simpa using hname
      rw[Op.eqFields];simp only[if_pos hname',Sem.run_bind,oB,hpx,hpy,heq,Result.andThen_ok]
      cases r1 with
      | false =>
       obtain rfl:=h4 rfl;simp
      | true =>
       have:=ih (acc++m) b (fun f' zu=>qx f' (Obq _ zu)) wz (by
        rw[List.length_append,<- List.drop_drop,hdl];simpa using h3 rfl)
       simpa using this
    exact key gs [] b (fun f zu=>by
     have:=cD f zu;exact⟨this.1.1,this.1.2,this.2⟩) hf (by simpa using he)
   all_goals exact uf (by intro fs e;rw[hu]at e;cases e) (by simp[flat,hu])
theorem Faw:∀ {ls:List aM} {xs:List aI} {vs:List Value},atoms ls=some xs->aG σ ρ G w ls vs->Scs vs (xs.map (·.val ρ))/\xs.length=ls.length
 | [], xs, vs, h, hl => by
  simp only[atoms,Option.some.injEq]at h;simp only[aG]at hl;subst h hl;exact⟨⟨rfl,by simp⟩,rfl⟩
 | l :: ls, xs, vs, h, hl => by
  cases l<;>simp only[atoms]at h<;>first|(cases h;done)|skip
  simp only[Obr]at h;obtain⟨ys,h1,rfl⟩:=h;simp only[aG]at hl;obtain⟨u,us,rfl,h2,h3⟩:=hl;obtain⟨⟨h4,h5⟩,h6⟩:=Faw h1 h3;refine⟨⟨by simpa using h4,fun i v d hv hd=>?_⟩,by simp[h6]⟩
  cases i with
  | zero =>
   simp only[Obn,Ob1,Option.some.injEq]at hv hd;subst hv hd;simpa[aB] using h2
  | succ i =>
   simp only[Ob1,Pbi]at hv hd;exact h5 i v d hv hd
theorem Da7 (hR:R E.ntmps F σ ρ a w G)(hd:eG E.ntmps o){nv:Nat}{p:aY}{xs:List aI}{neg:Bool}{op:BinOp}{t ty:TypeId}{x y:Operand}
  (ho:o.op=.binOp op t x y ty) (jn:op=if neg then .neq else .eql) {res:bI}
  (h:(RdM.ret ⟨[.prim p xs 1]++(bif neg then [.prim .not [.v nv] 1] else []),match o.dst with|some d=>[(kT d,aN.slot none (mkS g (.v (bif neg then nv+1 else nv))))]|none=>[]⟩:RdM bI).eval σ=some res)
  (hs:aJ cf ρ g nv res.lets)
  (hv:gOn ρ g=true->∀ d,p.run (xs.map (·.val ρ))=some [d]->∃ b,d=.bool b/\(eqGuard op t x y (a.eval x) (a.eval y)).run P w=.ok () w /\
   (binOp op t (a.eval x) (a.eval y)).run P w=.ok (.bool (if neg then !b else b)) w):fV P E F σ ρ a w g o Q res.upd:=by
 simp only[aF,Option.some.injEq]at h;subst h;simp only[Caf]
 cases neg with
 | false =>
  simp only[cond_false,Pbc]at hs ⊢;refine⟨fun hg=>?_,fun hg=>Bbb hR hd hg (Da0 hs hg)⟩;obtain⟨d,h1,h2⟩:=fC hs hg;obtain⟨b,rfl,h3,h4⟩:=hv hg d h1;refine Iah hR hd hg (v:=.bool b) ?_ (by rw[h2];exact .bool _);unfold execOp;simp only[ho];refine fA ?_;rw[Sem.run_bind,h3];exact h4
 | true =>
  simp only[cond_true]at hs ⊢;have nk:aJ cf ρ g nv [.prim p xs 1]:=⟨hs.1,trivial⟩;have lz:aJ cf ρ g (nv+1) [.prim .not [.v nv] 1]:=⟨hs.2.1,trivial⟩;refine⟨fun hg=>?_,fun hg=>Bbb hR hd hg (Da0 lz hg)⟩;obtain⟨d,h1,h2⟩:=fC nk hg;obtain⟨e,h5,h6⟩:=fC lz hg;obtain⟨b,rfl,h3,h4⟩:=hv hg d h1;simp only[Ob1,Pba,h2,aY.run,Option.some.injEq,List.cons.injEq,and_true]at h5;subst h5;refine Iah hR hd hg (v:=.bool (!b)) ?_ (by rw[h6];exact .bool _);unfold execOp;simp only[ho];refine fA ?_;rw[Sem.run_bind,h3];exact h4
theorem yK {neg:Bool}{op:BinOp}(jn:op=if neg then .neq else .eql){t:TypeId}{x y:Value}{b:Bool}(h:(Op.equal t x y).run P w=.ok b w)
  (hx:∀ k n,x≠.int k n) (hs:∀ s,x≠.string s) (hf:∀ k b,x≠.float k b) (hc:∀ k r i,x≠.complex k r i):(binOp op t x y).run P w=.ok (.bool (if neg then !b else b)) w:=by
 cases neg with
 | false =>
  simp only[Obp,if_false]at jn;subst jn;unfold binOp
  cases x<;>first
   |exact absurd rfl (hx _ _)
   |exact absurd rfl (hs _)
   |exact absurd rfl (hf _ _)
   |exact absurd rfl (hc _ _ _)
   |(cases y<;>simp[h])
 | true =>
  simp only[if_true]at jn;subst jn;unfold binOp
  cases x<;>first
   |exact absurd rfl (hx _ _)
   |exact absurd rfl (hs _)
   |exact absurd rfl (hf _ _)
   |exact absurd rfl (hc _ _ _)
   |(cases y<;>simp[h])
theorem lU {op:BinOp}{t:TypeId}{x y:Operand}{u v:Value}(h1:u≠.nilIface)(h2:(∀ c,u≠.agg c)\/P.eqGuardType P.depth t=false):(eqGuard op t x y u v).run P w=.ok () w:=by
 unfold eqGuard
 rcases h2 with h2|h2
 ·cases op<;>cases u<;>cases v<;>first|rfl|exact absurd rfl h1|exact absurd rfl (h2 _)
 ·cases op<;>cases u<;>cases v<;>first|rfl|exact absurd rfl h1|simp[h2]
theorem Zai {t:TypeId}{i:TI}{info:TypeInfo}{u:TypeDesc}(f:bU P t i info u)(h:i.isBool=true):u=.bool:=by
 have:Oad u=true:=by rw[<- h,f.eq];rfl
 unfold Oad at this;split at this
 ·rfl
 ·cases this
theorem Ab7 {t:TypeId}{i:TI}{info:TypeInfo}{u:TypeDesc}(f:bU P t i info u)(h:i.isPtr=true):∃ e,u=.pointer e:=by
 have:Uas u=true:=by rw[<- h,f.eq];rfl
 unfold Uas at this;split at this
 ·exact⟨_,rfl⟩
 ·cases this
theorem Ta5 {neg:Bool}{op:BinOp}(h:op=if neg then .neq else .eql):(bif neg then BinOp.neq else .eql)=op:=by cases neg<;>simp[h]
theorem Iaj {t:TypeId}{ti:TI}{info:TypeInfo}{u:TypeDesc}(f:bU P t ti info u)(pj:ti.cmp=true){xs ys:List Value}{dx dy:List D}{b:Bool}(hx:Scs xs dx)(hy:Scs ys dy)
  (vg:xs.length=ti.size) (hly:ys.length=ti.size) (h:Ma3 (ti.cells.map Caa) dx dy=some b) :
  (Op.equal t (.agg xs.toArray) (.agg ys.toArray)).run P w=.ok b w/\P.eqGuardType P.depth t=false:=by
 have hc:ti.cmp=(Gai u&&Jaj P 12 t&&!(P.eqGuardType P.depth t)):=by rw[f.eq];rfl
 rw[hc]at pj;simp only[Obh,Ob6]at pj;obtain⟨⟨k7,qx⟩,yg⟩:=pj;have fX:=f.cells;simp only[Obr]at fX;obtain⟨l,om,ln⟩:=fX;have hlen:=f.len;rw[<- ln]at hlen h;simp only[Ob7]at hlen;rw[List.map_map]at h
 have ba:∃ fs,u=.struct fs:=by
  have hu:=f.und;simp only[Jaj,hu]at qx;cases u<;>first|(cases k7;done)|(cases qx;done)|exact⟨_,rfl⟩
 obtain⟨fs,rfl⟩:=ba;refine⟨?_,yg⟩;exact Fae P w 12 t l qx om xs ys dx dy b _ _ hx hy (by omega) (by omega) (by unfold nY;rw[f.und]) (by unfold nY;rw[f.und]) h 10000 (by omega)
theorem Vag {t:TypeId}(hu:P.underlying t=some .bool)(b c:Bool)(n:Nat):(Op.equalIn (n+1) t (.bool b) (.bool c)).run P w=.ok (b==c) w:=by
 simp[Op.equalIn,run_underlying hu]
theorem Yat {t e:TypeId}(hu:P.underlying t=some (.slice e))(x y p q:Nat)(n:Nat):(Op.equalIn (n+1) t (.slice none x y) (.slice none p q)).run P w=.ok true w:=by
 simp[Op.equalIn,run_underlying hu]
theorem Vaf {t e:TypeId}(hu:P.underlying t=some (.slice e))(a:Addr)(x y p q:Nat)(n:Nat):(Op.equalIn (n+1) t (.slice (some a) x y) (.slice none p q)).run P w=.ok false w:=by
 simp[Op.equalIn,run_underlying hu]
theorem Yas {t e:TypeId}(hu:P.underlying t=some (.pointer e))(A:Option Addr)(n:Nat):(Op.equalIn (n+1) t (.pointer A) (.pointer none)).run P w=.ok A.isNone w:=by
 cases A<;>simp[Op.equalIn,run_underlying hu]
theorem Pad (hR:R E.ntmps F σ ρ a w G)(hd:eG E.ntmps o)(hti:sG P E.ti){nv:Nat}{neg:Bool}{op:BinOp}{t ty:TypeId}{x y:Operand}
  (ho:o.op=.binOp op t x y ty) (jn:op=if neg then .neq else .eql) {res:bI}
  (h:(Hb7 E nv o g neg t x y).eval σ=some res) (hs:aJ cf ρ g nv res.lets):fV P E F σ ρ a w g o Q res.upd:=by
 unfold Hb7 at h;simp only[aA,Obg]at h;obtain⟨va,h1,vb,h2,h3⟩:=h;split at h3
 ·
  rename_i ls ms;simp only[aA,Obg,tiR,aS]at h3;obtain⟨ti,hi,h4⟩:=h3;obtain⟨info,u,f⟩:=aV (hti.ok _ _ hi);split at h4
  ·rename_i xs ys oX yf
   simp only[aA,Obg,aH]at h4;obtain⟨_,h5,h6⟩:=h4;split at h5
   ·rename_i hb
    simp only[Obh,Ob4]at hb;obtain⟨⟨pj,vg⟩,hly⟩:=hb;refine Da7 hR hd ho jn h6 hs fun hg d hp=>?_
    obtain⟨vx,ex,a5p⟩:=fF hR hg h1;obtain⟨vy,ey,a2v⟩:=fF hR hg h2;obtain⟨nF,nh⟩:=Faw oX a5p;obtain⟨yj,hy2⟩:=Faw yf a2v;have ju:(ti.cells.map Caa).length=xs.length:=by rw[Ob7,f.len];omega
    simp only[aY.run,ju,Qb0,Ob7,Obr,List.cons.injEq,and_true]at hp;obtain⟨b,hp,rfl⟩:=hp;rw[List.take_left' (by simp),List.drop_left' (by simp)]at hp;have a30:=nF.1;have a16:=yj.1;simp only[Ob7]at a30 a16;obtain⟨h7,h8⟩:=Iaj (w:=w) f pj nF yj (by omega) (by omega) hp;refine⟨b,rfl,?_,?_⟩
    ·rw[ex];exact lU (by simp) (.inr h8)
    ·rw[ex,ey];exact yK jn h7 (by simp) (by simp) (by simp) (by simp)
   ·cases h5
  ·cases h4
 ·rename_i l m
  simp only[aA,Obg,tiR,aS]at h3;obtain⟨ti,hi,h4⟩:=h3;obtain⟨info,u,f⟩:=aV (hti.ok _ _ hi);split at h4
  ·
   rename_i p q hp hq;rw[fZ]at h4;have hx:gOn ρ g=true->Sc (a.eval x) (p.val ρ):=fun hg=>iV hg hp (fF hR hg h1)
   have hy:gOn ρ g=true->Sc (a.eval y) (q.val ρ):=fun hg=>iV hg hq (fF hR hg h2)
   split at h4
   ·rename_i a02
    obtain rfl:=Zai f a02;refine bZ hR hd h4 hs fun hg d ph=>?_
    have hx:=hx hg;have hy:=hy hg;simp only[Ob1,Pba]at ph;generalize p.val ρ=pv at hx ph;generalize q.val ρ=qv at hy ph;cases pv<;>cases qv<;>simp only[aY.run]at ph<;>first|(cases ph;done)|skip
    rename_i b c;simp only[Option.some.injEq,List.cons.injEq,and_true]at ph;subst ph;refine⟨.bool (if neg then !(b==c) else b==c),.bool _,?_⟩;unfold execOp;simp only[ho,hx.bool_inv,hy.bool_inv];refine fA ?_;rw[Sem.run_bind,lU (by simp) (.inl (by simp))]
    have he:(Op.equal t (.bool b) (.bool c)).run P w=.ok (b==c) w:=by
     unfold Op.equal Op.maxDepth;exact Vag f.und b c 9999
    exact yK jn he (by simp) (by simp) (by simp) (by simp)
   ·rw[Ta5 jn]at h4
    exact Kam hR hd ho hx hy h4 hs
  ·rw[fZ]at h4
   split at h4
   ·
    rename_i fx;simp only[aA,Obg,aH]at h4;obtain⟨_,h5,s,h6,r0,h8,h7⟩:=h4;split at h5
    ·rename_i sk
     obtain⟨e,rfl⟩:=Fag f sk
     have oc:aJ cf ρ g nv r0.lets->(gOn ρ g=true->∀ z,s.x.val ρ=.rows z []->s.nie=true)->fV P E F σ ρ a w g o Q r0.upd:=by
      intro hs cn;refine Da7 hR hd ho jn h8 hs fun hg d hp=>?_
      have gi:=dH hR h6 (fF hR hg h1);simp only[Ob1,Pba]at hp;have gA:=gi.rd;have s6:∀ z,s.x.val ρ=.rows z []->a.eval x=.slice none 0 0:=fun z hz=>gi.nie (cn hg z hz) z hz
      generalize s.x.val ρ=sv at hp gA s6;cases sv<;>simp only[aY.run]at hp<;>first|(cases hp;done)|skip
      rename_i sz rs;simp only[Option.some.injEq,List.cons.injEq,and_true]at hp;subst hp;obtain⟨A,b,n,c,vs,e1,e2,e3,e4,-⟩:=gA.inv
      have hy:∃ n' c',a.eval y=.slice none n' c':=by
       unfold Han at fx;split at fx
       ·rename_i n' c';exact⟨n',c',rfl⟩
       ·cases fx
      obtain⟨n',c',hy⟩:=hy;refine⟨rs.isEmpty,rfl,?_,?_⟩
      ·rw[e1];exact lU (by simp) (.inl (by simp))
      ·have he:(Op.equal t (a.eval x) (a.eval y)).run P w=.ok rs.isEmpty w:=by
        unfold Op.equal Op.maxDepth
        cases xF:rs with
        | nil =>
         rw[s6 sz (by rw[xF]),hy];exact Yat f.und _ _ _ _ 9999
        | cons r rs' =>
         have:A=some b:=e4.resolve_left (by rw[<- e2,xF];simp);rw[e1,hy,this];exact Vaf f.und _ _ _ _ _ 9999
       rw[e1]at he ⊢;exact yK jn he (by simp) (by simp) (by simp) (by simp)
     simp only[aF,Option.some.injEq]at h7;subst h7
     cases hnie:s.nie with
     | true =>
      rw[hnie]at hs;exact oc hs fun _ _ _=>hnie
     | false =>
      rw[hnie]at hs;refine oc hs.2 fun hg z hz=>?_
      obtain⟨ds,h9,-⟩:=hs.1.1 hg;simp only[Ob1,Pba]at h9;rw[hz]at h9;simp[aY.run]at h9
    ·cases h5
   ·rw[fZ]at h4
    split at h4
    ·
     rename_i fx;simp only[aA,Obg,aH]at h4;obtain⟨_,h5,h6⟩:=h4;split at h5
     ·rename_i hpt
      obtain⟨e,rfl⟩:=Ab7 f hpt
      have hy:a.eval y=.pointer none:=by
       unfold Pa3 at fx;split at fx
       ·rfl
       ·cases fx
      have heq:∀ A,a.eval x=.pointer A->(Op.equal t (a.eval x) (a.eval y)).run P w=.ok A.isNone w:=by
       intro A hA;unfold Op.equal Op.maxDepth;rw[hA,hy];exact Yas f.und A 9999
      have bf:∀ A,a.eval x=.pointer A->(eqGuard op t x y (a.eval x) (a.eval y)).run P w=.ok () w/\(binOp op t (a.eval x) (a.eval y)).run P w=.ok (.bool (if neg then !A.isNone else A.isNone)) w:=by
       intro A hA;refine⟨by rw[hA];exact lU (by simp) (.inl (by simp)),?_⟩;have:=heq A hA;rw[hA]at this ⊢;exact yK jn this (by simp) (by simp) (by simp) (by simp)
      have hconst:∀ (c:Bool) (nvx:Nat),(qD o g nv .id [.c (.bool c)]).eval σ=some res->(gOn ρ g=true->∃ A,a.eval x=.pointer A/\c=(if neg then !A.isNone else A.isNone))->fV P E F σ ρ a w g o Q res.upd:=by
       intro c _ h7 hc;refine bZ hR hd h7 hs fun hg d hp=>?_
       simp only[Ob1,Pba,aI.val,aY.run,Option.some.injEq,List.cons.injEq,and_true]at hp;subst hp;obtain⟨A,hA,rfl⟩:=hc hg;refine⟨_,.bool _,?_⟩;unfold execOp;simp only[ho];refine fA ?_;rw[Sem.run_bind,(bf A hA).1];exact (bf A hA).2
      split at h6
      ·rename_i deps sz z
       simp only[aA,Obg]at h6;obtain⟨ds,h7,h8⟩:=h6;refine Da7 hR hd ho jn h8 hs fun hg d hp=>?_
       have hl:=fF hR hg h1;simp only[bR,aB]at hl;simp only[Ob1,Pba]at hp
       rcases hl.2 (iC h7).1 with ⟨e1,z',e2⟩|⟨b,row,e1,e2,-⟩
       ·rw[e2]at hp
        simp only[aY.run,List.isEmpty_nil,Option.some.injEq,List.cons.injEq,and_true]at hp;exact⟨true,hp.symm,bf none e1⟩
       ·rw[e2]at hp
        simp only[aY.run,List.isEmpty_cons,Option.some.injEq,List.cons.injEq,and_true]at hp;exact⟨false,hp.symm,bf (some b) e1⟩
      ·refine hconst _ 0 h6 fun hg=>?_
       have hl:=fF hR hg h1;simp only[bR,aB]at hl;exact⟨none,hl,by cases neg<;>rfl⟩
      ·refine hconst _ 0 h6 fun hg=>?_
       have hl:=fF hR hg h1;simp only[bR,aB]at hl;exact⟨_,hl.1,by cases neg<;>rfl⟩
      ·refine hconst _ 0 h6 fun hg=>?_
       have hl:=fF hR hg h1;simp only[bR,aB]at hl;obtain⟨_,_,_,_,_,_,_,_,_,e⟩:=hl;exact⟨_,e,by cases neg<;>rfl⟩
      ·cases h6
     ·cases h5
    ·cases h4
 ·cases h3
end
section
variable {P:Program} {E:Env} {F:bC} {σ:Nat->Option aN} {ρ:List D} {a:Act} {w w':World} {G:Gh} {g:Option (aI×Bool)} {o:Oper} {cf:Nat->List D->Option (List D)} {Q:Exit->Act->World->Prop} {next:Act->World->Prop}
theorem jE {t:TypeId}{i:TI}{info:TypeInfo}{u:TypeDesc}(f:bU P t i info u)(b:Addr)(cs:List Value)(hl:cs.length=i.size)
  (h:∀ j v,cs[j]?=some v->w.cell? (b.add j)=some v) {v:Value} (hv:if i.agg=true then v=.agg cs.toArray else cs=[v]):(loadVar t b).run P w=.ok v w:=by
 unfold loadVar;rw[Sem.run_bind,f.isAgg];simp only[Result.andThen_ok];split at hv
 ·rename_i k7
  rw[if_pos k7,Sem.run_bind,f.sizeOf];simp only[Result.andThen_ok];rw[Sem.run_bind,<- hl,run_loadCells_list w b cs h];simp only[Result.andThen_ok,Sem.run_pure,hv]
 ·rename_i k7
  rw[if_neg k7,run_load];have:=h 0 v (by rw[hv];rfl);simp only[Addr.add,if_true]at this;rw[this]
theorem kC (b:Addr):∀ (ls:List aM) (k:Nat),(∀ j l,ls[j]?=some l->∃ v,w.cell? (b.add (k+j))=some v/\aB σ ρ G w l v) ->
  ∃ vs,aG σ ρ G w ls vs/\∀ j v,vs[j]?=some v->w.cell? (b.add (k+j))=some v
 |[],k,_=>⟨[],by simp[aG],by simp⟩
 | l :: ls, k, h => by
  obtain⟨u,h1,h2⟩:=h 0 l rfl
  obtain⟨us,h3,h4⟩:=kC b ls (k+1) fun j l' hj=>by
   have:=h (j+1) l' (by simpa using hj);rwa[show k+1+j=k+(j+1) by omega]
  refine⟨u::us,by simp only[aG];exact⟨u,us,rfl,h2,h3⟩,fun j v hj=>?_⟩
  cases j with
  | zero =>
   simp only[Obn,Option.some.injEq]at hj;exact hj▸h1
  | succ j =>
   have:=h4 j v (by simpa using hj);rwa[show k+(j+1)=k+1+j by omega]
theorem wB.snoc {own:Nat->Ow}{r k:Nat}{c:Addr}{n m:Nat}{u':Value}:∀ (p q:List Nat) (v:Value),wB own w r q v p (.slice (some c) n m)->own c.block=.slc r (q++p)->w.cell? (c.add k)=some u'->wB own w r q v (p++[k]) u'
 | [], q, v, h, ho, hc => by
  simp only[wB]at h;simp only[List.nil_append,wB];exact⟨c,n,m,u',h.symm,by simpa using ho,hc,rfl⟩
 | j :: p, q, v, h, ho, hc => by
  obtain⟨a',n',c',u1,rfl,h1,h2,h3⟩:=h;simp only[Qbb,wB];exact⟨a',n',c',u1,rfl,h1,h2,wB.snoc p (q++[j]) u1 h3 (by simpa using ho) hc⟩
theorem Rd.sc_inv {ok:Nat->Prop}{v:Value}{d:D}(h:Rd ok w v d)(hd:d.isSc=true):Sc v d:=by
 cases h with
 |sc h=>exact h
 |hole=>simp[D.isSc]at hd
 |rows=>simp[D.isSc]at hd
theorem Rp.zero {own:Nat->Ow}{r:Nat}{p:List Nat}{v:Value}{d:D}(h:Rp own w r p 0 v d):Rd (fun b=>own b=.frz) w v d:=by
 generalize hm:0=m at h
 cases h with
 |sc h=>exact .sc h
 |hole _ h1=>exact .hole _ h1
 |fz h=>exact h
 |sl=>omega
theorem Va1 {s:SlR}{c:Addr}{n cap:Nat}(h:Sap σ ρ G w s (.slice (some c) n cap)){sz:Nat}{rs:List (List D)}(hx:s.x.val ρ=.rows sz rs){i:aI}{k:IntKind}{iv:Int}(hi:i.val ρ=.int k iv)
  {row:List D} (hr:rs[iv.toNat]?=some row) {off:Nat} {d:D} (hd:row[off]?=some d) (ck:CK) (hk:Bbj ck=true->d.isSc=true) {y:aI} (hy:y.val ρ=d) :
  ∃ v,w.cell? (c.add (iv.toNat*sz+off))=some v/\aB σ ρ G w (iO s i sz off ck y) v:=by
 have gA:=h.rd;rw[hx]at gA;obtain⟨A,c',n',gE,vs,e1,e2,e3,e4,e5,e6,e7⟩:=gA.inv;obtain⟨rfl,rfl,rfl⟩:some c=A/\n=n'/\cap=gE:=by injection e1 with a b c;exact⟨a,b,c⟩
 have ar:iv.toNat<rs.length:=by
  rcases Ob2 iv.toNat rs.length with h|h
  ·exact h
  ·rw[Pb2 h]at hr;cases hr
 have hc:c=c':=by
  rcases e4 with e4|e4
  ·omega
  ·exact Option.some.inj e4
 subst hc;obtain⟨-,bc⟩:=e6 _ _ hr _ _ hd;have b5:=e7 _ _ hr _ _ hd;refine⟨_,bc,?_⟩
 cases ck with
 | sc z =>
  simp only[iO,aB];rw[hy];exact b5.sc_inv (hk rfl)
 |pn=>simpa only[iO,aB] using b5.one
 |ot=>simpa only[iO,aB] using b5.one
 | sl z =>
  have hex:∀ z∈s.deps,iG σ z.1 z.2:=fun z hz=>by
   obtain⟨m,hl⟩:=h.live z hz;exact hl.valid.known
  have a3w:aB σ ρ G w (.sn s.deps .no false y) (vs iv.toNat off):=by
   simp only[aB];exact⟨⟨b5.one,hex⟩,fun _=>⟨by rw[hy];exact b5,by simp,trivial⟩⟩
  simp only[iO];have a7:=h.own;unfold rX at a7;split
  ·rename_i r k' m p ho
   rw[ho]at a7;obtain⟨h1,h2,h3,h4,h5⟩:=a7;rw[hx]at h4
   cases hm:m-p.length with
   | zero =>
    have:Nat.ble (p.length+2) m=false:=by
     cases hb:Nat.ble (p.length+2) m with
     |false=>rfl
     |true=>simp only[Pbn]at hb;omega
    rw[this,cond_false];rw[hm]at h4;obtain⟨A',c'',n'',u4,tM,za,e2',e3',qn,e5',e6',e7'⟩:=h4.zero.inv;obtain⟨rfl,rfl,rfl⟩:some c=A'/\n=n''/\cap=u4:=by injection za with a b c;exact⟨a,b,c⟩
    have hc:c=c'':=by
     rcases qn with qn|qn
     ·omega
     ·exact Option.some.inj qn
    subst hc;obtain⟨-,gx⟩:=e6' _ _ hr _ _ hd;rw[bc]at gx;simp only[aB];refine⟨⟨b5.one,by simp⟩,fun _=>⟨?_,by simp,trivial⟩⟩;rw[hy,Option.some.inj gx];exact (e7' _ _ hr _ _ hd).mono fun b hb=>⟨.inl hb,rfl⟩
   | succ m' =>
    rw[hm]at h4
    cases h4 with
    |sc h=>cases h
    | sl A' c'' n'' u4 _ _ tM e2' e3' qn e5' e6' e7' e8' =>
     have hc:c=c'':=by
      rcases qn with qn|⟨qn,-⟩
      ·exact Option.some.inj qn
      ·cases qn
     subst hc;obtain⟨-,ov,-⟩:=e6' rfl;have gx:=e7' _ _ hr _ _ hd;have sd:=e8' _ _ hr _ _ hd;rw[bc]at gx;rw[<- Option.some.inj gx]at sd
     cases hb:Nat.ble (p.length+2) m with
     | false =>
      rw[cond_false]
      have:m'=0:=by
       have:¬ p.length+2<=m:=by rw[<- Pbn,hb];simp
       omega
      subst this;simp only[aB];refine⟨⟨b5.one,by simp⟩,fun _=>⟨?_,by simp,trivial⟩⟩;rw[hy];exact sd.zero.mono fun b hb=>⟨.inl hb,rfl⟩
     | true =>
      rw[cond_true];simp only[Pbn]at hb
      have y6:aZ ρ (p++[(i,sz,off)])=aZ ρ p++[iv.toNat*sz+off]:=by
       simp[aZ,jS,hi]
      simp only[aB];refine⟨⟨b5.one,fun z hz=>?_⟩,fun _=>⟨?_,by simp,?_⟩⟩
      ·simp only[Obt]at hz
       subst hz;exact h2.valid.known
      ·rw[hy]
       rw[h1]at b5;exact b5
      ·simp only[Aaj]
       intro r2 k2 m2 e2 ln;obtain⟨rfl,rfl⟩:r=r2/\k'=k2:=by simpa using e2
       obtain⟨x1,ex1⟩:=h2;obtain⟨x2,tI⟩:=ln;rw[ex1]at tI;obtain rfl:m=m2:=by injection tI with tI;injection tI
       refine⟨by simp;omega,?_,?_⟩
       ·rw[y6,hy,show m-(p++[(i,sz,off)]).length=m' by simp;omega]
        exact sd
       ·rw[y6]
        exact h5.snoc _ _ _ (by simpa using ov) bc
  ·exact a3w
theorem Eaw:∀ {ks:List Bool} {ds:List D},Aa6 ks ds=true->∀ (j:Nat) (d:D),ks[j]?=some true->ds[j]?=some d->d.isSc=true
 |[],ds,_,j,d,hk,_=>by simp at hk
 |k::ks,[],h,j,d,hk,hd=>by simp at hd
 | k :: ks, e :: ds, h, j, d, hk, hd => by
  simp only[Aa6,Obh,Pbo,Ob6]at h
  cases j with
  | zero =>
   simp only[Obn,Option.some.injEq]at hk hd;subst hk hd;simpa using h.1
  |succ j=>exact Eaw h.2 j d (by simpa using hk) (by simpa using hd)
theorem Aaw {t:TypeId}{b:Addr}{v:Value}(h:(loadVar t b).run P w=.ok v w):(Instr.loadAt t (.pointer (some b))).run P w=.ok v w:=by
 simp only[Instr.loadAt,Instr.sureAddr,Sem.run_bind,Sem.run_pure,Result.andThen_ok,h]
theorem uK (s:SlR)(i:aI)(sz:Nat):∀ (cs:List CK) (off y j:Nat) (l:aM),(dS s i sz off cs y)[j]?=some l->∃ c,cs[j]?=some c/\l=iO s i sz (off+j) c (.v (y+j))
 |[],off,y,j,l,h=>by simp[dS]at h
 | c :: cs, off, y, j, l, h => by
  simp only[dS]at h
  cases j with
  | zero =>
   simp only[Obn,Option.some.injEq]at h;exact⟨c,rfl,h.symm⟩
  | succ j =>
   obtain⟨c',h1,h2⟩:=uK s i sz cs (off+1) (y+1) j l (by simpa using h);exact⟨c',by simpa using h1,by rw[h2];congr 1<;>first|omega|(congr 1;omega)⟩
theorem uJ (s:SlR)(i:aI)(sz:Nat):∀ (cs:List CK) (off y:Nat),(dS s i sz off cs y).length=cs.length
 |[],_,_=>rfl
 |c::cs,off,y=>by simp[dS,uJ s i sz cs (off+1) (y+1)]
theorem Aat {agg:Bool}{ls:List aM}{sv:SV}(h:Paa agg ls=some sv){vs:List Value}(hl:vs.length=ls.length):∃ v,if agg=true then v=.agg vs.toArray else vs=[v]:=by
 cases agg with
 |true=>exact⟨_,rfl⟩
 | false =>
  simp only[Paa,cond_false]at h;split at h
  ·match vs,hl with
   |[v],_=>exact⟨v,rfl⟩
  ·cases h
theorem Tap {sz off:Nat}{ks:List Bool}{x i:D}{ds:List D}(h:(aY.row sz off ks).run [x,i]=some ds) :
  ∃ rs k iv row,x=.rows sz rs/\i=.int k iv/\0<=iv/\rs[iv.toNat]?=some row/\off+ks.length<=row.length/\Aa6 ks (row.drop off)=true/\ds=(row.drop off).take ks.length:=by
 cases x<;>cases i<;>simp only[aY.run]at h<;>first|cases h|skip
 rename_i nq rs k iv;split at h
 ·rename_i h1
  obtain⟨rfl,h1⟩:=h1;split at h
  ·rename_i row hr
   split at h
   ·rename_i h2
    simp only[Option.some.injEq]at h;exact⟨rs,k,iv,row,rfl,rfl,h1,hr,h2.1,h2.2,h.symm⟩
   ·cases h
  ·cases h
 ·cases h
theorem Qa8 (hR:R E.ntmps F σ ρ a w G)(hd:eG E.ntmps o)(hti:sG P E.ti){nv:Nat}{t:TypeId}{x:Operand}(ho:o.op=.load t x){ti:TI}
  (hi:E.ti t=some ti) {p:aM} (hp:gOn ρ g=true->aB σ ρ G w p (a.eval x)) {res:bI}
  (h:(Oa4 nv o g ti p).eval σ=some res) (hs:aJ cf ρ g nv res.lets):fV P E F σ ρ a w g o Q res.upd:=by
 obtain⟨info,u,f⟩:=aV (hti.ok _ _ hi)
 have hex:∀ {v:Value},(Instr.loadAt t (a.eval x)).run P w=.ok v w->(execOp a.eval o).run P w=.ok (.value v) w:=by
  intro v hv;unfold execOp;simp only[ho];exact fA hv
 unfold Oa4 at h;split at h
 ·rename_i b off
  simp only[aA,aO,Obm]at h;split at h
  ·rename_i ro bs hk
   simp only[aA,Obg,aH]at h;obtain⟨_,fq,h⟩:=h;split at fq
   ·rename_i hle
    simp only[Pbn]at hle;split at h
    ·rename_i sv gb
     refine vB hR hd h hs fun hg=>?_
     have hl:=hp hg;simp only[aB]at hl;obtain⟨h1,h2,h3⟩:=hR.box hk
     obtain⟨vs,h4,h5⟩:=kC (σ:=σ) (ρ:=ρ) (G:=G) (w:=w) ((G.bx b).add off) ((bs.drop off).take ti.size) 0 fun j l hj=>by
      rw[Pbq]at hj;split at hj
      ·rw[Pbk]at hj
       obtain⟨v,h6,-,h7⟩:=h3 _ _ hj;refine⟨v,?_,h7⟩;rw[Ob9,add_add];exact h6
      ·cases hj
     have hlen:vs.length=ti.size:=by
      rw[h4.len];simp;omega
     obtain⟨v,hv⟩:=Aat gb h4.len;refine⟨v,pM gb h4 hv,hex ?_⟩;rw[hl.1];exact Aaw (jE f _ vs hlen (fun j v hj=>by simpa using h5 j v hj) hv)
    ·cases h
   ·cases fq
  ·cases h
 ·rename_i l sz i off
  simp only[aA,Obg]at h;obtain⟨s,gi,h⟩:=h
  have main:∀ (ks:List Bool) (ds:List D),(∀ (j:Nat) (c:CK),ti.cells[j]?=some c->Bbj c=true->ks[j]?=some true)->ks.length=ti.cells.length->gOn ρ g=true ->
    (aY.row sz off ks).run [s.x.val ρ,i.val ρ]=some ds->(∀ j d,ds[j]?=some d->(aI.v (nv+j)).val ρ=d) ->
    ∃ vs,aG σ ρ G w (dS s i sz off ti.cells nv) vs/\vs.length=ti.size/\∃ b,a.eval x=.pointer (some b)/\∀ j v,vs[j]?=some v->w.cell? (b.add j)=some v:=by
   intro ks ds hks xq hg bf j9;have hl:=hp hg;simp only[aB]at hl;obtain⟨b,n,c,k,iv,h1,h2,h3,h4,h5⟩:=hl;have a5k:=dH hR gi h1;obtain⟨rs,k',zh,row,e1,e2,e3,e4,e5,e6,rfl⟩:=Tap bf;rw[h2]at e2;obtain⟨rfl,rfl⟩:k=k'/\iv=zh:=by injection e2 with a b;exact⟨a,b⟩
   obtain⟨vs,h6,h7⟩:=kC (σ:=σ) (ρ:=ρ) (G:=G) (w:=w) (b.add (iv.toNat*sz+off)) (dS s i sz off ti.cells nv) 0 fun j l' hj=>by
    obtain⟨c',ia,rfl⟩:=uK _ _ _ _ _ _ _ _ hj;have l7:j<ti.cells.length:=(List.getElem?_eq_some_iff.1 ia).1;have gR:row[off+j]?=some row[off+j]:=Obl (by omega)
    obtain⟨v,s5,hv2⟩:=Va1 a5k e1 h2 e4 (off:=off+j) (d:=row[off+j]) gR c' (fun jl=>Eaw e6 j _ (hks j c' ia jl) (by rw[Pbk];exact gR)) (y:=.v (nv+j))
     (j9 j _ (by rw[Pbq,if_pos (by omega),Pbk];exact gR))
    refine⟨v,?_,hv2⟩;rw[add_add,Ob9,Ob0];exact s5
   exact⟨vs,h6,by rw[h6.len,uJ,f.len],_,h5,fun j v hj=>by simpa using h7 j v hj⟩
  split at h
  ·rename_i x' gb
   have rk:x'=.v nv/\ti.agg=false/\∃ z,ti.cells=[.sc z]:=by
    unfold Paa at gb
    cases k7:ti.agg with
    |true=>rw[k7]at gb;simp at gb
    | false =>
     rw[k7]at gb;simp only[cond_false]at gb
     cases hc:ti.cells with
     |nil=>rw[hc]at gb;simp[dS]at gb
     | cons c cs =>
      cases cs with
      | nil =>
       rw[hc]at gb;simp only[dS,Option.some.injEq,SV.one.injEq]at gb
       cases c with
       |sc z=>simp only[iO,aM.sc.injEq]at gb;exact⟨gb.symm,rfl,z,rfl⟩
       | sl z =>
        simp only[iO]at gb;split at gb
        ·cases hb:Nat.ble _ _<;>(rw[hb]at gb;cases gb)
        ·cases gb
       |pn=>simp[iO]at gb
       |ot=>simp[iO]at gb
      |cons c' nc=>rw[hc]at gb;simp[dS]at gb
   obtain⟨rfl,k7,z,ze⟩:=rk
   have ba:aJ cf ρ g nv [.prim (.row sz off [true]) [s.x,i] 1]:=by
    simp only[qD,aF,Option.some.injEq]at h;subst h;exact hs
   refine bZ hR hd h hs fun hg d yw=>?_
   obtain⟨d',h1,h2⟩:=fC ba hg;simp only[Ob1,Pba]at yw h1
   obtain⟨vs,h3,h4,b,h5,h6⟩:=main [true] [d'] (fun j c hc _=>by
    rw[ze]at hc
    cases j with
    |zero=>rfl
    | succ j => simp at hc) (by rw [ze]; rfl) hg h1 (fun j d hj => by
     cases j with
     |zero=>simp only[Obn,Option.some.injEq]at hj;rw[<- hj];exact h2
     |succ j=>simp at hj)
   obtain⟨v,hv⟩:=Aat gb h3.len;have h7:=pM gb h3 hv;simp only[bR,aB]at h7;refine⟨v,?_,hex ?_⟩
   ·rw[h2]at h7
    rw[h1]at yw;simp only[Option.some.injEq,List.cons.injEq,and_true]at yw;exact yw▸h7
   ·rw[h5]
    exact Aaw (jE f b vs h4 h6 hv)
  ·rename_i sv _ gb
   refine dA hR hd h hs fun hg ba=>?_
   obtain⟨ds,h1,h2,h3⟩:=step1 ba hg;simp only[Ob1,Pba]at h1;obtain⟨vs,h4,h5,b,h6,h7⟩:=main _ ds (fun j c hc jl=>by rw[Ob5,hc];simp[jl]) (by simp) hg h1 h3;obtain⟨v,hv⟩:=Aat gb h4.len;refine⟨v,pM gb h4 hv,hex ?_⟩;rw[h6];exact Aaw (jE f b vs h5 h7 hv)
  ·cases h
 ·cases h
end
section
variable {P:Program} {E:Env} {F:bC} {σ:Nat->Option aN} {ρ:List D} {a:Act} {w w':World} {G:Gh} {g:Option (aI×Bool)} {o:Oper} {cf:Nat->List D->Option (List D)} {Q:Exit->Act->World->Prop} {next:Act->World->Prop}
theorem Far:∀ {rs:List (List D)} {l:List UInt8},bytesOf rs=some l->∃ ns:List Int,rs=ns.map (fun n=>[D.int .u8 n])/\l=ns.map fun n=>UInt8.ofNat n.toNat
 | [], l, h => by
  simp only[bytesOf,Option.some.injEq]at h;exact⟨[],rfl,h.symm⟩
 | r :: rs, l, h => by
  unfold bytesOf at h;split at h
  ·rename_i hh;cases hh
  ·rename_i n r' hh
   obtain⟨rfl,rfl⟩:=List.cons.inj hh;simp only[Obr]at h;obtain⟨l',h1,rfl⟩:=h;obtain⟨ns,rfl,rfl⟩:=Far h1;exact⟨n::ns,rfl,rfl⟩
  ·cases h
theorem Raa (hR:R E.ntmps F σ ρ a w G)(hd:eG E.ntmps o)(hti:sG P E.ti){nv:Nat}{src dst:TypeId}{x:Operand}(ho:o.op=.convert src dst x){res:bI}{s d ei:TI}{e:Nat}
  (nk:E.ti src=some s) (he:s.elem=some e) (xn:E.ti e=some ei) (hk:Ib4 ei.ik=true) (gp:E.ti dst=some d) (yx:d.isStr=true)
  {l:aM} {r:SlR} (h1:(rdL E g src x).eval σ=some l) (h2:(vC l).eval σ=some r)
  (h:(qD o g nv .bstr [r.x]).eval σ=some res) (hs:aJ cf ρ g nv res.lets):fV P E F σ ρ a w g o Q res.upd:=by
 refine bZ hR hd h hs fun hg z hp=>?_
 obtain⟨i1,u1,f1⟩:=aV (hti.ok _ _ nk);obtain⟨i2,u2,f2⟩:=aV (hti.ok _ _ gp);obtain⟨i3,u3,f3⟩:=aV (hti.ok _ _ xn);obtain rfl:=nR f1 he;obtain rfl:=Aau f2 yx
 have e3:u3=.int .u8:=by
  unfold Ib4 at hk;split at hk
  ·rename_i k jd
   simp only[Ibe,decide_eq_true_eq]at hk;have:=f3.ik.symm.trans jd;unfold Hb9 at this;split at this
   ·rw[Option.some.inj this,hk]
   ·cases this
  ·cases hk
 subst e3;have hl:=(dH hR h2 (eO hR hg h1)).rd;simp only[Ob1,Pba]at hp;generalize r.x.val ρ=xv at hp hl;cases xv<;>simp only[aY.run]at hp<;>first|cases hp|skip
 rename_i sz rs;simp only[Obr,List.cons.injEq,and_true]at hp;obtain⟨bs,hb,rfl⟩:=hp;obtain⟨ns,rfl,rfl⟩:=Far hb;obtain⟨A,b,n,c,vs,e1,e2,e3,e4,e5,e6,e7⟩:=hl.inv;refine⟨_,.str _,?_⟩;unfold execOp;simp only[ho];refine fA ?_;rw[e1,run_convert_bytes_string w src dst e A n c f1.und f3.und f2.und]
 cases A with
 | none =>
  have:n=0:=by
   rcases e4 with e4|e4
   ·exact e4
   ·cases e4
  subst this;simp only[Ob7]at e2;obtain rfl:=Pbr e2;simp[Conv.bytesToString];rfl
 | some b' =>
  have qS:(loadCells b' n).run P w=.ok (ns.map (Value.int .u8)).toArray w:=by
   simp only[Ob7]at e2
   have:=run_loadCells_list (P:=P) w b' (ns.map (Value.int .u8)) (fun j v hj=>by
    simp only[Ob5,Obr]at hj;obtain⟨m,hm,rfl⟩:=hj;have hr:(ns.map fun n=>[D.int .u8 n])[j]?=some [D.int .u8 m]:=by rw[Ob5,hm];rfl
    have h9:=e6 j _ hr 0 _ rfl;have b9:=(e7 j _ hr 0 _ rfl).sc_inv rfl
    have dm:sz=1:=by
     have:=e5 _ (Obw hr);simpa using this.symm
    have gq:j<ns.length:=(List.getElem?_eq_some_iff.1 hm).1
    have cF:b'=b:=by
     rcases e4 with e4|e4
     ·omega
     ·exact Option.some.inj e4
    subst cF dm;rw[b9.int_inv]at h9;simpa using h9.2)
   simpa[e2] using this
  rw[run_bytesToString w b' n c ns qS,foldl_push_bytes];simp[ByteArray.empty,ByteArray.emptyWithCapacity];rfl
theorem Kak (hR:R E.ntmps F σ ρ a w G)(hd:eG E.ntmps o)(hti:sG P E.ti){nv:Nat}{src dst:TypeId}{x:Operand}(ho:o.op=.convert src dst x){res:bI}{s d:TI}
  (nk:E.ti src=some s) (hsS:s.isStr=true) (gp:E.ti dst=some d) (yx:d.isStr=true) {x':aI} (h1:(rdA E g src x).eval σ=some x')
  (h:(qD o g nv .sid [x']).eval σ=some res) (hs:aJ cf ρ g nv res.lets):fV P E F σ ρ a w g o Q res.upd:=by
 refine bZ hR hd h hs fun hg z hp=>?_
 obtain⟨i1,u1,f1⟩:=aV (hti.ok _ _ nk);obtain⟨i2,u2,f2⟩:=aV (hti.ok _ _ gp);obtain rfl:=Aau f1 hsS;obtain rfl:=Aau f2 yx;have hl:=iJ hR hg h1;simp only[Ob1,Pba]at hp;generalize x'.val ρ=xv at hp hl;cases xv<;>simp only[aY.run]at hp<;>first|cases hp|skip
 refine⟨_,.str _,?_⟩;unfold execOp;simp only[ho,hl.str_inv];refine fA ?_;simp only[convert,Sem.run_bind,run_underlying f1.und,run_underlying f2.und,Result.andThen_ok];rfl
theorem Gay {is:Bool}{len cap:Nat}{lo hi:Option Value}{kl kh:IntKind}{l h:Int}(oe:(lo=none/\l=0)\/lo=some (.int kl l))(tv:(hi=none/\h=len)\/(hi=some (.int kh h)/\h<=cap))(h0:0<=l)(h1:l<=h) :
  (Instr.sliceBounds is len cap lo hi none).run P w=.ok (l.toNat,h.toNat,cap) w:=by
 rcases tv with ⟨rfl,rfl⟩|⟨rfl,hc⟩<;>rcases oe with ⟨rfl,rfl⟩|rfl
 ·simp[Instr.sliceBounds]
 ·have e2:0<=l/\l<=(len:Int):=⟨h0,by omega⟩
  simp[Instr.sliceBounds,Instr.sliceBound,asIntOf,e2]
 ·have e1:0<=h/\h<=(cap:Int):=⟨by omega,hc⟩
  simp[Instr.sliceBounds,Instr.sliceBound,asIntOf,e1]
 ·have e1:0<=h/\h<=(cap:Int):=⟨by omega,hc⟩
  have e2:0<=l/\l<=(h.toNat:Int):=⟨h0,by omega⟩;have e3:0<=l/\l<=max h 0:=⟨h0,by omega⟩;simp[Instr.sliceBounds,Instr.sliceBound,asIntOf,e1,e2,e3]
theorem Qap {ei:TI}{lo fl:Bool}{s:SlR}{p:Pth}(h:Gal ei lo s=(p,fl)):(p=.no) \/
  (p=.view/\∃ r k m q,s.own=some (r,k,m,q)/\(q=.path []\/q=.view)/\(m=1\/lo=false\/fl=true)):=by
 unfold Gal at h
 have one:∀ m:Nat,(bif Nat.beq m 1||!lo then (Pth.view,false) else bif Jay ei.cells then (Pth.view,true) else (Pth.no,false))=(p,fl)->p=.no\/(p=.view/\(m=1\/lo=false\/fl=true)):=by
  intro m h
  cases hb:(Nat.beq m 1||!lo) with
  | true =>
   rw[hb]at h;simp only[cond_true,Prod.mk.injEq]at h;simp only[Pbo,Ob4,Ob6]at hb;exact .inr ⟨h.1.symm,hb.imp id .inl⟩
  | false =>
   rw[hb]at h
   cases hn:Jay ei.cells with
   | true =>
    rw[hn]at h;simp only[cond_false,cond_true,Prod.mk.injEq]at h;exact .inr ⟨h.1.symm,.inr (.inr h.2.symm)⟩
   | false =>
    rw[hn]at h;simp only[cond_false,Prod.mk.injEq]at h;exact .inl h.1.symm
 split at h
 ·rename_i r k m ho
  exact (one _ h).imp id fun ⟨h1,h2⟩=>⟨h1,_,_,_,_,ho,.inl rfl,h2⟩
 ·rename_i r k m ho
  exact (one _ h).imp id fun ⟨h1,h2⟩=>⟨h1,_,_,_,_,ho,.inr rfl,h2⟩
 ·simp only[Prod.mk.injEq]at h
  exact .inl h.1.symm
theorem Nah {sz:Nat}{fl:Bool}{x i j:D}{ds:List D}(h:(aY.sub sz fl).run [x,i,j]=some ds) :
  ∃ rs ki kj lo hi,x=.rows sz rs/\i=.int ki lo/\j=.int kj hi/\(fl=true->∀ r∈rs,∀ d∈r,d.isSc=true)/\0<=lo/\lo<=hi/\hi<=rs.length/\ds=[.rows sz ((rs.take hi.toNat).drop lo.toNat)]:=by
 cases x<;>cases i<;>cases j<;>simp only[aY.run]at h<;>first|cases h|skip
 split at h
 ·rename_i h1
  obtain⟨rfl,h1,h2,h3,h4⟩:=h1;simp only[Option.some.injEq]at h;refine⟨_,_,_,_,_,rfl,rfl,rfl,fun hf=>?_,h2,h3,h4,h.symm⟩;rw[hf]at h1;simp only[Bool.not_true,Bool.false_or,Ob8]at h1;exact fun r hr d hd=>h1 r hr d hd
 ·cases h
theorem Iae {rs:List (List D)}{lo hi i:Nat}{r:List D}(h:((rs.take hi).drop lo)[i]?=some r):rs[lo+i]?=some r/\lo+i<hi:=by
 rw[Pbk,Pbq]at h;split at h
 ·rename_i hl;exact⟨h,hl⟩
 ·cases h
theorem Rd.part {ok:Nat->Prop}{A:Option Addr}{n c sz:Nat}{rs:List (List D)}(h:Rd ok w (.slice A n c) (.rows sz rs)){lo hi:Nat}(h1:lo<=hi)(h2:hi<=n) :
  Rd ok w (.slice (if c=lo then A else A.map (·.add (lo*sz))) (hi-lo) (c-lo)) (.rows sz ((rs.take hi).drop lo)):=by
 obtain⟨A',b,n',c',vs,e1,e2,e3,e4,e5,e6,e7⟩:=h.inv;obtain⟨rfl,rfl,rfl⟩:A=A'/\n=n'/\c=c':=by injection e1 with a b c;exact⟨a,b,c⟩
 refine .rows _ (b.add (lo*sz)) _ _ sz _ (fun i j=>vs (lo+i) j) (by simp;omega) (by omega) ?_ (fun r hr=>?_) (fun i r fh j d hj=>?_) (fun i r fh j d hj=>?_)
 ·by_cases hz:hi-lo=0
  ·exact .inl hz
  ·refine .inr ?_
   have hA:A=some b:=e4.resolve_left (by omega);rw[if_neg (by omega),hA];rfl
 ·exact e5 r (List.mem_of_mem_take (Qbl hr))
 ·obtain⟨h3,h4⟩:=Iae fh
  obtain⟨h5,h6⟩:=e6 _ _ h3 _ _ hj;refine⟨by rw[add_block];exact h5,?_⟩;rw[add_add,show lo*sz+(i*sz+j)=(lo+i)*sz+j by rw[Nat.add_mul,Ob0]];exact h6
 ·obtain⟨h3,h4⟩:=Iae fh
  exact e7 _ _ h3 _ _ hj
theorem Rp.sc_inv {own:Nat->Ow}{r m:Nat}{p:List Nat}{v:Value}{d:D}(h:Rp own w r p m v d)(hd:d.isSc=true):Sc v d:=by
 cases h with
 |sc h=>exact h
 |hole=>simp[D.isSc]at hd
 |fz h=>exact h.sc_inv hd
 |sl=>simp[D.isSc]at hd
theorem Rp.part {own:Nat->Ow}{r m:Nat}{p:List Nat}{A:Option Addr}{n c sz:Nat}{rs:List (List D)}(h:Rp own w r p m (.slice A n c) (.rows sz rs)){lo hi:Nat}(h1:lo<=hi)(h2:hi<=n)
  (hc:m=1\/lo=0\/∀ r∈rs,∀ d∈r,d.isSc=true) :
  Rp own w r p m (.slice (if c=lo then A else A.map (·.add (lo*sz))) (hi-lo) (c-lo)) (.rows sz ((rs.take hi).drop lo)):=by
 generalize hv:Value.slice A n c=v at h;generalize hx:D.rows sz rs=x at h
 cases h with
 |sc h=>subst hx;cases h
 |hole=>cases hx
 |fz h=>subst hv hx;exact .fz (h.part h1 h2)
 | sl A' b n' c' nq rs' vs hn ia hA dm a7 bc b5 =>
  obtain⟨rfl,rfl,rfl⟩:A=A'/\n=n'/\c=c':=by injection hv with a b c;exact⟨a,b,c⟩
  obtain⟨rfl,rfl⟩:sz=nq/\rs=rs':=by injection hx with a b;exact⟨a,b⟩
  rename_i m';refine .sl _ (if c=lo then b else b.add (lo*sz)) _ _ sz _ (fun i j=>vs (lo+i) j) (by simp;omega) (by omega) ?_ (fun r hr=>?_) (fun e=>?_) (fun i r' fh j d hj=>?_) (fun i r' fh j d hj=>?_)
  ·rcases hA with hA|⟨hA,h0⟩
   ·refine .inl ?_
    rw[hA];by_cases h:c=lo
    ·rw[if_pos h,if_pos h]
    ·rw[if_neg h,if_neg h];rfl
   ·refine .inr ⟨?_,by omega⟩
    rw[hA];split<;>rfl
  ·exact dm r (List.mem_of_mem_take (Qbl hr))
  ·have vt:A=some b:=by
    rcases hA with hA|⟨hA,h0⟩
    ·exact hA
    ·rw[hA]at e
     split at e<;>cases e
   obtain⟨h3,h4,h5⟩:=a7 vt;by_cases h:c=lo
   ·rw[if_pos h]
    exact⟨h3,h4,fun k hk=>by rw[h,Nat.sub_self,Nat.zero_mul]at hk;omega⟩
   ·rw[if_neg h]
    refine⟨?_,by rw[add_block];exact h4,fun k hk=>?_⟩
    ·unfold Addr.add;split
     ·exact h3
     ·rfl
    ·rw[add_add]
     refine h5 _ ?_;rw[Nat.sub_mul]at hk;omega
  ·obtain⟨h3,h4⟩:=Iae fh
   rw[if_neg (by omega),add_add,show lo*sz+(i*sz+j)=(lo+i)*sz+j by rw[Nat.add_mul,Ob0]];exact bc _ _ h3 _ _ hj
  ·obtain⟨h3,h4⟩:=Iae fh
   have:=b5 _ _ h3 _ _ hj
   rcases hc with hc|hc|hc
   ·obtain rfl:m'=0:=by omega
    exact .fz this.zero
   ·subst hc
    simpa using this
   ·exact .sc (this.sc_inv (hc r' (Obw h3) d (Obw hj)))
theorem sO {t e:TypeId}{x:Operand}{lo hi:Option Operand}(ho:o.op=.slice t x lo hi none)(hu:P.underlying t=some (.slice e)){size:Nat}(dm:(sizeOf e).run P w=.ok size w)
  {A:Option Addr} {n c:Nat} (hx:a.eval x=.slice A n c) {kl kh:IntKind} {l h:Int} (oe:(lo=none/\l=0)\/lo.map a.eval=some (.int kl l)) (tv:(hi=none/\h=n)\/(hi.map a.eval=some (.int kh h)/\h<=c)) (h0:0<=l) (h1:l<=h) :
  (execOp a.eval o).run P w=.ok (.value (.slice (if c=l.toNat then A else A.map (·.add (l.toNat*size))) (h.toNat-l.toNat) (c-l.toNat))) w:=by
 unfold execOp;simp only[ho];refine fA ?_;have hb:=Gay (P:=P) (w:=w) (is:=true) (len:=n) (cap:=c) (lo:=lo.map a.eval) (hi:=hi.map a.eval) (kl:=kl) (kh:=kh) (l:=l) (h:=h) (oe.imp (fun ⟨h1,h2⟩=>⟨by rw[h1];rfl,h2⟩) id) (tv.imp (fun ⟨h1,h2⟩=>⟨by rw[h1];rfl,h2⟩) id) h0 h1;simp only[Instr.sliceAt,Instr.slice,Sem.run_bind,run_underlying hu,Result.andThen_ok,hx,Option.map_none,hb,dm,Sem.run_pure]
end
section
variable {P:Program} {E:Env} {F:bC} {σ:Nat->Option aN} {ρ:List D} {a:Act} {w w':World} {G:Gh} {g:Option (aI×Bool)} {o:Oper} {cf:Nat->List D->Option (List D)} {Q:Exit->Act->World->Prop} {next:Act->World->Prop}
theorem tH {g:Option (aI×Bool)}(h:noG g=true):g=none:=by
 cases g with
 |none=>rfl
 |some _=>cases h
theorem yV {p:aY}{xs:List aI}{nv:Nat}(h:Qam cf ρ g nv (.prim p xs 1))(hg:gOn ρ g=true) :
  ∃ d,p.run (xs.map (·.val ρ))=some [d]/\(aI.v nv).val ρ=d:=fC (cf:=cf) (nv:=nv) ⟨h,trivial⟩ hg
theorem yI {t:TypeId}{x:Operand}{lo hi:Option Operand}(ho:o.op=.slice t x lo hi none)(hu:P.underlying t=some .string)
  {s:List UInt8} (hx:a.eval x=.string ⟨s.toArray⟩) {kl kh:IntKind} {l h:Int} (oe:(lo=none/\l=0)\/lo.map a.eval=some (.int kl l)) (tv:(hi=none/\h=s.length)\/(hi.map a.eval=some (.int kh h)/\h<=s.length)) (h0:0<=l) (h1:l<=h) :
  (execOp a.eval o).run P w=.ok (.value (.string ⟨((s.take h.toNat).drop l.toNat).toArray⟩)) w:=by
 unfold execOp;simp only[ho];refine fA ?_;have hb:=Gay (P:=P) (w:=w) (is:=false) (len:=s.length) (cap:=s.length) (lo:=lo.map a.eval) (hi:=hi.map a.eval) (kl:=kl) (kh:=kh) (l:=l) (h:=h) (oe.imp (fun ⟨h1,h2⟩=>⟨by rw[h1];rfl,h2⟩) id) (tv.imp (fun ⟨h1,h2⟩=>⟨by rw[h1];rfl,h2⟩) id) h0 h1;have hlen:(⟨s.toArray⟩:ByteArray).size=s.length:=rfl;simp only[Instr.sliceAt,Instr.slice,Sem.run_bind,run_underlying hu,Result.andThen_ok,hx,Option.map_none,Option.isSome_none,Obp,if_false,hlen,hb,Sem.run_pure];congr 2;apply ByteArray.ext;rw[ByteArray.data_extract];apply Rbl;simp[List.drop_take,List.extract]
theorem Pac {x i j:D}{ds:List D}(h:aY.ssub.run [x,i,j]=some ds) :
  ∃ s ki kj lo hi,x=.str s/\i=.int ki lo/\j=.int kj hi/\0<=lo/\lo<=hi/\hi<=s.length/\ds=[.str ((s.take hi.toNat).drop lo.toNat)]:=by
 cases x<;>cases i<;>cases j<;>simp only[aY.run]at h<;>first|cases h|skip
 split at h
 ·rename_i h1
  simp only[Option.some.injEq]at h;exact⟨_,_,_,_,_,rfl,rfl,rfl,h1.1,h1.2.1,h1.2.2,h.symm⟩
 ·cases h
theorem Pap {lo:Bool}{s:SlR}{ei:TI}{p:Pth}{fl:Bool}(yq:Gal ei lo s=(p,fl)){A:Option Addr}{n c sz:Nat}(gi:Sap σ ρ G w s (.slice A n c)){rs:List (List D)}(hx:s.x.val ρ=.rows sz rs)
  {l h:Nat} (h1:l<=h) (h2:h<=n) (oe:lo=false->l=0) (fX:fl=true->∀ r∈rs,∀ d∈r,d.isSc=true) {y:aI} (hy:y.val ρ=.rows sz ((rs.take h).drop l)) :
  aB σ ρ G w (.sn s.deps p false y) (.slice (if c=l then A else A.map (·.add (l*sz))) (h-l) (c-l)):=by
 simp only[aB];refine⟨⟨rfl,fun z hz=>?_⟩,fun _=>⟨?_,by simp,?_⟩⟩
 ·obtain⟨m,hl⟩:=gi.live z hz
  exact hl.valid.known
 ·rw[hy]
  exact Rd.part (hx▸gi.rd) h1 h2
 ·rcases Qap yq with rfl|⟨rfl,r,k,m,q,ho,hq,hc⟩
  ·trivial
  ·intro r2 k2 m2 e2 ln
   have a7:=gi.own;unfold rX at a7;rw[ho]at a7;obtain⟨h3,⟨x1,h4⟩,h5⟩:=a7;rw[h3]at e2;obtain⟨rfl,rfl⟩:r=r2/\k=k2:=by simpa using e2
   obtain⟨x2,tI⟩:=ln;rw[h4]at tI;obtain rfl:m=m2:=by injection tI with tI;injection tI
   have fa:Rp G.own w r [] m (.slice A n c) (.rows sz rs):=by
    rw[<- hx]
    rcases hq with rfl|rfl
    ·simpa[aZ] using h5.2.1
    ·exact h5
   rw[hy];refine fa.part h1 h2 ?_
   rcases hc with hc|hc|hc
   ·exact .inl hc
   ·exact .inr (.inl (oe hc))
   ·exact .inr (.inr (fX hc))
theorem Ta1 {lo:Bool}{s:SlR}{ei:TI}{p:Pth}{fl:Bool}(yq:Gal ei lo s=(p,fl)){A:Option Addr}{n c sz:Nat}(gi:Sap σ ρ G w s (.slice A n c)){rs:List (List D)}(hx:s.x.val ρ=.rows sz rs)
  {l:Nat} (h1:l<=n) (oe:lo=false->l=0) (fX:fl=true->∀ r∈rs,∀ d∈r,d.isSc=true) {y:aI} (hy:y.val ρ=.rows sz ((rs.take n).drop l)) {lx:aI} (hl:jS ρ lx=l) :
  aB σ ρ G w (.sn s.deps (Abp p sz lx s) false y) (.slice (if c=l then A else A.map (·.add (l*sz))) (n-l) (c-l)):=by
 have h0:=Pap yq gi hx h1 (Nat.le_refl n) oe fX hy;unfold Abp;split
 ·rename_i r k m ho
  simp only[aB]at h0 ⊢;refine⟨h0.1,fun hv=>⟨(h0.2 hv).1,(h0.2 hv).2.1,?_⟩⟩;intro r2 k2 m2 e2 ln;have a7:=gi.own;unfold rX at a7;rw[ho]at a7;obtain⟨h3,-,-,-,h5⟩:=a7;rw[h3]at e2;obtain⟨rfl,rfl⟩:r=r2/\k=k2:=by simpa using e2
  simp only[aZ,Pba,wB]at h5;exact⟨A,n,c,h5.symm,by rw[hl];exact h1,by rw[hl]⟩
 ·exact h0
theorem yR (hR:R E.ntmps F σ ρ a w G)(hg:gOn ρ g=true){lo:Option Operand}{y:aI}
  (h:(match lo with|some a=>rdA E g 0 a|none=>RdM.ret (.c (.int .i64 0)):RdM aI).eval σ=some y) {k:IntKind} {l:Int} (hy:y.val ρ=.int k l) :
  (lo=none/\l=0)\/lo.map a.eval=some (.int k l):=by
 split at h
 ·rename_i x
  have:=iJ hR hg h;rw[hy]at this;exact .inr (by rw[Pbj,this.int_inv])
 ·simp only[aF,Option.some.injEq]at h
  subst h;simp only[aI.val,D.int.injEq]at hy;exact .inl ⟨rfl,hy.2.symm⟩
theorem Nak (hR:R E.ntmps F σ ρ a w G)(hd:eG E.ntmps o)(hti:sG P E.ti){nv nb nr:Nat}{mv cL:Bool}{t:TypeId}{x:Operand}{lo hi mx:Option Operand}(ho:o.op=.slice t x lo hi mx){res:bI}
  (h:(nI E mv cL nv nb nr g o).eval σ=some res) (hs:aJ cf ρ g nv res.lets):fV P E F σ ρ a w g o Q res.upd:=by
 simp only[nI,ho]at h
 cases mx with
 | some _ =>
  simp only[aA,Obg]at h;obtain⟨_,_,h⟩:=h;cases h
 |none =>
 simp only[aA,Obg,tiR,aS]at h;obtain⟨ti,hi1,l,h1,tP,h2,h⟩:=h;obtain⟨info,u,f⟩:=aV (hti.ok _ _ hi1);split at h
 ·rename_i s
  simp only[aA,Obg,aH]at h;obtain⟨_,fq,h⟩:=h;split at fq
  ·rename_i hb
   simp only[Obh]at hb;obtain rfl:=Aau f hb.1;split at h
   ·rename_i h'
    simp only[aA,Obg]at h;obtain⟨hA,h3,h⟩:=h;refine bZ hR hd h hs fun hg d hp=>?_
    simp only[Ob1,Pba]at hp;obtain⟨s',ki,kj,li,fh,e1,e2,e3,e4,e5,e6,e7⟩:=Pac hp;simp only[List.cons.injEq,and_true]at e7;have hx:=eO hR hg h1;simp only[aB,e1]at hx;have hh:=iJ hR hg h3;rw[e3]at hh;refine⟨_,e7▸.str _,yI ho f.und hx.str_inv (yR hR hg h2 e2) (.inr ⟨by rw[Pbj,hh.int_inv],e6⟩) e4 e5⟩
   ·obtain rfl:g=none:=tH (by simpa using hb.2)
    simp only[aF,Option.some.injEq]at h;subst h;simp only[Caf];refine⟨fun hg=>?_,fun hg=>by simp[gOn]at hg⟩;obtain⟨d1,h4,h5⟩:=yV hs.1 hg;obtain⟨d2,h6,h7⟩:=yV hs.2.1 hg;simp only[Ob1,Pba,Step.n]at h4 h6 h7;obtain⟨s',ki,kj,li,fh,e1,e2,e3,e4,e5,e6,e7⟩:=Pac h6;rw[e1]at h4;simp only[aY.run,Option.some.injEq,List.cons.injEq,and_true]at h4;rw[h5,<- h4]at e3;obtain⟨-,rfl⟩:IntKind.i64=kj/\(s'.length:Int)=fh:=by injection e3 with a b;exact⟨a,b⟩
    have hx:=eO hR hg h1;simp only[aB,e1]at hx;refine Iah hR hd hg (yI (kh:=.i64) ho f.und hx.str_inv (yR hR hg h2 e2) (.inl ⟨rfl,rfl⟩) e4 e5) ?_;rw[h7];simp only[List.cons.injEq,and_true]at e7;rw[e7];exact .str _
  ·cases fq
 ·simp only[aA,Obg,aH]at h
  obtain⟨_,fq,s,h3,ei,h4,h⟩:=h;split at fq
  ·rename_i sk
   cases hel':ti.elem with
   |none=>rw[hel']at sk;cases sk
   |some e =>
   obtain rfl:=nR f hel';rw[hel',Option.getD_some,aS]at h4;obtain⟨hJ,u',f'⟩:=aV (hti.ok _ _ h4);generalize yq:Gal ei lo.isSome s=pf at h;obtain⟨p,fl⟩:=pf;dsimp only at h;split at h
   ·rename_i h'
    simp only[aA,Obg]at h;obtain⟨hA,h5,h⟩:=h;split at h
    ·rename_i dp pp z _
     refine dA hR hd h hs fun hg ba=>?_
     obtain⟨d,h6,h7⟩:=fC ba hg;simp only[Ob1,Pba]at h6;obtain⟨rs,ki,kj,li,fh,e1,e2,e3,e4,e5,e6,e7,e8⟩:=Nah h6;have hl:=eO hR hg h1;have hh:=iJ hR hg h5;rw[e3]at hh
     have hz:s.x=.c (.rows z []):=by
      unfold vC at h3;simp only[aA,Obg]at h3;obtain⟨ds,-,h3⟩:=h3;split at h3
      ·simp only[aF,Option.some.injEq]at h3;rw[<- h3]
      ·simp only[aA,aO,Obm]at h3
       split at h3
       ·simp only[aF,Option.some.injEq]at h3;rw[<- h3]
       ·cases h3
      ·simp only[aF,Option.some.injEq]at h3;rw[<- h3]
     have fx:a.eval x=.slice none 0 0:=by
      unfold vC at h3;simp only[aA,Obg]at h3;obtain⟨ds,h3,-⟩:=h3;have eW:=hl;simp only[aB]at eW;exact (eW.2 (iC h3).1).2.1 trivial z rfl
     rw[hz]at e1
     obtain⟨-,rfl⟩:z=ei.size/\[]=rs:=by
      simp only[aI.val]at e1
      injection e1 with a b;exact⟨a,b⟩
     have ye:li=0:=by simp at e7;omega
     have tv:fh=0:=by simp at e7;omega
     subst ye tv;refine⟨a.eval x,hl,?_⟩;rw[sO (kh:=kj) (kl:=ki) (l:=0) (h:=0) ho f.und (f'.sizeOf w) fx (yR hR hg h2 e2) (.inr ⟨by rw[Pbj,hh.int_inv],by simp⟩) (by omega) (by omega),fx];rfl
    ·refine dA hR hd h hs fun hg ba=>?_
     obtain⟨d,h6,h7⟩:=fC ba hg;simp only[Ob1,Pba]at h6;obtain⟨rs,ki,kj,li,fh,e1,e2,e3,e4,e5,e6,e7,e8⟩:=Nah h6;have hh:=iJ hR hg h5;rw[e3]at hh;have gi:=dH hR h3 (eO hR hg h1);have gA:=gi.rd;rw[e1]at gA;obtain⟨A,b,n,c,vs,i1,i2,i3,-⟩:=gA.inv;rw[i1]at gi;have oe:=yR hR hg h2 e2;refine⟨_,?_,sO (kh:=kj) ho f.und (f'.sizeOf w) i1 oe (.inr ⟨by rw[Pbj,hh.int_inv],by omega⟩) e5 e6⟩;refine Pap yq gi e1 (by omega) (by omega) (fun hf=>?_) e4 ?_
     ·rcases oe with ⟨-,lR⟩|lR
      ·rw[lR];rfl
      ·cases lo with
       |none=>simp at lR
       |some _=>simp at hf
     ·rw[h7]
      simpa using e8
   ·refine dA hR hd h hs fun hg ba=>?_
    obtain⟨d1,uc,h5⟩:=yV ba.1 hg;obtain⟨d2,h6,h7⟩:=yV ba.2.1 hg;simp only[Ob1,Pba,Step.n]at uc h6 h7;obtain⟨rs,ki,kj,li,fh,e1,e2,e3,e4,e5,e6,e7,e8⟩:=Nah h6;rw[e1]at uc;simp only[aY.run,Option.some.injEq,List.cons.injEq,and_true]at uc;rw[h5,<- uc]at e3;obtain⟨-,rfl⟩:IntKind.i64=kj/\(rs.length:Int)=fh:=by injection e3 with a b;exact⟨a,b⟩
    have gi:=dH hR h3 (eO hR hg h1);have gA:=gi.rd;rw[e1]at gA;obtain⟨A,b,n,c,vs,i1,i2,i3,-⟩:=gA.inv;rw[i1]at gi;have oe:=yR hR hg h2 e2;refine⟨_,?_,sO (kh:=.i64) ho f.und (f'.sizeOf w) i1 oe (.inl ⟨rfl,by rw[i2]⟩) e5 e6⟩;have kk:jS ρ tP=li.toNat:=by unfold jS;rw[e2]
    have hln:((rs.length:Nat):Int).toNat=n:=by rw[Int.toNat_natCast];exact i2
    rw[hln];refine Ta1 (lx:=tP) yq gi e1 (l:=li.toNat) (by omega) (fun hf=>?_) e4 ?_ kk
    ·rcases oe with ⟨-,lR⟩|lR
     ·rw[lR];rfl
     ·cases lo with
      |none=>simp at lR
      |some _=>simp at hf
    ·rw[h7,List.take_of_length_le (by omega:rs.length<=n)]
     simpa using e8
  ·cases fq
end
end Go.Proofs.YtcbkmmhkccnamaaGreat.Rf
