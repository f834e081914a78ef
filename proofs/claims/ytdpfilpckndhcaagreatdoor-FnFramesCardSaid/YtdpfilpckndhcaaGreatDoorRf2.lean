/- Terms for the program's functions, and that they are right: part 2 of 9. -/
import Derived.Test.YtdpfilpckndhcaaGreatDoorRf1
import Derived.WalkKit
import Derived.Laws.StructEq
import Derived.Laws.BytesArg
open Array renaming ext' → Ubh
open Bool renaming and_eq_true → Qbq, false_eq_true → Qbr, not_eq_true' → Rbe, or_eq_true → Rbw
open List renaming getElem?_eq_getElem → Qbz, mem_cons_of_mem → Qb2, getElem?_cons_zero → Qb4, mem_singleton → Qb6, mem_cons_self → Qb7, length_take → Qb9, mem_of_getElem? → Rba, length_map → Rbf, all_eq_true → Rbg, map_cons → Rbh, append_nil → Rbm, length_drop → Rbn, map_nil → Rbq, getElem?_map → Rbu, eq_nil_of_length_eq_zero → Rbx, getElem?_cons_succ → Rbz, getElem?_drop → Rb4, getElem?_take → Sbb, length_singleton → Sbf, cons_append → Sbk, mem_of_mem_drop → Sbo, mem_of_mem_take → Sb0, getElem?_eq_none → Sb4, map_append → Tbt, drop_drop → Tb4
open Nat renaming add_assoc → Rbi, lt_or_ge → Rbj, zero_add → Rbt, beq_eq → Rbv, ble_eq → Rb8
open Option renaming bind_eq_some_iff → Qbp, bind_some → Qb3, map_eq_some_iff → Qb8, map_some → Rb5
set_option linter.unusedSimpArgs false
set_option linter.unusedVariables false
set_option linter.unnecessarySimpa false
set_option linter.unusedSectionVars false
namespace Go.Proofs.YtdpfilpckndhcaaGreatDoor.Rf
set_option linter.unusedVariables false
set_option linter.unusedSimpArgs false
theorem RdM.run_eval {α:Type}{look:Nat->Option aU}{m:RdM α}{x:α}{log:List Nat}(h:m.run look=some (x,log)):m.eval look=some x:=by
 induction m generalizing log with
 | ret a =>
  simp only[RdM.run,Option.some.injEq,Prod.mk.injEq]at h
  rw[h.1];rfl
 |no=>cases h
 | rd k f ih =>
  simp only[RdM.run,Qb8]at h
  obtain⟨⟨y,l⟩,h1,h2⟩:=h
  simp only[Prod.mk.injEq]at h2
  obtain⟨rfl,_⟩:=h2
  exact ih _ h1
theorem RdM.run_same {α:Type}{look look':Nat->Option aU}{m:RdM α}{x:α}{log:List Nat}(h:m.run look=some (x,log))(hs:∀ k∈log,look' k=look k):m.run look'=some (x,log):=by
 induction m generalizing log with
 |ret a=>exact h
 |no=>cases h
 | rd k f ih =>
  simp only[RdM.run,Qb8]at h ⊢
  obtain⟨⟨y,l⟩,h1,h2⟩:=h
  simp only[Prod.mk.injEq]at h2
  obtain⟨rfl,rfl⟩:=h2
  refine⟨(y,l),?_,rfl⟩
  rw[hs k Qb7]
  exact ih _ h1 fun j hj=>hs j (Qb2 _ hj)
section
variable {α γ:Type} {look:Nat->Option aU}
theorem aC (a:α):(RdM.ret a).eval look=some a:=rfl
theorem dF:(RdM.no:RdM α).eval look=none:=rfl
theorem Abt (k:Nat)(f:Option aU->RdM α):(RdM.rd k f).eval look=(f (look k)).eval look:=rfl
theorem aA (m:RdM α)(f:α->RdM γ):(m >>= f).eval look=(m.eval look).bind fun x=>(f x).eval look:=by
 show (RdM.bind m f).eval look=_
 induction m with
 |ret a=>rfl
 |no=>rfl
 |rd k g ih=>exact ih _
theorem aV (k:Nat):(rdK k).eval look=some (look k):=rfl
theorem bA (x:Option α):(qK x).eval look=x:=by cases x<;>rfl
theorem aL (b:Bool):(bY b).eval look=if b=true then some () else none:=by cases b<;>rfl
theorem iR (c:Bool)(x y:RdM α):(bif c then x else y).eval look=if c=true then x.eval look else y.eval look:=by cases c<;>rfl
end
def Vae (cf:Nat->List D->Option (List D))(ρ:List D)(g:Option (aM×Bool))(nv:Nat):Step->Prop
 | .prim p xs n => (gOn ρ g = true -> ∃ ds, p.run (xs.map (·.val ρ)) = some ds /\ ds.length = n /\ ∀ j d, ds[j]? = some d -> (aM.v (nv + j)).val ρ = d) /\
   (gOn ρ g=false->∀ j,j<n->(aM.v (nv+j)).val ρ=.undef)
 | .call f xs n olds => (gOn ρ g = true -> ∃ ds, cf f (xs.map (·.val ρ)) = some ds /\ ds.length = n /\ ∀ j d, ds[j]? = some d -> (aM.v (nv + j)).val ρ = d) /\
   (gOn ρ g=false->∀ j d,(List.replicate (n-olds.length) D.undef++olds.map (·.val ρ))[j]?=some d->(aM.v (nv+j)).val ρ=d)
def aQ (cf:Nat->List D->Option (List D))(ρ:List D)(g:Option (aM×Bool)):Nat->List Step->Prop
 |_,[]=>True
 |nv,s::r=>Vae cf ρ g nv s/\aQ cf ρ g (nv+s.n) r
structure yA (P:Program) (ti:Nat->Option TI):Prop where
 ok:∀ t i,ti t=some i->yB P t=some i
structure dQ (P:Program) (t:TypeId) (i:TI) (info:TypeInfo) (u:TypeDesc):Prop where
 info_:P.info? t=some info
 und:P.underlying t=some u
 cells:(flat P 12 t).map (·.map (qQ P))=some i.cells
 len:i.cells.length=i.size
 zero:Tao i.agg info.zero i.cells=true
 eq:i=Pbo P t info u i.cells
theorem bB {P:Program}{t:TypeId}{i:TI}(h:yB P t=some i):∃ info u,dQ P t i info u:=by
 unfold yB at h
 cases h1:P.info? t with
 |none=>rw[h1]at h;cases h
 | some info =>
  cases h2:P.underlying t with
  |none=>rw[h1,h2]at h;cases h
  | some u =>
   cases h3:(flat P 12 t).map (·.map (qQ P)) with
   |none=>rw[h1,h2,h3]at h;cases h
   | some cs =>
    rw[h1,h2,h3]at h
    dsimp only at h
    cases hb:(Nat.beq cs.length info.size&&Tao (Ja5 u) info.zero cs) with
    |false=>rw[hb]at h;cases h
    | true =>
     rw[hb]at h
     obtain rfl:=Option.some.inj h
     simp only[Qbq,Rbv]at hb
     exact⟨info,u,h1,h2,h3,hb.1,hb.2,rfl⟩
section
variable {P:Program} {t:TypeId} {i:TI} {info:TypeInfo} {u:TypeDesc}
theorem dQ.agg (h:dQ P t i info u):i.agg=Ja5 u:=by rw[h.eq];rfl
theorem dQ.size (h:dQ P t i info u):i.size=info.size:=by rw[h.eq];rfl
theorem dQ.elem (h:dQ P t i info u):i.elem=Ab0 u:=by rw[h.eq];rfl
theorem dQ.flds (h:dQ P t i info u):i.flds=Abn u:=by rw[h.eq];rfl
theorem dQ.bytes (h:dQ P t i info u):i.bytes=info.bytes:=by rw[h.eq];rfl
theorem dQ.ik (h:dQ P t i info u):i.ik=Mb9 u:=by rw[h.eq];rfl
theorem Pah (h:P.underlying t=some u)(w:World):(Go.isAgg t).run P w=.ok (Ja5 u) w:=by
 simp only[Go.isAgg,underlying,program,bind,pure,Sem.bind,Sem.run,h]
 cases u<;>rfl
theorem run_sizeOf (h:P.info? t=some info)(w:World):(Go.sizeOf t).run P w=.ok info.size w:=by
 simp only[Go.sizeOf,typeInfo,program,bind,pure,Sem.bind,Sem.run,h]
theorem run_underlying (h:P.underlying t=some u)(w:World):(Go.underlying t).run P w=.ok u w:=by
 simp only[underlying,program,bind,pure,Sem.bind,Sem.run,h]
theorem dQ.isAgg (h:dQ P t i info u)(w:World):(Go.isAgg t).run P w=.ok i.agg w:=by rw[Pah h.und,h.agg]
theorem dQ.sizeOf (h:dQ P t i info u)(w:World):(Go.sizeOf t).run P w=.ok i.size w:=by rw[run_sizeOf h.info_,h.size]
end
theorem D.beq0_eq {a b:D}(h:a.beq0 b=true):a=b:=by
 unfold D.beq0 at h
 split at h<;>first|cases h|skip
 ·simp only[Qbq,Nbd,decide_eq_true_eq]at h
  rw[h.1,h.2]
 ·simp only[beq_iff_eq]at h;rw[h]
 ·simp only[beq_iff_eq]at h;rw[h]
 ·simp only[Rbv]at h;rw[h]
 ·rfl
 ·rfl
theorem aM.beq0_eq {a b:aM}(h:a.beq0 b=true):a=b:=by
 unfold aM.beq0 at h
 split at h
 ·simp only[Rbv]at h;rw[h]
 ·rw[D.beq0_eq h]
 ·cases h
theorem Sav {g h:Option (aM×Bool)}(e:Hbr g h=true):g=h:=by
 unfold Hbr at e
 split at e
 ·rfl
 ·simp only[Qbq,beq_iff_eq]at e
  rw[aM.beq0_eq e.1,e.2]
 ·cases e
section
variable {P:Program} {E:Env} {F:bU} {σ:Nat->Option aU} {ρ:List D} {a:Act} {w:World} {G:Gh} {g:Option (aM×Bool)}
theorem Gbc (hg:gOn ρ g=true){v:SV}{u:Value}(h:dV σ ρ G w v u):dV σ ρ G w (unG g v) u:=by
 unfold unG
 split
 ·rename_i h' x
  cases e:Hbr g (some h') with
  |false=>exact h
  | true =>
   simp only[dV,aB,cond_true]at h ⊢
   exact h.2 (Sav e▸hg)
 ·exact h
theorem Taa {ti:Nat->Option TI}{t:TypeId}{v:Value}{sv:SV}(h:Tab ti t v=some sv):dV σ ρ G w sv v:=by
 unfold Tab at h
 split at h
 ·obtain rfl:=Option.some.inj h;exact .int _ _
 ·obtain rfl:=Option.some.inj h;exact .bool _
 ·obtain rfl:=Option.some.inj h
  rename_i s
  have:=Sc.str s.data.toList
  simpa[dV,aB,aM.val] using this
 ·split at h
  ·obtain rfl:=Option.some.inj h
   simp only[dV,aB]
   refine⟨⟨rfl,by simp⟩,fun _=>⟨?_,?_,trivial⟩⟩
   ·exact .rows none ⟨0,0,none⟩ 0 0 _ [] (fun _ _=>undef) rfl (Nat.le_refl _) (.inl rfl) (by simp) (by simp) (by simp)
   ·exact fun _ z _=>trivial
  ·cases h
 ·obtain rfl:=Option.some.inj h;rfl
 ·cases h
theorem iC (hR:R E.ntmps F σ ρ a w G)(hg:gOn ρ g=true){t:TypeId}{x:Operand}{sv:SV}(h:(Pap E g t x).eval σ=some sv):dV σ ρ G w sv (a.eval x):=by
 cases x with
 | tmp k =>
  simp only[Pap,Abt]at h
  split at h
  ·rename_i g' v hk
   rw[iR]at h
   split at h
   ·rename_i hb
    simp only[Qbq]at hb
    simp only[aC,Option.some.injEq]at h
    subst h
    refine Gbc hg ?_
    have hg':gOn ρ g'=true:=by
     cases g' with
     |none=>rfl
     |some z=>exact Sav hb.1▸hg
    have:=hR.slot hk hg'
    unfold Cab at this
    rw[if_pos (by simpa using hb.2)]at this
    exact this
   ·cases h
  ·cases h
 | const v =>
  simp only[Pap,bA]at h
  exact Taa h
 |global _=>cases h
 | func f =>
  simp only[Pap,aC,Option.some.injEq]at h
  subst h
  simp only[dV,aB]
  exact⟨[],rfl,by simp[aD]⟩
theorem gQ (hR:R E.ntmps F σ ρ a w G)(hg:gOn ρ g=true){t:TypeId}{x:Operand}{l:aW}(h:(rdL E g t x).eval σ=some l):aB σ ρ G w l (a.eval x):=by
 simp only[rdL,aA,Qbp]at h
 obtain⟨sv,h1,h2⟩:=h
 have:=iC hR hg h1
 unfold one at h2
 split at h2
 ·simp only[aC,Option.some.injEq]at h2
  subst h2
  exact this
 ·cases h2
theorem kL (hg:gOn ρ g=true){l:aW}{x:aM}{v:Value}(h:xS g l=some x)(hl:aB σ ρ G w l v):Sc v (x.val ρ):=by
 unfold xS at h
 split at h
 ·obtain rfl:=Option.some.inj h
  simpa[aB] using hl
 ·rename_i h' y
  cases e:Hbr g (some h') with
  |false=>rw[e]at h;cases h
  | true =>
   rw[e]at h
   obtain rfl:=Option.some.inj h
   simp only[aB]at hl
   exact hl.2 (Sav e▸hg)
 ·cases h
theorem jU (hR:R E.ntmps F σ ρ a w G)(hg:gOn ρ g=true){t:TypeId}{x:Operand}{y:aM}(h:(rdA E g t x).eval σ=some y):Sc (a.eval x) (y.val ρ):=by
 simp only[rdA,aA,Qbp,bA]at h
 obtain⟨l,h1,h2⟩:=h
 exact kL hg h2 (gQ hR hg h1)
end
end Go.Proofs.YtdpfilpckndhcaaGreatDoor.Rf

namespace Go.Proofs.YtdpfilpckndhcaaGreatDoor.Rf
set_option linter.unusedVariables false
set_option linter.unusedSimpArgs false
def Nx (n:Nat)(F:bU)(σ:Nat->Option aU)(ρ:List D)(u:List (Nat×aU))(a:Act)(w:World):Prop:=∃ G,R n F (upds σ u) ρ a w G
def gM (n:Nat)(o:Oper):Prop:=∀ d,o.dst=some d->d<n
section
variable {P:Program} {E:Env} {F:bU} {σ:Nat->Option aU} {ρ:List D} {a:Act} {w w':World} {G:Gh} {g:Option (aM×Bool)} {o:Oper} {cf:Nat->List D->Option (List D)} {Q:Exit->Act->World->Prop} {next:Act->World->Prop}
theorem qF {v:Value}(h:(execOp a.eval o).run P w=.ok (.value v) w')(hn:next (a.put o.dst v) w'):o.wp P a w next Q:=by
 unfold Oper.wp
 rw[h]
 exact hn
theorem Tap (h:(execOp a.eval o).run P w=.ok .skip w')(hn:next (a.put o.dst undef) w'):o.wp P a w next Q:=by
 unfold Oper.wp
 rw[h]
 exact hn
theorem Ma1 (hR:R E.ntmps F σ ρ a w G)(hd:gM E.ntmps o)(hg:gOn ρ g=true){v:Value}{nv:Nat}(h:(execOp a.eval o).run P w=.ok (.value v) w)
  (hv:Sc v ((aM.v nv).val ρ)):o.wp P a w (Nx E.ntmps F σ ρ (fB o none (mkS g (.v nv)))) Q:=by
 refine qF h ⟨G,hR.pure o hd none _ v fun _=>?_⟩
 cases g with
 |none=>exact hv
 | some z =>
  simp only[mkS,dV,aB]
  exact⟨.inl hv,fun _=>hv⟩
theorem Gb7 (hR:R E.ntmps F σ ρ a w G)(hd:gM E.ntmps o)(hg:gOn ρ g=false){nv:Nat}(hv:(aM.v nv).val ρ=.undef) :
  Nx E.ntmps F σ ρ (fB o none (mkS g (.v nv))) (a.put o.dst undef) w:=by
 refine⟨G,hR.pure o hd none _ undef fun _=>?_⟩
 cases g with
 |none=>cases hg
 | some z =>
  simp only[mkS,dV,aB]
  exact⟨.inr ⟨trivial,hv⟩,fun h=>by rw[h]at hg;cases hg⟩
theorem Lbw (hR:R E.ntmps F σ ρ a w G)(hd:gM E.ntmps o)(hg:gOn ρ g=false){sv:SV} :
  Nx E.ntmps F σ ρ (fB o g sv) (a.put o.dst undef) w:=⟨G,hR.pure o hd g _ undef fun h=>by rw[h]at hg;cases hg⟩
def iP (P:Program)(E:Env)(F:bU)(σ:Nat->Option aU)(ρ:List D)(a:Act)(w:World)(g:Option (aM×Bool))(o:Oper)(Q:Exit->Act->World->Prop)(u:List (Nat×aU)):Prop :=
 (gOn ρ g=true->o.wp P a w (Nx E.ntmps F σ ρ u) Q)/\(gOn ρ g=false->Nx E.ntmps F σ ρ u (a.put o.dst undef) w)
theorem step1 {p:aO}{xs:List aM}{nv n:Nat}(h:aQ cf ρ g nv [.prim p xs n])(hg:gOn ρ g=true) :
  ∃ ds,p.run (xs.map (·.val ρ))=some ds/\ds.length=n/\∀ j d,ds[j]?=some d->(aM.v (nv+j)).val ρ=d:=h.1.1 hg
theorem iB {p:aO}{xs:List aM}{nv:Nat}(h:aQ cf ρ g nv [.prim p xs 1])(hg:gOn ρ g=true) :
  ∃ d,p.run (xs.map (·.val ρ))=some [d]/\(aM.v nv).val ρ=d:=by
 obtain⟨ds,h1,h2,h3⟩:=step1 h hg
 match ds,h2 with
 |[d],_=>exact⟨d,h1,h3 0 d rfl⟩
theorem Haw {p:aO}{xs:List aM}{nv:Nat}(h:aQ cf ρ g nv [.prim p xs 1])(hg:gOn ρ g=false):(aM.v nv).val ρ=.undef:=h.1.2 hg 0 (by omega)
theorem Gae (o:Oper)(g:Option (aM×Bool))(v:SV):(match o.dst with|some d=>[(kT d,aU.slot g v)]|none=>[])=fB o g v:=rfl
theorem dY (hR:R E.ntmps F σ ρ a w G)(hd:gM E.ntmps o){nv:Nat}{p:aO}{xs:List aM}{res:dD}
  (h:(wO o g nv p xs).eval σ=some res) (hs:aQ cf ρ g nv res.lets)
  (hv:gOn ρ g=true->∀ d,p.run (xs.map (·.val ρ))=some [d]->∃ v,Sc v d/\(execOp a.eval o).run P w=.ok (.value v) w):iP P E F σ ρ a w g o Q res.upd:=by
 simp only[wO,aC,Option.some.injEq]at h
 subst h
 simp only[Gae]
 refine⟨fun hg=>?_,fun hg=>Gb7 hR hd hg (Haw hs hg)⟩
 obtain⟨d,h1,h2⟩:=iB hs hg
 obtain⟨v,h3,h4⟩:=hv hg d h1
 exact Ma1 hR hd hg h4 (h2▸h3)
theorem eH (hR:R E.ntmps F σ ρ a w G)(hd:gM E.ntmps o){lets:List Step}{sv:SV}{res:dD}{nv:Nat}
  (h:(wP o g lets sv []).eval σ=some res) (hs:aQ cf ρ g nv res.lets)
  (hv:gOn ρ g=true->aQ cf ρ g nv lets->∃ v,dV σ ρ G w sv v/\(execOp a.eval o).run P w=.ok (.value v) w):iP P E F σ ρ a w g o Q res.upd:=by
 simp only[wP,aC,Option.some.injEq]at h
 subst h
 simp only[Gae,Rbm]
 refine⟨fun hg=>?_,fun hg=>Lbw hR hd hg⟩
 obtain⟨v,h1,h2⟩:=hv hg hs
 exact qF h2 ⟨G,hR.pure o hd g _ v fun _=>h1⟩
theorem Aai (hR:R E.ntmps F σ ρ a w G)(hd:gM E.ntmps o){sv:SV}{res:dD}{nv:Nat}
  (h:(Zaj o g nv sv).eval σ=some res) (hs:aQ cf ρ g nv res.lets)
  (hv:gOn ρ g=true->∃ v,dV σ ρ G w sv v/\(execOp a.eval o).run P w=.ok (.value v) w):iP P E F σ ρ a w g o Q res.upd:=by
 unfold Zaj at h
 split at h
 ·rename_i z l
  split at h
  ·rename_i x hx
   refine dY hR hd h hs fun hg d hp=>?_
   obtain⟨v,h1,h2⟩:=hv hg
   simp only[aO.run,Rbh,Rbq,Option.some.injEq,List.cons.injEq,and_true]at hp
   exact⟨v,hp▸kL hg hx h1,h2⟩
  ·exact eH hR hd h hs fun hg _=>hv hg
 ·exact eH hR hd h hs fun hg _=>hv hg
theorem gX {s:Sem Value}{v:Value}(h:s.run P w=.ok v w'):(do pure (Next.value (<- s)):Sem Next).run P w=.ok (.value v) w':=by
 simp only[Sem.run_bind,h,Result.andThen_ok,Sem.run_pure]
theorem Kan (hR:R E.ntmps F σ ρ a w G)(hd:gM E.ntmps o){nv:Nat}{x:Operand}(ho:o.op=.move x\/o.op=.assign x){res:dD}
  (h:(do Zaj o g nv (<- Pap E g o.type x):RdM dD).eval σ=some res) (hs:aQ cf ρ g nv res.lets):iP P E F σ ρ a w g o Q res.upd:=by
 simp only[aA,Qbp]at h
 obtain⟨sv,h1,h2⟩:=h
 refine Aai hR hd h2 hs fun hg=>⟨a.eval x,iC hR hg h1,?_⟩
 rcases ho with ho|ho<;>(unfold execOp;rw[ho];rfl)
theorem Sc.int_inv {v:Value}{k:IntKind}{n:Int}(h:Sc v (.int k n)):v=.int k n:=by cases h;rfl
theorem Sc.bool_inv {v:Value}{b:Bool}(h:Sc v (.bool b)):v=.bool b:=by cases h;rfl
theorem Sc.str_inv {v:Value}{l:List UInt8}(h:Sc v (.str l)):v=.string ⟨l.toArray⟩:=by cases h;rfl
theorem Kay (hR:R E.ntmps F σ ρ a w G)(hg:gOn ρ g=true){z:aM×Bool}{t:TypeId}{x:Operand}{y:aM}(h:(Kaz E g z t x).eval σ=some y)(hz:gOn ρ (some z)=true):Sc (a.eval x) (y.val ρ):=by
 simp only[Kaz,aA,Qbp]at h
 obtain⟨l,h1,h2⟩:=h
 have hl:=gQ hR hg h1
 split at h2
 ·rename_i b hb
  simp only[aC,Option.some.injEq]at h2
  subst h2
  exact kL hg hb hl
 ·simp only[bA]at h2
  exact kL hz h2 hl
theorem Vay (hR:R E.ntmps F σ ρ a w G)(hd:gM E.ntmps o){nv:Nat}{c x y:Operand}(ho:o.op=.pick c x y){res:dD}
  (h:(do
   let c <- rdA E g 0 c
   let a <- Kaz E g (c,true) o.type x
   let b <- Kaz E g (c,false) o.type y
   wO o g nv .pick [c,a,b]:RdM dD).eval σ=some res) (hs:aQ cf ρ g nv res.lets):iP P E F σ ρ a w g o Q res.upd:=by
 simp only[aA,Qbp]at h
 obtain⟨c',h1,x',h2,y',h3,h4⟩:=h
 refine dY hR hd h4 hs fun hg d hp=>?_
 have hc:=jU hR hg h1
 simp only[Rbh,Rbq]at hp
 generalize hcv:c'.val ρ=cv at hp hc
 cases cv with
 | bool b =>
  simp only[aO.run,Option.some.injEq,List.cons.injEq,and_true]at hp
  have e:a.eval c=.bool b:=hc.bool_inv
  refine⟨if b then a.eval x else a.eval y,?_,?_⟩
  ·cases b with
   | true =>
    rw[if_pos rfl]at hp ⊢
    exact hp▸Kay hR hg h2 (by simp[gOn,hcv])
   | false =>
    simp only[Qbr,if_false]at hp ⊢
    exact hp▸Kay hR hg h3 (by simp[gOn,hcv])
  ·unfold execOp
   simp only[ho,e]
   simp only[asBool,Sem.run_bind,Sem.run_pure,Result.andThen_ok]
 |_=>simp[aO.run]at hp
theorem toList_mk (l:List UInt8):(⟨l.toArray⟩:ByteArray).toList=l:=by
 rw[ByteArray.toList_eq]
theorem size_mk (l:List UInt8):(⟨l.toArray⟩:ByteArray).size=l.length:=rfl
theorem Bbm (x y:List UInt8):(⟨x.toArray⟩:ByteArray)++(⟨y.toArray⟩:ByteArray)=⟨(x++y).toArray⟩:=by
 apply ByteArray.ext
 rw[ByteArray.data_append]
 simp
theorem Va4 {op:BinOp}{t:TypeId}{k k':IntKind}{x y:Int}{d:D}(h:Lal op (.int k x) (.int k' y)=some d) :
    ∃ v,Sc v d/\(binOp op t (.int k x) (.int k' y)).run P w=.ok v w:=by
  unfold Lal at h
  dsimp only at h
  cases op<;>dsimp only at h<;>first
    | (simp only [Xa3] at h
       split at h
       · cases h
       · rename_i hy
         obtain rfl:=Option.some.inj h
         exact⟨_,.int _ _,by simp[binOp,Op.shift,hy]⟩)
    | (split at h
       · rename_i hk
         subst hk
         simp only[zJ]at h
         first
         | (obtain rfl := Option.some.inj h
            first
            |exact⟨_,.int _ _,by simp[binOp,Op.intArith,Op.intBits]⟩
            |exact⟨_,.bool _,by simp[binOp,Op.intCmp]⟩)
         | (split at h
            · cases h
            · rename_i hy
              obtain rfl:=Option.some.inj h
              exact⟨_,.int _ _,by simp[binOp,Op.intDiv,hy]⟩)
         |cases h
       · cases h)
theorem Va3 {op:BinOp}{t:TypeId}{x y:List UInt8}{d:D}(h:Lal op (.str x) (.str y)=some d) :
    ∃ v,Sc v d/\(binOp op t (.string ⟨x.toArray⟩) (.string ⟨y.toArray⟩)).run P w=.ok v w:=by
  simp only[Lal,Ib9]at h
  have hmax:IntKind.i64.max=9223372036854775807:=by decide
  cases op<;>dsimp only at h<;>first
    | (obtain rfl := Option.some.inj h
       exact⟨_,.bool _,by simp[binOp,Op.stringOp,toList_mk]⟩)
    | (split at h
       · rename_i hl
         obtain rfl:=Option.some.inj h
         refine⟨_,.str _,?_⟩
         simp only[binOp,Op.stringOp,size_mk,Bbm,hmax]
         rw[if_neg (by omega)]
         rfl
       · cases h)
    |cases h
theorem Gb1 {op:BinOp}{t:TypeId}{vx vy:Value}{dx dy d:D}(hx:Sc vx dx)(hy:Sc vy dy)(h:Lal op dx dy=some d) :
  ∃ v,Sc v d/\(binOp op t vx vy).run P w=.ok v w:=by
 cases hx<;>cases hy<;>first|exact Va4 h|exact Va3 h|(simp[Lal]at h)
theorem Wap {op:BinOp}{t:TypeId}{x y:Operand}{vx vy:Value}{dx dy:D}(hx:Sc vx dx)(hy:Sc vy dy):(eqGuard op t x y vx vy).run P w=.ok () w:=by
 cases hx<;>cases hy<;>(unfold eqGuard;cases op<;>simp)
theorem Paa (hR:R E.ntmps F σ ρ a w G)(hd:gM E.ntmps o){nv:Nat}{op:BinOp}{t ty:TypeId}{x y:Operand}(ho:o.op=.binOp op t x y ty){res:dD}
  {x' y':aM} (h1:gOn ρ g=true->Sc (a.eval x) (x'.val ρ)) (h2:gOn ρ g=true->Sc (a.eval y) (y'.val ρ))
  (h:(wO o g nv (.bin op) [x',y']).eval σ=some res) (hs:aQ cf ρ g nv res.lets):iP P E F σ ρ a w g o Q res.upd:=by
 refine dY hR hd h hs fun hg d hp=>?_
 simp only[Rbh,Rbq,aO.run,Qb8,List.cons.injEq,and_true]at hp
 obtain⟨d',hp,rfl⟩:=hp
 obtain⟨v,h3,h4⟩:=Gb1 (P:=P) (w:=w) (t:=t) (h1 hg) (h2 hg) hp
 refine⟨v,h3,?_⟩
 unfold execOp
 simp only[ho]
 refine gX ?_
 rw[Sem.run_bind,Wap (h1 hg) (h2 hg)]
 exact h4
theorem Dbu (hR:R E.ntmps F σ ρ a w G)(hd:gM E.ntmps o){nv:Nat}{op:UnOp}{t:TypeId}{x:Operand}(ho:o.op=.unOp op t x){res:dD}
  (h:(do
   let a <- rdA E g 0 x
   match op with
   |.not=>wO o g nv .not [a]
   |.neg=>wO o g nv .neg [a]
   |.xor=>wO o g nv .inv [a]
   |_=>.no:RdM dD).eval σ=some res) (hs:aQ cf ρ g nv res.lets):iP P E F σ ρ a w g o Q res.upd:=by
 simp only[aA,Qbp]at h
 obtain⟨x',h1,h2⟩:=h
 split at h2
 ·refine dY hR hd h2 hs fun hg d hp=>?_
  have hx:=jU hR hg h1
  simp only[Rbh,Rbq]at hp
  generalize x'.val ρ=xv at hp hx
  cases xv<;>simp only[aO.run]at hp<;>first|cases hp|skip
  rename_i b
  exact⟨_,.bool _,by unfold execOp;simp only[ho,hx.bool_inv];rfl⟩
 ·refine dY hR hd h2 hs fun hg d hp=>?_
  have hx:=jU hR hg h1
  simp only[Rbh,Rbq]at hp
  generalize x'.val ρ=xv at hp hx
  cases xv<;>simp only[aO.run]at hp<;>first|cases hp|skip
  exact⟨_,.int _ _,by unfold execOp;simp only[ho,hx.int_inv];rfl⟩
 ·refine dY hR hd h2 hs fun hg d hp=>?_
  have hx:=jU hR hg h1
  simp only[Rbh,Rbq]at hp
  generalize x'.val ρ=xv at hp hx
  cases xv<;>simp only[aO.run,zJ,Rb5,Option.some.injEq,List.cons.injEq,and_true]at hp<;>first|cases hp|skip
  exact⟨_,.int _ _,by unfold execOp;simp only[ho,hx.int_inv];rfl⟩
 ·cases h2
theorem Va0 (hR:R E.ntmps F σ ρ a w G)(hd:gM E.ntmps o)(hti:yA P E.ti){nv:Nat}{src dst:TypeId}{x:Operand}(ho:o.op=.convert src dst x){res:dD}{s d:TI}{k:IntKind}
  (hs1:E.ti src=some s) (hs2:s.ik.isSome=true) (hd1:E.ti dst=some d) (hk:d.ik=some k) {x':aM} (h1:(rdA E g src x).eval σ=some x')
  (h:(wO o g nv (.conv k) [x']).eval σ=some res) (hs:aQ cf ρ g nv res.lets):iP P E F σ ρ a w g o Q res.upd:=by
 refine dY hR hd h hs fun hg e hp=>?_
 have hx:=jU hR hg h1
 simp only[Rbh,Rbq]at hp
 generalize x'.val ρ=xv at hp hx
 cases xv<;>simp only[aO.run]at hp<;>first|cases hp|skip
 rename_i k0 n
 obtain⟨i1,u1,f1⟩:=bB (hti.ok _ _ hs1)
 obtain⟨i2,u2,f2⟩:=bB (hti.ok _ _ hd1)
 have e2:u2=.int k:=by
  have:=f2.ik.symm.trans hk
  unfold Mb9 at this
  split at this
  ·rw[Option.some.inj this]
  ·cases this
 subst e2
 refine⟨_,.int _ _,?_⟩
 unfold execOp
 simp only[ho,hx.int_inv]
 refine gX ?_
 simp only[convert,Sem.run_bind,run_underlying f1.und,run_underlying f2.und,Result.andThen_ok]
 rfl
end
end Go.Proofs.YtdpfilpckndhcaaGreatDoor.Rf

namespace Go.Proofs.YtdpfilpckndhcaaGreatDoor.Rf
set_option linter.unusedVariables false
set_option linter.unusedSimpArgs false
section
variable {P:Program} {E:Env} {F:bU} {σ:Nat->Option aU} {ρ:List D} {a:Act} {w w':World} {G:Gh} {g:Option (aM×Bool)} {o:Oper} {cf:Nat->List D->Option (List D)} {Q:Exit->Act->World->Prop} {next:Act->World->Prop}
def Nah (σ:Nat->Option aU)(r k:Nat):Prop:=∃ m,Ea6 σ r k m
theorem jL:∀ {deps ds:List (Nat×Nat)},(yQ deps).eval σ=some ds ->
  (∀ z∈deps,qY σ z.1 z.2)/\(∀ z∈ds,z∈deps/\Nah σ z.1 z.2)/\∀ z∈deps,z∈ds\/∃ x m,σ (kR z.1)=some (.root x m z.2 .frozen)
 | [], ds, h => by
  simp only[yQ,aC,Option.some.injEq]at h
  subst h
  simp
 | (r, k) :: rest, ds, h => by
  simp only[yQ,aA,aV,Qb3]at h
  split at h
  ·rename_i x m ver st hk
   simp only[aA,Qbp]at h
   obtain⟨ds',h1,h2⟩:=h
   obtain⟨h3,h4,h5⟩:=jL h1
   split at h2
   ·rw[iR]at h2
    split at h2
    ·rename_i e
     simp only[Rbv]at e
     simp only[aC,Option.some.injEq]at h2
     subst h2 e
     refine⟨fun z hz=>?_,fun z hz=>⟨Qb2 _ (h4 z hz).1,(h4 z hz).2⟩,fun z hz=>?_⟩
     ·rcases List.mem_cons.1 hz with rfl|hz
      ·exact⟨x,m,.frozen,hk,.inr rfl⟩
      ·exact h3 z hz
     ·rcases List.mem_cons.1 hz with rfl|hz
      ·exact .inr ⟨x,m,hk⟩
      ·exact h5 z hz
    ·cases h2
   ·rw[iR]at h2
    split at h2
    ·rename_i e
     simp only[Rbv]at e
     simp only[aC,Option.some.injEq]at h2
     subst h2 e
     refine⟨fun z hz=>?_,fun z hz=>?_,fun z hz=>?_⟩
     ·rcases List.mem_cons.1 hz with rfl|hz
      ·exact⟨x,m,.live,hk,.inl rfl⟩
      ·exact h3 z hz
     ·rcases List.mem_cons.1 hz with rfl|hz
      ·exact⟨Qb7,m,x,hk⟩
      ·exact⟨Qb2 _ (h4 z hz).1,(h4 z hz).2⟩
     ·rcases List.mem_cons.1 hz with rfl|hz
      ·exact .inl Qb7
      ·exact (h5 z hz).imp (Qb2 _) id
    ·cases h2
   ·cases h2
  ·cases h
theorem Rd.drop (hR:R E.ntmps F σ ρ a w G){deps ds:List (Nat×Nat)}(h:∀ z∈deps,z∈ds\/∃ x m,σ (kR z.1)=some (.root x m z.2 .frozen)){v:Value}{d:D}
  (hv:Rd (allow G deps) w v d):Rd (allow G ds) w v d:=by
 refine hv.mono fun b hb=>⟨?_,rfl⟩
 rcases hb with hb|⟨r,k,p,hm,hb⟩
 ·exact .inl hb
 ·rcases h (r,k) hm with h1|⟨x,m,h1⟩
  ·exact .inr ⟨r,k,p,h1,hb⟩
  ·exact absurd hb ((hR.root h1).2 b p)
def xZ (σ:Nat->Option aU)(ρ:List D)(G:Gh)(w:World)(s:SlR)(v:Value):Prop :=
 match s.own with
 |none=>True
 | some (r, k, m, p) => s.deps = [(r, k)] /\ Ea6 σ r k m /\ match p with
  |.no=>True
  |.view=>Rp G.own w r [] m v (s.x.val ρ)
  |.suf sz lo=>Fb7 (G.hdr r) v sz (mO ρ lo)
  |.path q=>q.length<=m/\Rp G.own w r (bJ ρ q) (m-q.length) v (s.x.val ρ)/\Cae G.own w r [] (G.hdr r) (bJ ρ q) v
structure Wa6 (σ:Nat->Option aU) (ρ:List D) (G:Gh) (w:World) (s:SlR) (v:Value):Prop where
 rd:Rd (allow G s.deps) w v (s.x.val ρ)
 live:∀ z∈s.deps,Nah σ z.1 z.2
 nie:s.nie=true->∀ z,s.x.val ρ=.rows z []->v=.slice none 0 0
 own:xZ σ ρ G w s v
theorem fF (hR:R E.ntmps F σ ρ a w G){l:aW}{s:SlR}(h:(Aak l).eval σ=some s){v:Value}(hl:aB σ ρ G w l v):Wa6 σ ρ G w s v:=by
 unfold Aak at h
 split at h
 ·rename_i r
  simp only[aB]at hl
  simp only[aA,aV,Qb3]at h
  split at h
  ·rename_i x m ver hk
   simp only[aC,Option.some.injEq]at h
   subst h
   have hr:=hR.root hk
   simp only[dJ]at hr
   rw[<- hl.1]at hr
   refine⟨hr.rd.mono fun b hb=>⟨hb.imp id fun ⟨q,hq⟩=>⟨r,ver,q,by simp,hq⟩,rfl⟩,?_,by simp,?_⟩
   ·intro z hz
    simp only[Qb6]at hz
    subst hz
    exact⟨m,x,hk⟩
   ·refine⟨rfl,⟨x,hk⟩,Nat.zero_le _,by simpa[bJ] using hr,?_⟩
    simp only[bJ,Rbq,Cae]
    exact hl.1
  ·rename_i x m ver hk
   simp only[aC,Option.some.injEq]at h
   subst h
   have hr:=(hR.root hk).1
   rw[<- hl.1]at hr
   exact⟨hr.mono fun b hb=>⟨.inl hb,rfl⟩,by simp,by simp,trivial⟩
  ·cases h
 ·rename_i deps p nie x
  simp only[aB]at hl
  simp only[aA,Qbp]at h
  obtain⟨ds,h1,h2⟩:=h
  obtain⟨h3,h4,h5⟩:=jL h1
  obtain⟨h6,h7,h8⟩:=hl.2 h3
  have h9:=h6.drop hR h5
  split at h2
  ·simp only[aC,Option.some.injEq]at h2
   subst h2
   exact⟨h9,fun z hz=>(h4 z hz).2,h7,trivial⟩
  ·rename_i r k z hne
   simp only[aA,aV,Qb3]at h2
   split at h2
   ·rename_i x' m ver hk
    simp only[aC,Option.some.injEq]at h2
    subst h2
    have hz:=(h4 z (by simp)).1
    simp only[Qb6]at hz
    subst hz
    have hlv:Nah σ r k:=(h4 (r,k) (by simp)).2
    obtain⟨m',x'',hk'⟩:=hlv
    rw[hk]at hk'
    obtain⟨rfl,rfl,rfl⟩:x'=x''/\m=m'/\ver=k:=by injection hk' with hk';injection hk' with a b c d;exact⟨a,b,c⟩
    refine⟨h9,fun z hz=>(h4 z hz).2,h7,rfl,⟨x',hk⟩,?_⟩
    cases p with
    |no=>trivial
    |view=>exact h8 r ver m rfl ⟨x',hk⟩
    |path q=>exact h8 r ver m rfl ⟨x',hk⟩
    |suf sz lo=>exact h8 r ver m rfl ⟨x',hk⟩
   ·cases h2
  ·simp only[aC,Option.some.injEq]at h2
   subst h2
   exact⟨h9,fun z hz=>(h4 z hz).2,h7,trivial⟩
 ·cases h
theorem Rd.inv {ok:Nat->Prop}{v:Value}{sz:Nat}{rs:List (List D)}(h:Rd ok w v (.rows sz rs)) :
  ∃ (A:Option Addr) (a:Addr) (n c:Nat) (vs:Nat->Nat->Value),v=.slice A n c/\rs.length=n/\n<=c/\(n=0\/A=some a)/\(∀ r∈rs,r.length=sz) /\
   (∀ i r,rs[i]?=some r->∀ j d,r[j]?=some d->ok a.block/\w.cell? (a.add (i*sz+j))=some (vs i j)) /\
   (∀ i r,rs[i]?=some r->∀ j d,r[j]?=some d->Rd ok w (vs i j) d):=by
 cases h with
 |sc h=>cases h
 |rows A a n c sz rs vs hn hc hA hsz hcell hrec=>exact⟨A,a,n,c,vs,rfl,hn,hc,hA,hsz,hcell,hrec⟩
theorem uA {t:TypeId}{i:TI}{info:TypeInfo}{u:TypeDesc}{e:Nat}(f:dQ P t i info u)(h:i.elem=some e):u=.slice e:=by
 have:=f.elem.symm.trans h
 unfold Ab0 at this
 split at this
 ·rw[Option.some.inj this]
 ·cases this
theorem Ia0 {t:TypeId}{i:TI}{info:TypeInfo}{u:TypeDesc}(f:dQ P t i info u)(h:i.elem.isSome=true):∃ e,u=.slice e:=by
 cases e:i.elem with
 |none=>rw[e]at h;cases h
 |some e'=>exact⟨e',uA f e⟩
theorem Eap {t:TypeId}{i:TI}{info:TypeInfo}{u:TypeDesc}(f:dQ P t i info u)(h:i.isStr=true):u=.string:=by
 have:Za6 u=true:=by rw[<- h,f.eq];rfl
 unfold Za6 at this
 split at this
 ·rfl
 ·cases this
theorem Naz {t:TypeId}{i:TI}{info:TypeInfo}{u:TypeDesc}(f:dQ P t i info u){k off ft:Nat}(h:i.flds[k]?=some (off,ft)) :
  ∃ fs fd,u=.struct fs/\fs[k]?=some fd/\fd.offset=off/\fd.type=ft:=by
 rw[f.flds]at h
 unfold Abn at h
 split at h
 ·rename_i fs
  simp only[Rbu,Qb8,Prod.mk.injEq]at h
  obtain⟨fd,h1,h2,h3⟩:=h
  exact⟨fs,fd,rfl,by simpa using h1,h2,h3⟩
 ·simp at h
theorem Na8 {α:Type}{as:Array α}{x:α}(h:as.toList=[x]):as=#[x]:=by
 apply Ubh
 simpa using h
theorem Fba {α:Type}{as:Array α}{x y:α}(h:as.toList=[x,y]):as=#[x,y]:=by
 apply Ubh
 simpa using h
theorem oC {b:Builtin}{args:Array Operand}{argTypes:Array TypeId}{s:Sem Value}{v:Value}(ho:o.op=.call { callee:=.builtin b,args,argTypes })
  (hb:∀ consts,builtin b argTypes o.type consts (args.map a.eval)=(do pure (.value (<- s)))) (h:s.run P w=.ok v w'):(execOp a.eval o).run P w=.ok (.value v) w':=by
 unfold execOp
 simp only[ho,resolve,Sem.run_bind,Sem.run_pure,Result.andThen_ok,invoke,hb]
 rw[h]
 rfl
theorem Sao {α γ:Type}(f:α->γ)(x:α):Array.map f #[x]=#[f x]:=by simp
theorem Gb8 {α γ:Type}(f:α->γ)(x y:α):Array.map f #[x,y]=#[f x,f y]:=by simp
theorem Sad {t ty:TypeId}{argTypes:Array TypeId}(ht:argTypes[0]?=some t)(hu:P.underlying t=some .string)(s:ByteArray) :
  (Builtin.len_ argTypes ty #[.string s]).run P w=.ok (.int .i64 s.size) w:=by
 simp[Builtin.len_,ht,run_underlying hu,goInt]
theorem run_len_slice {t ty e:TypeId}{argTypes:Array TypeId}(ht:argTypes[0]?=some t)(hu:P.underlying t=some (.slice e))(A:Option Addr)(n c:Nat) :
  (Builtin.len_ argTypes ty #[.slice A n c]).run P w=.ok (.int .i64 n) w:=by
 simp[Builtin.len_,ht,run_underlying hu,goInt]
theorem Xaz (hR:R E.ntmps F σ ρ a w G)(hd:gM E.ntmps o)(hti:yA P E.ti){nv:Nat}{args:Array Operand}{argTypes:Array TypeId}
  (ho:o.op=.call { callee:=.builtin .len,args,argTypes }) {x:Operand} (hx:args.toList=[x]) {t:TypeId} (ht:argTypes[0]?=some t) {ti:TI} (hi:E.ti t=some ti) {res:dD}
  (h:(do
   let l <- rdL E g t x
   match xS g l with
   | some a => do
    bY ti.isStr
    wO o g nv .slen [a]
   | none => do
    bY ti.elem.isSome
    let s <- Aak l
    wO o g nv .len [s.x]:RdM dD).eval σ=some res) (hs:aQ cf ρ g nv res.lets):iP P E F σ ρ a w g o Q res.upd:=by
 obtain⟨info,u,f⟩:=bB (hti.ok _ _ hi)
 simp only[aA,Qbp]at h
 obtain⟨l,h1,h2⟩:=h
 split at h2
 ·rename_i y hy
  simp only[aA,aL,Qbp]at h2
  obtain⟨_,h3,h4⟩:=h2
  split at h3
  ·rename_i hstr
   obtain rfl:=Eap f hstr
   refine dY hR hd h4 hs fun hg d hp=>?_
   have hv:=kL hg hy (gQ hR hg h1)
   simp only[Rbh,Rbq]at hp
   generalize y.val ρ=yv at hp hv
   cases yv<;>simp only[aO.run]at hp<;>first|cases hp|skip
   rename_i s
   refine⟨_,.int _ _,oC ho (fun _=>rfl) ?_⟩
   have e:=Sad (P:=P) (w:=w) (ty:=o.type) ht f.und ⟨s.toArray⟩
   rw[<- hv.str_inv]at e
   rw[Na8 hx,Sao]
   exact e
  ·cases h3
 ·rename_i hy
  simp only[aA,aL,Qbp]at h2
  obtain⟨_,h3,s,h4,h5⟩:=h2
  split at h3
  ·rename_i hel
   obtain⟨e,rfl⟩:=Ia0 f hel
   refine dY hR hd h5 hs fun hg d hp=>?_
   have hv:=(fF hR h4 (gQ hR hg h1)).rd
   simp only[Rbh,Rbq]at hp
   generalize s.x.val ρ=yv at hp hv
   cases yv<;>simp only[aO.run]at hp<;>first|cases hp|skip
   rename_i sz rs
   obtain⟨A,b,n,c,vs,e1,e2,-⟩:=hv.inv
   refine⟨_,.int _ _,oC ho (fun _=>rfl) ?_⟩
   have e:=run_len_slice (P:=P) (w:=w) (ty:=o.type) ht f.und A n c
   rw[<- e1]at e
   rw[Na8 hx,e2,Sao]
   exact e
  ·cases h3
theorem aD.len {ls:List aW}:∀ {vs:List Value},aD σ ρ G w ls vs->vs.length=ls.length:=by
 induction ls with
 |nil=>intro vs h;simp only[aD]at h;simp[h]
 | cons l ls ih =>
  intro vs h
  simp only[aD]at h
  obtain⟨u,us,rfl,_,h2⟩:=h
  simp[ih h2]
theorem aD.get {ls:List aW}:∀ {vs:List Value} {i:Nat} {l:aW},aD σ ρ G w ls vs->ls[i]?=some l->∃ v,vs[i]?=some v/\aB σ ρ G w l v:=by
 induction ls with
 |nil=>intro vs i l h hi;simp at hi
 | cons l0 ls ih =>
  intro vs i l h hi
  simp only[aD]at h
  obtain⟨u,us,rfl,h1,h2⟩:=h
  cases i with
  | zero =>
   simp only[Qb4,Option.some.injEq]at hi
   subst hi
   exact⟨u,rfl,h1⟩
  | succ i =>
   simp only[Rbz]at hi ⊢
   exact ih h2 hi
theorem aD.of_get {ls:List aW}:∀ {vs:List Value},vs.length=ls.length->(∀ (i:Nat) (l:aW) (v:Value),ls[i]?=some l->vs[i]?=some v->aB σ ρ G w l v)->aD σ ρ G w ls vs:=by
 induction ls with
 |nil=>intro vs h _;simp only[aD];exact Rbx h
 | cons l0 ls ih =>
  intro vs h hg
  cases vs with
  |nil=>simp at h
  | cons u us =>
   simp only[aD]
   exact⟨u,us,rfl,hg 0 l0 u rfl rfl,ih (by simpa using h) fun i l v hi hv=>hg (i+1) l v hi hv⟩
theorem aD.drop {ls:List aW}{vs:List Value}(k:Nat)(h:aD σ ρ G w ls vs):aD σ ρ G w (ls.drop k) (vs.drop k):=by
 refine .of_get (by simp[h.len]) fun i l v hi hv=>?_
 rw[Rb4]at hi hv
 obtain⟨v',h1,h2⟩:=h.get hi
 rw[h1]at hv
 exact Option.some.inj hv▸h2
theorem aD.take {ls:List aW}{vs:List Value}(k:Nat)(h:aD σ ρ G w ls vs):aD σ ρ G w (ls.take k) (vs.take k):=by
 refine .of_get (by simp[h.len]) fun i l v hi hv=>?_
 rw[Sbb]at hi hv
 split at hi
 ·rename_i hk
  rw[if_pos hk]at hv
  obtain⟨v',h1,h2⟩:=h.get hi
  rw[h1]at hv
  exact Option.some.inj hv▸h2
 ·cases hi
theorem vY {agg:Bool}{ls:List aW}{sv:SV}(h:Ta0 agg ls=some sv){vs:List Value}(hl:aD σ ρ G w ls vs){v:Value}
  (hv:if agg=true then v=.agg vs.toArray else vs=[v]):dV σ ρ G w sv v:=by
 unfold Ta0 at h
 cases agg with
 | true =>
  simp only[cond_true,Option.some.injEq]at h
  subst h
  exact⟨vs,by simpa using hv,hl⟩
 | false =>
  simp only[cond_false]at h
  split at h
  ·simp only[Option.some.injEq]at h
   subst h
   simp only[Qbr,if_false]at hv
   subst hv
   simp only[aD]at hl
   obtain⟨u,us,e,h1,-⟩:=hl
   obtain⟨rfl,-⟩:=List.cons.inj e
   exact h1
  ·cases h
theorem Ra4 (hR:R E.ntmps F σ ρ a w G)(hd:gM E.ntmps o)(hti:yA P E.ti){nv:Nat}{t:TypeId}{x:Operand}{k:Nat}(ho:o.op=.field t x k){ti fi:TI}{off ft:Nat}
  (hi:E.ti t=some ti) (hf:ti.flds[k]?=some (off,ft)) (hfi:E.ti ft=some fi) {res:dD}
  (h:(do
   match <- Pap E g t x with
   | .agg ls => do
    bY (Nat.ble (off+fi.size) ls.length&&Nat.beq ls.length ti.size)
    match Ta0 fi.agg ((ls.drop off).take fi.size) with
    |some v=>Zaj o g nv v
    |none=>.no
   |_=>.no:RdM dD).eval σ=some res) (hs:aQ cf ρ g nv res.lets):iP P E F σ ρ a w g o Q res.upd:=by
 obtain⟨info,u,f⟩:=bB (hti.ok _ _ hi)
 obtain⟨info',u',f'⟩:=bB (hti.ok _ _ hfi)
 obtain⟨fs,fd,rfl,h1,rfl,rfl⟩:=Naz f hf
 simp only[aA,Qbp]at h
 obtain⟨sv,h2,h3⟩:=h
 split at h3
 ·rename_i ls
  simp only[aA,aL,Qbp]at h3
  obtain⟨_,h4,h5⟩:=h3
  split at h4
  ·rename_i hb
   simp only[Qbq,Rb8]at hb
   split at h5
   ·rename_i sv' hsv
    refine Aai hR hd h5 hs fun hg=>?_
    obtain⟨vs,e,hl⟩:=iC hR hg h2
    have hl':=(hl.drop fd.offset).take fi.size
    have hlen:=hl.len
    have hrun:∀ v,(if fi.agg=true then v=.agg ((vs.drop fd.offset).take fi.size).toArray else (vs.drop fd.offset).take fi.size=[v]) ->
      (execOp a.eval o).run P w=.ok (.value v) w:=by
     intro v hv
     unfold execOp
     simp only[ho]
     refine gX ?_
     simp only[Instr.field,Sem.run_bind,run_underlying f.und,Result.andThen_ok,h1,e,asAgg,Sem.run_pure,part,f'.isAgg,f'.sizeOf]
     cases hag:fi.agg with
     | true =>
      rw[hag]at hv
      simp only[if_true]at hv ⊢
      rw[hv]
      simp only[Sem.run_bind,f'.sizeOf,Result.andThen_ok,Sem.run_pure]
      congr 2
      apply Ubh
      simp[List.extract_eq_take_drop]
     | false =>
      rw[hag]at hv
      simp only[Qbr,if_false]at hv ⊢
      have:vs[fd.offset]?=some v:=by
       have h0:((vs.drop fd.offset).take fi.size)[0]?=some v:=by rw[hv];rfl
       rw[Sbb]at h0
       split at h0
       ·rw[Rb4]at h0;simpa using h0
       ·cases h0
      simp[this]
    cases hag:fi.agg with
    | true =>
     refine⟨.agg ((vs.drop fd.offset).take fi.size).toArray,vY hsv hl' (by rw[hag];rfl),hrun _ (by rw[hag];rfl)⟩
    | false =>
     have hl1:((ls.drop fd.offset).take fi.size).length=1:=by
      rw[hag]at hsv
      unfold Ta0 at hsv
      simp only[cond_false]at hsv
      split at hsv
      ·rename_i l hl1;rw[hl1];rfl
      ·cases hsv
     have hv1:((vs.drop fd.offset).take fi.size).length=1:=by rw[hl'.len,hl1]
     obtain⟨v,hv⟩:=List.length_eq_one_iff.1 hv1
     exact⟨v,vY hsv hl' (by rw[hag];exact hv),hrun _ (by rw[hag];exact hv)⟩
   ·cases h5
  ·cases h4
 ·cases h3
theorem jQ.get:∀ {ts:List (Bool×List aW)} {us:List Value} {i:Nat} {ag:Bool} {ls:List aW},jQ σ ρ G w ts us->ts[i]?=some (ag,ls) ->
  ∃ u vs,us[i]?=some u/\aD σ ρ G w ls vs/\(if ag=true then u=.agg vs.toArray else vs=[u])
 |[],_,_,_,_,_,h=>by simp at h
 | (a0, l0) :: r, us, i, ag, ls, ht, h => by
  obtain⟨u,us',vs,rfl,h1,h2,h3⟩:=ht
  cases i with
  | zero =>
   simp only[Qb4,Option.some.injEq,Prod.mk.injEq]at h
   obtain⟨rfl,rfl⟩:=h
   exact⟨u,vs,rfl,h1,h2⟩
  | succ i =>
   simp only[Rbz]at h ⊢
   exact jQ.get h3 h
theorem Ma0 (hR:R E.ntmps F σ ρ a w G)(hd:gM E.ntmps o){nv:Nat}{x:Operand}{i:Nat}(ho:o.op=.extract x i){res:dD}
  (h:(do
   match <- Pap E g 0 x with
   | .tup vs => match vs[i]? with
    | some (a, ls) => match Ta0 a ls with
     |some v=>Zaj o g nv v
     |none=>.no
    |none=>.no
   |_=>.no:RdM dD).eval σ=some res) (hs:aQ cf ρ g nv res.lets):iP P E F σ ρ a w g o Q res.upd:=by
 simp only[aA,Qbp]at h
 obtain⟨sv,h2,h3⟩:=h
 split at h3
 ·rename_i ts
  split at h3
  ·rename_i ag ls hi
   split at h3
   ·rename_i v hv
    refine Aai hR hd h3 hs fun hg=>?_
    obtain⟨us,e,ht⟩:=iC hR hg h2
    obtain⟨u,vs,h4,h5,h6⟩:=ht.get hi
    refine⟨u,vY hv h5 h6,?_⟩
    unfold execOp
    simp only[ho]
    refine gX ?_
    simp[Instr.extract,e,h4]
   ·cases h3
  ·cases h3
 ·cases h3
theorem Ha0 (hR:R E.ntmps F σ ρ a w G)(hd:gM E.ntmps o)(hti:yA P E.ti){nv:Nat}{t:TypeId}{x:Operand}{k:Nat}(ho:o.op=.fieldAddr t x k){ti fi:TI}{off ft:Nat}
  (hi:E.ti t=some ti) (hf:ti.flds[k]?=some (off,ft)) (hfi:E.ti ft=some fi) (hpos:0<fi.size) {res:dD}
  (h:(do Ray o g off (<- rdL E g 0 x):RdM dD).eval σ=some res) (hs:aQ cf ρ g nv res.lets):iP P E F σ ρ a w g o Q res.upd:=by
 obtain⟨info,u,f⟩:=bB (hti.ok _ _ hi)
 obtain⟨info',u',f'⟩:=bB (hti.ok _ _ hfi)
 obtain⟨fs,fd,rfl,h1,rfl,rfl⟩:=Naz f hf
 simp only[aA,Qbp]at h
 obtain⟨l,h2,h3⟩:=h
 have hrun:∀ b:Addr,a.eval x=.pointer (some b)->(execOp a.eval o).run P w=.ok (.value (.pointer (some (b.add fd.offset)))) w:=by
  intro b hb
  unfold execOp
  simp only[ho]
  refine gX ?_
  have hne:¬ fi.size=0:=by omega
  simp only[Instr.fieldAt,Sem.run_bind,run_underlying f.und,Result.andThen_ok,h1,Instr.sureAddr,hb,Sem.run_pure,fieldPlace,f'.sizeOf,if_neg hne]
 unfold Ray at h3
 split at h3
 ·rename_i b off
  refine eH hR hd h3 hs fun hg _=>?_
  have hl:=gQ hR hg h2
  simp only[aB]at hl
  refine⟨_,?_,hrun _ hl.1⟩
  simp only[dV,aB]
  exact⟨by rw[add_add],hl.2⟩
 ·rename_i l' sz i off
  refine eH hR hd h3 hs fun hg _=>?_
  have hl:=gQ hR hg h2
  simp only[aB]at hl
  obtain⟨b,n,c,k',iv,h4,h5,h6,h7,h8⟩:=hl
  refine⟨_,?_,hrun _ h8⟩
  simp only[dV,aB]
  exact⟨b,n,c,k',iv,h4,h5,h6,h7,by rw[add_add,Rbi]⟩
 ·cases h3
end
end Go.Proofs.YtdpfilpckndhcaaGreatDoor.Rf

namespace Go.Proofs.YtdpfilpckndhcaaGreatDoor.Rf
set_option linter.unusedVariables false
set_option linter.unusedSimpArgs false
section
variable {P:Program} {E:Env} {F:bU} {σ:Nat->Option aU} {ρ:List D} {a:Act} {w w':World} {G:Gh} {g:Option (aM×Bool)} {o:Oper} {cf:Nat->List D->Option (List D)} {Q:Exit->Act->World->Prop} {next:Act->World->Prop}
theorem Haz (hR:R E.ntmps F σ ρ a w G)(hd:gM E.ntmps o)(hti:yA P E.ti){nv:Nat}{t:TypeId}{x i:Operand}(ho:o.op=.indexAddr t x i){ti ei:TI}{e:Nat}
  (hi:E.ti t=some ti) (he:ti.elem=some e) (hei:E.ti e=some ei) {res:dD}
  (h:(do
   let l <- rdL E g t x
   let s <- Aak l
   let a <- rdA E g 0 i
   bY (Nat.blt 0 ei.size)
   wP o g [.prim .inb [s.x,a] 0] (.one (.pe l ei.size a 0)) []:RdM dD).eval σ=some res) (hs:aQ cf ρ g nv res.lets):iP P E F σ ρ a w g o Q res.upd:=by
 obtain⟨info,u,f⟩:=bB (hti.ok _ _ hi)
 obtain⟨info',u',f'⟩:=bB (hti.ok _ _ hei)
 obtain rfl:=uA f he
 simp only[aA,Qbp,aL]at h
 obtain⟨l,h1,s,h2,y,h3,_,h4,h5⟩:=h
 refine eH hR hd h5 hs fun hg hst=>?_
 obtain⟨ds,hp,-,-⟩:=step1 hst hg
 have hl:=gQ hR hg h1
 have hsl:=(fF hR h2 hl).rd
 have hy:=jU hR hg h3
 simp only[Rbh,Rbq]at hp
 generalize hxv:s.x.val ρ=xv at hp hsl
 generalize hyv:y.val ρ=yv at hp hy
 cases xv<;>cases yv<;>simp only[aO.run]at hp<;>first|cases hp|skip
 rename_i sz rs k iv
 split at hp
 ·rename_i hb
  obtain⟨A,b,n,c,vs,e1,e2,e3,e4,-⟩:=hsl.inv
  have hn:n≠0:=by omega
  have hA:A=some b:=e4.resolve_left hn
  subst hA
  refine⟨.pointer (some (b.add (iv.toNat*ei.size+0))),?_,?_⟩
  ·simp only[dV,aB]
   exact⟨b,n,c,k,iv,e1▸hl,hyv,hb.1,by omega,rfl⟩
  ·unfold execOp
   simp only[ho]
   refine gX ?_
   have hlt:(0:Int)<=iv/\iv<(n:Int):=⟨hb.1,by rw[<- e2];exact hb.2⟩
   simp only[Instr.indexAt,hy.int_inv,asIntOf,Sem.run_bind,Sem.run_pure,Result.andThen_ok,run_underlying f.und,e1,if_pos hlt,f'.sizeOf,Nat.add_zero]
 ·cases hp
theorem Ra3 (hR:R E.ntmps F σ ρ a w G)(hd:gM E.ntmps o)(hti:yA P E.ti){nv:Nat}{t:TypeId}{x i:Operand}(ho:o.op=.index t x i){ti:TI}
  (hi:E.ti t=some ti) {res:dD}
  (h:(do
   bY ti.isStr
   let s <- rdA E g t x
   let a <- rdA E g 0 i
   wO o g nv .sidx [s,a]:RdM dD).eval σ=some res) (hs:aQ cf ρ g nv res.lets):iP P E F σ ρ a w g o Q res.upd:=by
 obtain⟨info,u,f⟩:=bB (hti.ok _ _ hi)
 simp only[aA,Qbp,aL]at h
 obtain⟨_,h0,x',h1,y,h2,h3⟩:=h
 split at h0
 ·rename_i hst
  obtain rfl:=Eap f hst
  refine dY hR hd h3 hs fun hg d hp=>?_
  have hx:=jU hR hg h1
  have hy:=jU hR hg h2
  simp only[Rbh,Rbq]at hp
  generalize x'.val ρ=xv at hp hx
  generalize y.val ρ=yv at hp hy
  cases xv<;>cases yv<;>simp only[aO.run]at hp<;>first|cases hp|skip
  rename_i s k iv
  split at hp
  ·rename_i h0i
   split at hp
   ·rename_i b hb
    simp only[Option.some.injEq,List.cons.injEq,and_true]at hp
    subst hp
    refine⟨_,.int _ _,?_⟩
    unfold execOp
    simp only[ho]
    refine gX ?_
    have e:(⟨s.toArray⟩:ByteArray)[iv.toNat]?=some b:=by
     have:iv.toNat<s.length:=by
      rcases Rbj iv.toNat s.length with h|h
      ·exact h
      ·rw[Sb4 h]at hb;cases hb
     rw[getElem?_pos (⟨s.toArray⟩:ByteArray) iv.toNat (by simpa[ByteArray.size] using this)]
     rw[Qbz this]at hb
     rw[<- hb]
     rfl
    simp only[Instr.index,hy.int_inv,hx.str_inv,asIntOf,Sem.run_bind,Sem.run_pure,Result.andThen_ok,run_underlying f.und,if_pos h0i,e]
   ·cases hp
  ·cases hp
 ·cases h0
theorem Aal (hR:R E.ntmps F σ ρ a w G)(hg:gOn ρ g=true):∀ {xs:List Operand} {ts:List TypeId} {svs:List SV},(Bad E g xs ts).eval σ=some svs ->
  svs.length=xs.length/\∀ (i:Nat) (sv:SV) (x:Operand),svs[i]?=some sv->xs[i]?=some x->dV σ ρ G w sv (a.eval x)
 | [], ts, svs, h => by
  simp only[Bad,aC,Option.some.injEq]at h
  subst h
  simp
 | x :: xs, ts, svs, h => by
  simp only[Bad,aA,Qbp,aC,Option.some.injEq]at h
  obtain⟨sv,h1,l,h2,rfl⟩:=h
  obtain⟨h3,h4⟩:=Aal hR hg h2
  refine⟨by simp[h3],fun i sv' x' hi hx=>?_⟩
  cases i with
  | zero =>
   simp only[Qb4,Option.some.injEq]at hi hx
   subst hi hx
   exact iC hR hg h1
  | succ i =>
   simp only[Rbz]at hi hx
   exact h4 i sv' x' hi hx
theorem Ea3:∀ {svs:List SV} {ls:List aW},xV svs=some ls->ls.length=svs.length/\∀ (i:Nat) (l:aW),ls[i]?=some l->svs[i]?=some (.one l)
 | [], ls, h => by
  simp only[xV,Option.some.injEq]at h
  subst h
  simp
 | .one l :: r, ls, h => by
  simp only[xV,Qb8]at h
  obtain⟨m,h1,rfl⟩:=h
  obtain⟨h2,h3⟩:=Ea3 h1
  refine⟨by simp[h2],fun i l' hi=>?_⟩
  cases i with
  |zero=>simp only[Qb4,Option.some.injEq]at hi ⊢;rw[hi]
  |succ i=>simp only[Rbz]at hi ⊢;exact h3 i l' hi
 |.dead::_,_,h=>by simp[xV]at h
 |.agg _::_,_,h=>by simp[xV]at h
 |.tup _::_,_,h=>by simp[xV]at h
theorem Jaw (hR:R E.ntmps F σ ρ a w G)(hd:gM E.ntmps o){nv:Nat}{fn:FuncId}{first caps:Array Operand}(ho:o.op=.makeFunc (.func fn) first caps){res:dD}
  (h:(do
   bY first.isEmpty
   let vs <- Bad E g caps.toList []
   let ls <- qK (xV vs)
   wP o g [] (.one (.clo fn ls)) []:RdM dD).eval σ=some res) (hs:aQ cf ρ g nv res.lets):iP P E F σ ρ a w g o Q res.upd:=by
 simp only[aA,Qbp,aL,bA]at h
 obtain⟨_,h0,svs,h1,ls,h1',h2⟩:=h
 split at h0
 ·rename_i hf
  refine eH hR hd h2 hs fun hg _=>⟨.func (.func fn) #[] (caps.map a.eval),?_,?_⟩
  ·obtain⟨h3,h4⟩:=Aal hR hg h1
   simp only[dV,aB]
   obtain⟨h5,h6⟩:=Ea3 h1'
   refine⟨caps.toList.map a.eval,by rw[<- Array.toList_map,Array.toArray_toList],.of_get (by simp[h3,h5]) fun i l v hi hv=>?_⟩
   simp only[Rbu,Qb8]at hv
   obtain⟨x,hv,rfl⟩:=hv
   exact h4 i _ x (h6 i l hi) hv
  ·unfold execOp
   simp only[ho]
   refine gX ?_
   have:first=#[]:=by simpa using hf
   subst this
   simp[Instr.makeFunc]
 ·cases h0
theorem Jav (hR:R E.ntmps F σ ρ a w G)(hd:gM E.ntmps o){nv:Nat}{x:Operand}(ho:o.op=.nilCheck x){res:dD}
  (h:(do
   match <- rdL E g 0 x with
   | .rp deps sz y => do
    let ds <- yQ deps
    wP o g [.prim .ne [y] 0] (.one (.pe (.sn ds .no false y) sz (.c (.int .i64 0)) 0)) []
   |.px b off=>wP o g [] (.one (.px b off)) []
   |.pe l sz i off=>wP o g [] (.one (.pe l sz i off)) []
   |.clo f cs=>wP o g [] (.one (.clo f cs)) []
   |.pn=>wP o g [.prim .ne [.c (.rows 0 [])] 0] (.one (.pe (.sn [] .no false (.c (.rows 0 []))) 0 (.c (.int .i64 0)) 0)) []
   |_=>.no:RdM dD).eval σ=some res) (hs:aQ cf ρ g nv res.lets):iP P E F σ ρ a w g o Q res.upd:=by
 simp only[aA,Qbp]at h
 obtain⟨l,h1,h2⟩:=h
 have hptr:∀ b,a.eval x=.pointer (some b)->(execOp a.eval o).run P w=.ok (.value (.pointer (some b))) w:=by
  intro b hb
  unfold execOp
  simp only[ho,hb]
  rfl
 split at h2
 ·rename_i deps sz y
  simp only[aA,Qbp]at h2
  obtain⟨ds,h3,h4⟩:=h2
  refine eH hR hd h4 hs fun hg hst=>?_
  obtain⟨zs,hp,-,-⟩:=step1 hst hg
  have hl:=gQ hR hg h1
  simp only[aB]at hl
  obtain⟨hv1,hv2,hv3⟩:=jL h3
  rcases hl.2 hv1 with ⟨e1,z,e2⟩|⟨b,row,e1,e2,e3⟩
  ·simp only[Rbh,Rbq,e2,aO.run]at hp
   simp at hp
  ·refine⟨.pointer (some b),?_,hptr b e1⟩
   simp only[dV,aB]
   refine⟨b,1,1,.i64,0,⟨⟨rfl,fun z hz=>hl.1.2 z (hv2 z hz).1⟩,fun _=>⟨?_,by simp,trivial⟩⟩,rfl,by omega,by simp,by simp[Addr.add]⟩
   rw[e2]
   exact e3.drop hR hv3
 ·rename_i b off
  refine eH hR hd h2 hs fun hg _=>?_
  have hl:=gQ hR hg h1
  have hl':=hl
  simp only[aB]at hl'
  exact⟨_,hl,by rw[hl'.1];exact hptr _ hl'.1⟩
 ·rename_i l' sz i off
  refine eH hR hd h2 hs fun hg _=>?_
  have hl:=gQ hR hg h1
  have hl':=hl
  simp only[aB]at hl'
  obtain⟨b,n,c,k,iv,-,-,-,-,e⟩:=hl'
  exact⟨_,hl,by rw[e];exact hptr _ e⟩
 ·rename_i f cs
  refine eH hR hd h2 hs fun hg _=>?_
  have hl:=gQ hR hg h1
  have hl':=hl
  simp only[aB]at hl'
  obtain⟨vs,e,-⟩:=hl'
  refine⟨_,hl,?_⟩
  unfold execOp
  simp only[ho,e]
  rfl
 ·refine eH hR hd h2 hs fun hg hst=>?_
  obtain⟨zs,hp,-,-⟩:=step1 hst hg
  simp[aM.val,aO.run]at hp
 ·cases h2
theorem Dby {op:BinOp}{x y:Value}{dx dy d:D}(hx:Sc x dx)(hy:Sc y dy)(h:Lbz op dx dy=some d)(hop:op=.lss\/op=.gtr) :
  ∃ v,Sc v d/\(if op=.lss then Builtin.min2 x y else Builtin.max2 x y).run P w=.ok v w:=by
 unfold Lbz at h
 split at h
 ·rename_i k x' k' y'
  rw[hx.int_inv,hy.int_inv]
  split at h
  ·rename_i hk
   subst hk
   obtain rfl:=Option.some.inj h
   refine⟨_,.int _ _,?_⟩
   rcases hop with rfl|rfl
   ·simp[Builtin.min2]
   ·simp[Builtin.max2]
  ·cases h
 ·cases h
theorem Ta9 {op:BinOp}(hop:op=.lss\/op=.gtr):∀ {vs:List Value} {ds:List D} {x:Value} {dx d:D},Sc x dx->vs.length=ds.length->(∀ (i:Nat) (v:Value) (e:D),vs[i]?=some v->ds[i]?=some e->Sc v e) ->
  Nay op dx ds=some d->∃ v,Sc v d/\(vs.foldlM (fun a b=>if op=.lss then Builtin.min2 a b else Builtin.max2 a b) x).run P w=.ok v w
 | [], ds, x, dx, d, hx, hl, _, h => by
  obtain rfl:ds=[]:=Rbx (by simpa using hl.symm)
  simp only[Nay,Option.some.injEq]at h
  subst h
  exact⟨x,hx,rfl⟩
 | v :: vs, ds, x, dx, d, hx, hl, hg, h => by
  cases ds with
  |nil=>simp at hl
  | cons e es =>
   simp only[Nay,Qbp]at h
   obtain⟨z,h1,h2⟩:=h
   obtain⟨u,h3,h4⟩:=Dby (P:=P) (w:=w) hx (hg 0 v e rfl rfl) h1 hop
   obtain⟨r,h5,h6⟩:=Ta9 hop (vs:=vs) (ds:=es) h3 (by simpa using hl) (fun i v' e' hi he=>hg (i+1) v' e' hi he) h2
   refine⟨r,h5,?_⟩
   rw[List.foldlM_cons,Sem.run_bind,h4]
   exact h6
theorem Lan (hg:gOn ρ g=true):∀ {ls:List aW} {xs:List aM},Jah g ls=some xs->xs.length=ls.length /\
  ∀ (i:Nat) (l:aW) (x:aM) (v:Value),ls[i]?=some l->xs[i]?=some x->aB σ ρ G w l v->Sc v (x.val ρ)
 | [], xs, h => by
  simp only[Jah,Option.some.injEq]at h
  subst h
  simp
 | l :: ls, xs, h => by
  simp only[Jah,Qbp,Qb8]at h
  obtain⟨x,h1,ys,h2,rfl⟩:=h
  obtain⟨h3,h4⟩:=Lan hg h2
  refine⟨by simp[h3],fun i l' x' v hi hx hl=>?_⟩
  cases i with
  | zero =>
   simp only[Qb4,Option.some.injEq]at hi hx
   subst hi hx
   exact kL hg h1 hl
  | succ i =>
   simp only[Rbz]at hi hx
   exact h4 i l' x' v hi hx hl
theorem jA (hR:R E.ntmps F σ ρ a w G)(hd:gM E.ntmps o){nv:Nat}{args:Array Operand}{argTypes:Array TypeId}{b:Builtin}{p:aO}{op:BinOp}
  (hb:(b=.min/\p=.min/\op=.lss)\/(b=.max/\p=.max/\op=.gtr))
  (ho:o.op=.call { callee:=.builtin b,args,argTypes }) {svs:List SV} {ts:List TypeId} {ls:List aW} {xs:List aM} {res:dD}
  (h1:(Bad E g args.toList ts).eval σ=some svs) (h2:xV svs=some ls) (h3:Jah g ls=some xs)
  (h:(wO o g nv p xs).eval σ=some res) (hs:aQ cf ρ g nv res.lets):iP P E F σ ρ a w g o Q res.upd:=by
 refine dY hR hd h hs fun hg d hp=>?_
 obtain⟨h4,h5⟩:=Aal hR hg h1
 obtain⟨h6,h7⟩:=Ea3 h2
 obtain⟨h8,h9⟩:=Lan (σ:=σ) (ρ:=ρ) (G:=G) (w:=w) hg h3
 have hall:∀ (i:Nat) (v:Value) (e:D),(args.toList.map a.eval)[i]?=some v->(xs.map (·.val ρ))[i]?=some e->Sc v e:=by
  intro i v e hv he
  simp only[Rbu,Qb8]at hv he
  obtain⟨x,hx,rfl⟩:=hv
  obtain⟨y,hy,rfl⟩:=he
  have hlt:i<ls.length:=by
   rw[<- h8]
   exact (List.getElem?_eq_some_iff.1 hy).1
  have hl:ls[i]?=some ls[i]:=Qbz hlt
  exact h9 i _ y _ hl hy (h5 i _ x (h7 i _ hl) hx)
 have hlen:(args.toList.map a.eval).length=(xs.map (·.val ρ)).length:=by
  simp only[Rbf]
  omega
 generalize hvs:args.toList.map a.eval=vs at hall hlen
 generalize hes:xs.map (·.val ρ)=es at hall hlen hp
 have hargs:args.map a.eval=vs.toArray:=by
  apply Ubh
  simpa using hvs
 cases es with
 |nil=>rcases hb with ⟨-,rfl,-⟩ | ⟨-,rfl,-⟩<;>simp[aO.run]at hp
 | cons e es =>
  cases vs with
  |nil=>simp at hlen
  | cons v vs =>
   have hf:Nay op e es=some d:=by
    rcases hb with ⟨-,rfl,rfl⟩|⟨-,rfl,rfl⟩<;>simpa[aO.run] using hp
   obtain⟨r,h10,h11⟩:=Ta9 (P:=P) (w:=w) (op:=op) (by rcases hb with ⟨-,-,rfl⟩|⟨-,-,rfl⟩<;>simp) (hall 0 v e rfl rfl) (by simpa using hlen)
    (fun i v' e' hi he=>hall (i+1) v' e' hi he) hf
   refine⟨r,h10,?_⟩
   rcases hb with ⟨rfl,rfl,rfl⟩|⟨rfl,rfl,rfl⟩
   ·refine oC ho (s:=Builtin.min_ argTypes o.type (args.map a.eval)) (fun _=>rfl) ?_
    rw[hargs]
    simpa[Builtin.min_] using h11
   ·refine oC ho (s:=Builtin.max_ argTypes o.type (args.map a.eval)) (fun _=>rfl) ?_
    rw[hargs]
    simpa[Builtin.max_] using h11
end
end Go.Proofs.YtdpfilpckndhcaaGreatDoor.Rf

namespace Go.Proofs.YtdpfilpckndhcaaGreatDoor.Rf
set_option linter.unusedVariables false
set_option linter.unusedSimpArgs false
section
variable {P:Program} {E:Env} {F:bU} {σ:Nat->Option aU} {ρ:List D} {a:Act} {w w':World} {G:Gh} {g:Option (aM×Bool)} {o:Oper} {cf:Nat->List D->Option (List D)} {Q:Exit->Act->World->Prop} {next:Act->World->Prop}
def Scs (vs:List Value)(ds:List D):Prop:=vs.length=ds.length/\∀ (i:Nat) (v:Value) (d:D),vs[i]?=some v->ds[i]?=some d->Sc v d
theorem Scs.drop {vs:List Value}{ds:List D}(h:Scs vs ds)(k:Nat):Scs (vs.drop k) (ds.drop k) :=
 ⟨by simp[h.1],fun i v d hv hd=>by rw[Rb4]at hv hd;exact h.2 _ v d hv hd⟩
theorem Scs.take {vs:List Value}{ds:List D}(h:Scs vs ds)(k:Nat):Scs (vs.take k) (ds.take k) :=
 ⟨by simp[h.1],fun i v d hv hd=>by
  rw[Sbb]at hv hd
  split at hv
  ·rename_i hk
   rw[if_pos hk]at hd
   exact h.2 _ v d hv hd
  ·cases hv⟩
theorem Iaz:∀ {ks ls:List Nat} {a b c d:List D},a.length=ks.length->b.length=ks.length->∀ {r:Bool},Ral (ks++ls) (a++c) (b++d)=some r ->
  ∃ r1,Ral ks a b=some r1/\(r1=true->Ral ls c d=some r)/\(r1=false->r=false)
 |[],ls,[],[],c,d,_,_,r,h=>⟨true,rfl,fun _=>h,fun h=>by cases h⟩
 | k :: ks, ls, x :: a, y :: b, c, d, h1, h2, r, h => by
  simp only[Sbk,Ral,Qbp]at h
  obtain⟨e,h3,h4⟩:=h
  cases e with
  | true =>
   simp only[if_true]at h4
   obtain⟨r1,h5,h6,h7⟩:=Iaz (by simpa using h1) (by simpa using h2) h4
   exact⟨r1,by simp[Ral,h3,h5],h6,h7⟩
  | false =>
   simp only[Qbr,if_false,Option.some.injEq]at h4
   exact⟨false,by simp[Ral,h3],(fun h=>by cases h),fun _=>h4.symm⟩
 |[],_,_::_,_,_,_,h,_,_,_=>by simp at h
 |[],_,[],_::_,_,_,_,h,_,_=>by simp at h
 |_::_,_,[],_,_,_,h,_,_,_=>by simp at h
 |_::_,_,_::_,[],_,_,_,h,_,_=>by simp at h
theorem Mbd (l m:List UInt8):((⟨l.toArray⟩:ByteArray)==⟨m.toArray⟩)=(l==m):=by
 have:((⟨l.toArray⟩:ByteArray)==⟨m.toArray⟩)=(l.toArray==m.toArray):=rfl
 rw[this]
 simp
theorem Qbl {x y:D}{r:Bool}(h:eqD 0 x y=some r):∃ k i j,x=.int k i/\y=.int k j/\r=(i==j):=by
 cases x<;>cases y<;>simp only[eqD]at h<;>first|cases h|skip
 split at h
 ·rename_i e
  subst e
  exact⟨_,_,_,rfl,rfl,(Option.some.inj h).symm⟩
 ·cases h
theorem Qbk {x y:D}{r:Bool}(h:eqD 1 x y=some r):∃ i j,x=.bool i/\y=.bool j/\r=(i==j):=by
 cases x<;>cases y<;>simp only[eqD]at h<;>first|(cases h;done)|skip
 exact⟨_,_,rfl,rfl,(Option.some.inj h).symm⟩
theorem Qbj {x y:D}{r:Bool}(h:eqD 2 x y=some r):∃ i j,x=.str i/\y=.str j/\r=(i==j):=by
 cases x<;>cases y<;>simp only[eqD]at h<;>first|(cases h;done)|skip
 exact⟨_,_,rfl,rfl,(Option.some.inj h).symm⟩
theorem Ob9 {x y:D}{r:Bool}(h:eqD 3 x y=some r):False:=by
 cases x<;>cases y<;>simp[eqD]at h
theorem Ob8 {t:TypeId}{x y:Value}{dx dy:D}{b:Bool}(hx:Sc x dx)(hy:Sc y dy)(h:eqD (Fa9 (qQ P t)) dx dy=some b)(n:Nat):(Op.equalIn (n+1) t x y).run P w=.ok b w:=by
 unfold qQ at h
 split at h
 ·rename_i k hu
  obtain⟨k1,i,j,rfl,rfl,rfl⟩:=Qbl h
  simp[Op.equalIn,run_underlying hu,hx.int_inv,hy.int_inv]
 ·rename_i hu
  obtain⟨i,j,rfl,rfl,rfl⟩:=Qbk h
  simp[Op.equalIn,run_underlying hu,hx.bool_inv,hy.bool_inv]
 ·rename_i hu
  obtain⟨l,m,rfl,rfl,rfl⟩:=Qbj h
  simp only[Op.equalIn,run_underlying hu,hx.str_inv,hy.str_inv,Sem.run_bind,Result.andThen_ok,Sem.run_pure]
  rw[Mbd]
 ·exact (Ob9 h).elim
 ·exact (Ob9 h).elim
 ·exact (Ob9 h).elim
def uL (P:Program)(t:TypeId)(vs:List Value)(v:Value):Prop:=match P.underlying t with
 |some (.struct _)=>v=.agg vs.toArray
 |_=>vs=[v]
theorem Qaj (P:Program)(d:Nat):∀ (fs:List Field) (acc l:List TypeId),fs.foldl (fun acc f=>acc.bind fun l=>(flat P d f.type).bind fun m=>bif Nat.beq f.offset l.length then some (l++m) else none) (some acc)=some l ->
  ∃ ls,l=acc++ls/\(∀ f r,fs=f::r->∃ m,flat P d f.type=some m/\f.offset=acc.length/\∃ ls',ls=m++ls'/\r.foldl (fun acc f=>acc.bind fun l=>(flat P d f.type).bind fun m=>bif Nat.beq f.offset l.length then some (l++m) else none) (some (acc++m))=some l)/\(fs=[]->ls=[])
 | [], acc, l, h => by
  simp only[List.foldl_nil,Option.some.injEq]at h
  exact⟨[],by simp[h],by simp,fun _=>rfl⟩
 | f :: r, acc, l, h => by
  simp only[List.foldl_cons,Qb3]at h
  cases hm:flat P d f.type with
  | none =>
   rw[hm]at h
   simp only[Option.bind_none]at h
   have:∀ (r:List Field),r.foldl (fun acc f=>acc.bind fun l=>(flat P d f.type).bind fun m=>bif Nat.beq f.offset l.length then some (l++m) else none) (none:Option (List TypeId))=none:=by
    intro r
    induction r with
    |nil=>rfl
    |cons _ _ ih=>simpa using ih
   rw[this]at h
   cases h
  | some m =>
   rw[hm]at h
   simp only[Qb3]at h
   cases ho:Nat.beq f.offset acc.length with
   | false =>
    rw[ho]at h
    simp only[cond_false]at h
    have:∀ (r:List Field),r.foldl (fun acc f=>acc.bind fun l=>(flat P d f.type).bind fun m=>bif Nat.beq f.offset l.length then some (l++m) else none) (none:Option (List TypeId))=none:=by
     intro r
     induction r with
     |nil=>rfl
     |cons _ _ ih=>simpa using ih
    rw[this]at h
    cases h
   | true =>
    rw[ho]at h
    simp only[cond_true]at h
    obtain⟨ls,h1,-,-⟩:=Qaj P d r (acc++m) l h
    refine⟨m++ls,by rw[h1,List.append_assoc],fun f' r' e=>?_,by simp⟩
    obtain⟨rfl,rfl⟩:=List.cons.inj e
    exact⟨m,hm,by simpa using ho,ls,rfl,h⟩
theorem xP {α:Type}(l:List α)(k m:Nat):(l.drop k).take m++l.drop (k+m)=l.drop k:=by
 rw[<- Tb4,List.take_append_drop]
theorem Da4 {t:TypeId}{d:Nat}{m:List TypeId}(hm:flat P d t=some m)(hs:Mb5 P d t=true)(hc:Na5 P d t=true){vs:List Value}{off:Nat}(hl:off+m.length<=vs.length) :
  ∃ v,uL P t ((vs.drop off).take m.length) v/\(part t vs.toArray off).run P w=.ok v w:=by
 unfold Mb5 at hs
 rw[hm]at hs
 cases hi:P.info? t with
 |none=>rw[hi]at hs;cases hs
 | some i =>
  rw[hi]at hs
  simp only[Rbv]at hs
  cases d with
  |zero=>cases hc
  | succ d =>
   simp only[Na5]at hc
   simp only[flat]at hm
   cases hu:P.underlying t with
   |none=>rw[hu]at hm;cases hm
   | some u =>
    unfold uL
    rw[hu]at hc hm ⊢
    simp only[part,Sem.run_bind,Pah hu,Result.andThen_ok,run_sizeOf hi,Sem.run_ite]
    cases u<;>first|(cases hc;done)|skip
    case struct fs =>
     refine⟨_,rfl,?_⟩
     simp only[Ja5,if_true,Sem.run_bind,run_sizeOf hi,Result.andThen_ok,Sem.run_pure,<- hs]
     congr 2
     apply Ubh
     simp[List.extract_eq_take_drop]
    all_goals
     simp only[Option.some.injEq]at hm
     subst hm
     have hlt:off<vs.length:=by simp only[Sbf]at hl;omega
     refine⟨vs[off],?_,?_⟩
     ·simp only[Sbf]
      rw[List.drop_eq_getElem_cons hlt]
      rfl
     ·simp[Ja5,Qbz hlt]
theorem Iay (P:Program)(w:World):∀ (d:Nat) (t:TypeId) (l:List TypeId),Na5 P d t=true->flat P d t=some l->∀ (xs ys:List Value) (dx dy:List D) (b:Bool) (x y:Value),
  Scs xs dx->Scs ys dy->xs.length=l.length->ys.length=l.length->uL P t xs x->uL P t ys y->Ral (l.map fun t=>Fa9 (qQ P t)) dx dy=some b ->
  ∀ n,d<=n->(Op.equalIn n t x y).run P w=.ok b w
 |0,t,l,hc,_=>by cases hc
 | d + 1, t, l, hc, hf => by
  intro xs ys dx dy b x y hx hy hlx hly hox hoy he n hn
  obtain⟨n,rfl⟩:∃ m,n=m+1:=⟨n-1,by omega⟩
  have hsingle:(∀ fs,P.underlying t≠some (.struct fs))->flat P (d+1) t=some [t]->(Op.equalIn (n+1) t x y).run P w=.ok b w:=by
   intro hns hft
   rw[hf]at hft
   obtain rfl:=Option.some.inj hft
   have h1:xs=[x]:=by
    unfold uL at hox
    split at hox
    ·rename_i fs hu;exact absurd hu (hns fs)
    ·exact hox
   have h2:ys=[y]:=by
    unfold uL at hoy
    split at hoy
    ·rename_i fs hu;exact absurd hu (hns fs)
    ·exact hoy
   subst h1 h2
   match dx,dy,hx.1,hy.1 with
   | [dx], [dy], _, _ =>
    simp only[Rbh,Rbq,Ral,Qbp]at he
    obtain⟨e,h3,h4⟩:=he
    have:e=b:=by cases e<;>simpa using h4
    subst this
    exact Ob8 (hx.2 0 x dx rfl rfl) (hy.2 0 y dy rfl rfl) h3 n
  simp only[Na5]at hc
  simp only[flat]at hf
  cases hu:P.underlying t with
  |none=>rw[hu]at hc;cases hc
  | some u =>
   rw[hu]at hc hf
   cases u<;>first|(cases hc;done)|skip
   case struct fs =>
    simp only[Qbq,Rbe,Rbg]at hc
    obtain⟨hstood,hall⟩:=hc
    have hx':x=.agg xs.toArray:=by unfold uL at hox;rw[hu]at hox;exact hox
    have hy':y=.agg ys.toArray:=by unfold uL at hoy;rw[hu]at hoy;exact hoy
    subst hx' hy'
    have hfs:P.fieldsOf t=fs:=by simp[Program.fieldsOf,hu]
    rw[run_equalIn_struct (P:=P) w n t _ _ (by rw[hfs];exact hu) hstood,hfs]
    dsimp only at hf
    generalize hgl:fs.toList=gs at hf hall
    have key : ∀ (gs : List Field) (acc : List TypeId) (b : Bool), (∀ f ∈ gs, (f.name != "_") = true /\ Na5 P d f.type = true /\ Mb5 P d f.type = true) ->
      gs.foldl (fun acc f=>acc.bind fun l=>(flat P d f.type).bind fun m=>bif Nat.beq f.offset l.length then some (l++m) else none) (some acc)=some l ->
      Ral ((l.drop acc.length).map fun t=>Fa9 (qQ P t)) (dx.drop acc.length) (dy.drop acc.length)=some b ->
      (Op.eqFields n xs.toArray ys.toArray gs).run P w=.ok b w:=by
     intro gs
     induction gs with
     | nil =>
      intro acc b _ hfold hq
      simp only[List.foldl_nil,Option.some.injEq]at hfold
      subst hfold
      have e1:dx.drop acc.length=[]:=List.drop_of_length_le (by rw[<- hx.1];omega)
      have e2:dy.drop acc.length=[]:=List.drop_of_length_le (by rw[<- hy.1];omega)
      simp only[List.drop_length,Rbq,e1,e2,Ral,Option.some.injEq]at hq
      subst hq
      simp[Op.eqFields]
     | cons f r ih =>
      intro acc b hok hfold hq
      obtain⟨ls,e1,h1,-⟩:=Qaj P d (f::r) acc l hfold
      obtain⟨m,hm,hoff,ls',e2,hfold'⟩:=h1 f r rfl
      obtain⟨hname,hcm,hsz⟩:=hok f Qb7
      have hlen:acc.length+m.length<=l.length:=by rw[e1,e2];simp
      have hdl:l.drop acc.length=m++ls':=by rw[e1,e2];simp
      rw[hdl,Tbt]at hq
      rw[<- xP dx acc.length m.length,<- xP dy acc.length m.length]at hq
      have hl1:((dx.drop acc.length).take m.length).length=(m.map fun t=>Fa9 (qQ P t)).length:=by
       simp only[Qb9,Rbn,Rbf,<- hx.1];omega
      have hl2:((dy.drop acc.length).take m.length).length=(m.map fun t=>Fa9 (qQ P t)).length:=by
       simp only[Qb9,Rbn,Rbf,<- hy.1];omega
      obtain⟨r1,h2,h3,h4⟩:=Iaz hl1 hl2 hq
      obtain⟨vx,hvx,hpx⟩:=Da4 (w:=w) hm hsz hcm (vs:=xs) (off:=acc.length) (by omega)
      obtain⟨vy,hvy,hpy⟩:=Da4 (w:=w) hm hsz hcm (vs:=ys) (off:=acc.length) (by omega)
      have heq:=Iay P w d f.type m hcm hm _ _ _ _ r1 vx vy ((hx.drop _).take _) ((hy.drop _).take _) (by simp only[Qb9,Rbn];omega)
       (by simp only[Qb9,Rbn];omega) hvx hvy h2 n (by omega)
      have hname' : f.name ≠ "_" := by simpa using hname
      rw[Op.eqFields]
      simp only[if_pos hname',Sem.run_bind,hoff,hpx,hpy,heq,Result.andThen_ok]
      cases r1 with
      | false =>
       obtain rfl:=h4 rfl
       simp
      | true =>
       have:=ih (acc++m) b (fun f' hf'=>hok f' (Qb2 _ hf')) hfold' (by
        rw[List.length_append,<- Tb4,hdl]
        simpa using h3 rfl)
       simpa using this
    exact key gs [] b (fun f hf'=>by
     have:=hall f hf'
     exact⟨this.1.1,this.1.2,this.2⟩) hf (by simpa using he)
   all_goals exact hsingle (by intro fs e;rw[hu]at e;cases e) (by simp[flat,hu])
theorem Jag:∀ {ls:List aW} {xs:List aM} {vs:List Value},atoms ls=some xs->aD σ ρ G w ls vs->Scs vs (xs.map (·.val ρ))/\xs.length=ls.length
 | [], xs, vs, h, hl => by
  simp only[atoms,Option.some.injEq]at h
  simp only[aD]at hl
  subst h hl
  exact⟨⟨rfl,by simp⟩,rfl⟩
 | l :: ls, xs, vs, h, hl => by
  cases l<;>simp only[atoms]at h<;>first|(cases h;done)|skip
  simp only[Qb8]at h
  obtain⟨ys,h1,rfl⟩:=h
  simp only[aD]at hl
  obtain⟨u,us,rfl,h2,h3⟩:=hl
  obtain⟨⟨h4,h5⟩,h6⟩:=Jag h1 h3
  refine⟨⟨by simpa using h4,fun i v d hv hd=>?_⟩,by simp[h6]⟩
  cases i with
  | zero =>
   simp only[Qb4,Rbh,Option.some.injEq]at hv hd
   subst hv hd
   simpa[aB] using h2
  | succ i =>
   simp only[Rbh,Rbz]at hv hd
   exact h5 i v d hv hd
theorem Ha1 (hR:R E.ntmps F σ ρ a w G)(hd:gM E.ntmps o){nv:Nat}{p:aO}{xs:List aM}{neg:Bool}{op:BinOp}{t ty:TypeId}{x y:Operand}
  (ho:o.op=.binOp op t x y ty) (hop:op=if neg then .neq else .eql) {res:dD}
  (h:(RdM.ret ⟨[.prim p xs 1]++(bif neg then [.prim .not [.v nv] 1] else []),match o.dst with|some d=>[(kT d,aU.slot none (mkS g (.v (bif neg then nv+1 else nv))))]|none=>[]⟩:RdM dD).eval σ=some res)
  (hs:aQ cf ρ g nv res.lets)
  (hv:gOn ρ g=true->∀ d,p.run (xs.map (·.val ρ))=some [d]->∃ b,d=.bool b/\(eqGuard op t x y (a.eval x) (a.eval y)).run P w=.ok () w /\
   (binOp op t (a.eval x) (a.eval y)).run P w=.ok (.bool (if neg then !b else b)) w):iP P E F σ ρ a w g o Q res.upd:=by
 simp only[aC,Option.some.injEq]at h
 subst h
 simp only[Gae]
 cases neg with
 | false =>
  simp only[cond_false,Rbm]at hs ⊢
  refine⟨fun hg=>?_,fun hg=>Gb7 hR hd hg (Haw hs hg)⟩
  obtain⟨d,h1,h2⟩:=iB hs hg
  obtain⟨b,rfl,h3,h4⟩:=hv hg d h1
  refine Ma1 hR hd hg (v:=.bool b) ?_ (by rw[h2];exact .bool _)
  unfold execOp
  simp only[ho]
  refine gX ?_
  rw[Sem.run_bind,h3]
  exact h4
 | true =>
  simp only[cond_true]at hs ⊢
  have hs1:aQ cf ρ g nv [.prim p xs 1]:=⟨hs.1,trivial⟩
  have hs2:aQ cf ρ g (nv+1) [.prim .not [.v nv] 1]:=⟨hs.2.1,trivial⟩
  refine⟨fun hg=>?_,fun hg=>Gb7 hR hd hg (Haw hs2 hg)⟩
  obtain⟨d,h1,h2⟩:=iB hs1 hg
  obtain⟨e,h5,h6⟩:=iB hs2 hg
  obtain⟨b,rfl,h3,h4⟩:=hv hg d h1
  simp only[Rbh,Rbq,h2,aO.run,Option.some.injEq,List.cons.injEq,and_true]at h5
  subst h5
  refine Ma1 hR hd hg (v:=.bool (!b)) ?_ (by rw[h6];exact .bool _)
  unfold execOp
  simp only[ho]
  refine gX ?_
  rw[Sem.run_bind,h3]
  exact h4
theorem Cay {neg:Bool}{op:BinOp}(hop:op=if neg then .neq else .eql){t:TypeId}{x y:Value}{b:Bool}(h:(Op.equal t x y).run P w=.ok b w)
  (hx:∀ k n,x≠.int k n) (hs:∀ s,x≠.string s) (hf:∀ k b,x≠.float k b) (hc:∀ k r i,x≠.complex k r i):(binOp op t x y).run P w=.ok (.bool (if neg then !b else b)) w:=by
 cases neg with
 | false =>
  simp only[Qbr,if_false]at hop
  subst hop
  unfold binOp
  cases x<;>first
   |exact absurd rfl (hx _ _)
   |exact absurd rfl (hs _)
   |exact absurd rfl (hf _ _)
   |exact absurd rfl (hc _ _ _)
   |(cases y<;>simp[h])
 | true =>
  simp only[if_true]at hop
  subst hop
  unfold binOp
  cases x<;>first
   |exact absurd rfl (hx _ _)
   |exact absurd rfl (hs _)
   |exact absurd rfl (hf _ _)
   |exact absurd rfl (hc _ _ _)
   |(cases y<;>simp[h])
theorem qO {op:BinOp}{t:TypeId}{x y:Operand}{u v:Value}(h1:u≠.nilIface)(h2:(∀ c,u≠.agg c)\/P.eqGuardType P.depth t=false):(eqGuard op t x y u v).run P w=.ok () w:=by
 unfold eqGuard
 rcases h2 with h2|h2
 ·cases op<;>cases u<;>cases v<;>first|rfl|exact absurd rfl h1|exact absurd rfl (h2 _)
 ·cases op<;>cases u<;>cases v<;>first|rfl|exact absurd rfl h1|simp[h2]
theorem Eb8 {t:TypeId}{i:TI}{info:TypeInfo}{u:TypeDesc}(f:dQ P t i info u)(h:i.isBool=true):u=.bool:=by
 have:Sas u=true:=by rw[<- h,f.eq];rfl
 unfold Sas at this
 split at this
 ·rfl
 ·cases this
theorem Gb5 {t:TypeId}{i:TI}{info:TypeInfo}{u:TypeDesc}(f:dQ P t i info u)(h:i.isPtr=true):∃ e,u=.pointer e:=by
 have:Za7 u=true:=by rw[<- h,f.eq];rfl
 unfold Za7 at this
 split at this
 ·exact⟨_,rfl⟩
 ·cases this
theorem Zal {neg:Bool}{op:BinOp}(h:op=if neg then .neq else .eql):(bif neg then BinOp.neq else .eql)=op:=by cases neg<;>simp[h]
theorem Ma2 {t:TypeId}{ti:TI}{info:TypeInfo}{u:TypeDesc}(f:dQ P t ti info u)(hcmp:ti.cmp=true){xs ys:List Value}{dx dy:List D}{b:Bool}(hx:Scs xs dx)(hy:Scs ys dy)
  (hlx:xs.length=ti.size) (hly:ys.length=ti.size) (h:Ral (ti.cells.map Fa9) dx dy=some b) :
  (Op.equal t (.agg xs.toArray) (.agg ys.toArray)).run P w=.ok b w/\P.eqGuardType P.depth t=false:=by
 have hc:ti.cmp=(Ja5 u&&Na5 P 12 t&&!(P.eqGuardType P.depth t)):=by rw[f.eq];rfl
 rw[hc]at hcmp
 simp only[Qbq,Rbe]at hcmp
 obtain⟨⟨hagg,hok⟩,hguard⟩:=hcmp
 have hfl:=f.cells
 simp only[Qb8]at hfl
 obtain⟨l,hl1,hl2⟩:=hfl
 have hlen:=f.len
 rw[<- hl2]at hlen h
 simp only[Rbf]at hlen
 rw[List.map_map]at h
 have hst:∃ fs,u=.struct fs:=by
  have hu:=f.und
  simp only[Na5,hu]at hok
  cases u<;>first|(cases hagg;done)|(cases hok;done)|exact⟨_,rfl⟩
 obtain⟨fs,rfl⟩:=hst
 refine⟨?_,hguard⟩
 exact Iay P w 12 t l hok hl1 xs ys dx dy b _ _ hx hy (by omega) (by omega) (by unfold uL;rw[f.und]) (by unfold uL;rw[f.und]) h 10000 (by omega)
theorem Abv {t:TypeId}(hu:P.underlying t=some .bool)(b c:Bool)(n:Nat):(Op.equalIn (n+1) t (.bool b) (.bool c)).run P w=.ok (b==c) w:=by
 simp[Op.equalIn,run_underlying hu]
theorem Ebt {t e:TypeId}(hu:P.underlying t=some (.slice e))(x y p q:Nat)(n:Nat):(Op.equalIn (n+1) t (.slice none x y) (.slice none p q)).run P w=.ok true w:=by
 simp[Op.equalIn,run_underlying hu]
theorem Abu {t e:TypeId}(hu:P.underlying t=some (.slice e))(a:Addr)(x y p q:Nat)(n:Nat):(Op.equalIn (n+1) t (.slice (some a) x y) (.slice none p q)).run P w=.ok false w:=by
 simp[Op.equalIn,run_underlying hu]
theorem Ebs {t e:TypeId}(hu:P.underlying t=some (.pointer e))(A:Option Addr)(n:Nat):(Op.equalIn (n+1) t (.pointer A) (.pointer none)).run P w=.ok A.isNone w:=by
 cases A<;>simp[Op.equalIn,run_underlying hu]
theorem Ta3 (hR:R E.ntmps F σ ρ a w G)(hd:gM E.ntmps o)(hti:yA P E.ti){nv:Nat}{neg:Bool}{op:BinOp}{t ty:TypeId}{x y:Operand}
  (ho:o.op=.binOp op t x y ty) (hop:op=if neg then .neq else .eql) {res:dD}
  (h:(Mb6 E nv o g neg t x y).eval σ=some res) (hs:aQ cf ρ g nv res.lets):iP P E F σ ρ a w g o Q res.upd:=by
 unfold Mb6 at h
 simp only[aA,Qbp]at h
 obtain⟨va,h1,vb,h2,h3⟩:=h
 split at h3
 ·
  rename_i ls ms
  simp only[aA,Qbp,tiR,bA]at h3
  obtain⟨ti,hi,h4⟩:=h3
  obtain⟨info,u,f⟩:=bB (hti.ok _ _ hi)
  split at h4
  ·rename_i xs ys hxs hys
   simp only[aA,Qbp,aL]at h4
   obtain⟨_,h5,h6⟩:=h4
   split at h5
   ·rename_i hb
    simp only[Qbq,Rbv]at hb
    obtain⟨⟨hcmp,hlx⟩,hly⟩:=hb
    refine Ha1 hR hd ho hop h6 hs fun hg d hp=>?_
    obtain⟨vx,ex,hlx'⟩:=iC hR hg h1
    obtain⟨vy,ey,hly'⟩:=iC hR hg h2
    obtain⟨hx1,hx2⟩:=Jag hxs hlx'
    obtain⟨hy1,hy2⟩:=Jag hys hly'
    have hcl:(ti.cells.map Fa9).length=xs.length:=by rw[Rbf,f.len];omega
    simp only[aO.run,hcl,Tbt,Rbf,Qb8,List.cons.injEq,and_true]at hp
    obtain⟨b,hp,rfl⟩:=hp
    rw[List.take_left' (by simp),List.drop_left' (by simp)]at hp
    have hlx2:=hx1.1
    have hly2:=hy1.1
    simp only[Rbf]at hlx2 hly2
    obtain⟨h7,h8⟩:=Ma2 (w:=w) f hcmp hx1 hy1 (by omega) (by omega) hp
    refine⟨b,rfl,?_,?_⟩
    ·rw[ex];exact qO (by simp) (.inr h8)
    ·rw[ex,ey];exact Cay hop h7 (by simp) (by simp) (by simp) (by simp)
   ·cases h5
  ·cases h4
 ·rename_i l m
  simp only[aA,Qbp,tiR,bA]at h3
  obtain⟨ti,hi,h4⟩:=h3
  obtain⟨info,u,f⟩:=bB (hti.ok _ _ hi)
  split at h4
  ·
   rename_i p q hp hq
   rw[iR]at h4
   have hx:gOn ρ g=true->Sc (a.eval x) (p.val ρ):=fun hg=>kL hg hp (iC hR hg h1)
   have hy:gOn ρ g=true->Sc (a.eval y) (q.val ρ):=fun hg=>kL hg hq (iC hR hg h2)
   split at h4
   ·rename_i hbool
    obtain rfl:=Eb8 f hbool
    refine dY hR hd h4 hs fun hg d hp'=>?_
    have hx:=hx hg
    have hy:=hy hg
    simp only[Rbh,Rbq]at hp'
    generalize p.val ρ=pv at hx hp'
    generalize q.val ρ=qv at hy hp'
    cases pv<;>cases qv<;>simp only[aO.run]at hp'<;>first|(cases hp';done)|skip
    rename_i b c
    simp only[Option.some.injEq,List.cons.injEq,and_true]at hp'
    subst hp'
    refine⟨.bool (if neg then !(b==c) else b==c),.bool _,?_⟩
    unfold execOp
    simp only[ho,hx.bool_inv,hy.bool_inv]
    refine gX ?_
    rw[Sem.run_bind,qO (by simp) (.inl (by simp))]
    have he:(Op.equal t (.bool b) (.bool c)).run P w=.ok (b==c) w:=by
     unfold Op.equal Op.maxDepth
     exact Abv f.und b c 9999
    exact Cay hop he (by simp) (by simp) (by simp) (by simp)
   ·rw[Zal hop]at h4
    exact Paa hR hd ho hx hy h4 hs
  ·rw[iR]at h4
   split at h4
   ·
    rename_i hnil
    simp only[aA,Qbp,aL]at h4
    obtain⟨_,h5,s,h6,r0,h8,h7⟩:=h4
    split at h5
    ·rename_i hel
     obtain⟨e,rfl⟩:=Ia0 f hel
     have hcore:aQ cf ρ g nv r0.lets->(gOn ρ g=true->∀ z,s.x.val ρ=.rows z []->s.nie=true)->iP P E F σ ρ a w g o Q r0.upd:=by
      intro hs hne
      refine Ha1 hR hd ho hop h8 hs fun hg d hp=>?_
      have hsl:=fF hR h6 (iC hR hg h1)
      simp only[Rbh,Rbq]at hp
      have hrd:=hsl.rd
      have hni:∀ z,s.x.val ρ=.rows z []->a.eval x=.slice none 0 0:=fun z hz=>hsl.nie (hne hg z hz) z hz
      generalize s.x.val ρ=sv at hp hrd hni
      cases sv<;>simp only[aO.run]at hp<;>first|(cases hp;done)|skip
      rename_i sz rs
      simp only[Option.some.injEq,List.cons.injEq,and_true]at hp
      subst hp
      obtain⟨A,b,n,c,vs,e1,e2,e3,e4,-⟩:=hrd.inv
      have hy:∃ n' c',a.eval y=.slice none n' c':=by
       unfold Laa at hnil
       split at hnil
       ·rename_i n' c';exact⟨n',c',rfl⟩
       ·cases hnil
      obtain⟨n',c',hy⟩:=hy
      refine⟨rs.isEmpty,rfl,?_,?_⟩
      ·rw[e1];exact qO (by simp) (.inl (by simp))
      ·have he:(Op.equal t (a.eval x) (a.eval y)).run P w=.ok rs.isEmpty w:=by
        unfold Op.equal Op.maxDepth
        cases hrs:rs with
        | nil =>
         rw[hni sz (by rw[hrs]),hy]
         exact Ebt f.und _ _ _ _ 9999
        | cons r rs' =>
         have:A=some b:=e4.resolve_left (by rw[<- e2,hrs];simp)
         rw[e1,hy,this]
         exact Abu f.und _ _ _ _ _ 9999
       rw[e1]at he ⊢
       exact Cay hop he (by simp) (by simp) (by simp) (by simp)
     simp only[aC,Option.some.injEq]at h7
     subst h7
     cases hnie:s.nie with
     | true =>
      rw[hnie]at hs
      exact hcore hs fun _ _ _=>hnie
     | false =>
      rw[hnie]at hs
      refine hcore hs.2 fun hg z hz=>?_
      obtain⟨ds,h9,-⟩:=hs.1.1 hg
      simp only[Rbh,Rbq]at h9
      rw[hz]at h9
      simp[aO.run]at h9
    ·cases h5
   ·rw[iR]at h4
    split at h4
    ·
     rename_i hnil
     simp only[aA,Qbp,aL]at h4
     obtain⟨_,h5,h6⟩:=h4
     split at h5
     ·rename_i hpt
      obtain⟨e,rfl⟩:=Gb5 f hpt
      have hy:a.eval y=.pointer none:=by
       unfold Uap at hnil
       split at hnil
       ·rfl
       ·cases hnil
      have heq:∀ A,a.eval x=.pointer A->(Op.equal t (a.eval x) (a.eval y)).run P w=.ok A.isNone w:=by
       intro A hA
       unfold Op.equal Op.maxDepth
       rw[hA,hy]
       exact Ebs f.und A 9999
      have hrun:∀ A,a.eval x=.pointer A->(eqGuard op t x y (a.eval x) (a.eval y)).run P w=.ok () w/\(binOp op t (a.eval x) (a.eval y)).run P w=.ok (.bool (if neg then !A.isNone else A.isNone)) w:=by
       intro A hA
       refine⟨by rw[hA];exact qO (by simp) (.inl (by simp)),?_⟩
       have:=heq A hA
       rw[hA]at this ⊢
       exact Cay hop this (by simp) (by simp) (by simp) (by simp)
      have hconst:∀ (c:Bool) (nvx:Nat),(wO o g nv .id [.c (.bool c)]).eval σ=some res->(gOn ρ g=true->∃ A,a.eval x=.pointer A/\c=(if neg then !A.isNone else A.isNone))->iP P E F σ ρ a w g o Q res.upd:=by
       intro c _ h7 hc
       refine dY hR hd h7 hs fun hg d hp=>?_
       simp only[Rbh,Rbq,aM.val,aO.run,Option.some.injEq,List.cons.injEq,and_true]at hp
       subst hp
       obtain⟨A,hA,rfl⟩:=hc hg
       refine⟨_,.bool _,?_⟩
       unfold execOp
       simp only[ho]
       refine gX ?_
       rw[Sem.run_bind,(hrun A hA).1]
       exact (hrun A hA).2
      split at h6
      ·rename_i deps sz z
       simp only[aA,Qbp]at h6
       obtain⟨ds,h7,h8⟩:=h6
       refine Ha1 hR hd ho hop h8 hs fun hg d hp=>?_
       have hl:=iC hR hg h1
       simp only[dV,aB]at hl
       simp only[Rbh,Rbq]at hp
       rcases hl.2 (jL h7).1 with ⟨e1,z',e2⟩|⟨b,row,e1,e2,-⟩
       ·rw[e2]at hp
        simp only[aO.run,List.isEmpty_nil,Option.some.injEq,List.cons.injEq,and_true]at hp
        exact⟨true,hp.symm,hrun none e1⟩
       ·rw[e2]at hp
        simp only[aO.run,List.isEmpty_cons,Option.some.injEq,List.cons.injEq,and_true]at hp
        exact⟨false,hp.symm,hrun (some b) e1⟩
      ·refine hconst _ 0 h6 fun hg=>?_
       have hl:=iC hR hg h1
       simp only[dV,aB]at hl
       exact⟨none,hl,by cases neg<;>rfl⟩
      ·refine hconst _ 0 h6 fun hg=>?_
       have hl:=iC hR hg h1
       simp only[dV,aB]at hl
       exact⟨_,hl.1,by cases neg<;>rfl⟩
      ·refine hconst _ 0 h6 fun hg=>?_
       have hl:=iC hR hg h1
       simp only[dV,aB]at hl
       obtain⟨_,_,_,_,_,_,_,_,_,e⟩:=hl
       exact⟨_,e,by cases neg<;>rfl⟩
      ·cases h6
     ·cases h5
    ·cases h4
 ·cases h3
end
end Go.Proofs.YtdpfilpckndhcaaGreatDoor.Rf

namespace Go.Proofs.YtdpfilpckndhcaaGreatDoor.Rf
set_option linter.unusedVariables false
set_option linter.unusedSimpArgs false
section
variable {P:Program} {E:Env} {F:bU} {σ:Nat->Option aU} {ρ:List D} {a:Act} {w w':World} {G:Gh} {g:Option (aM×Bool)} {o:Oper} {cf:Nat->List D->Option (List D)} {Q:Exit->Act->World->Prop} {next:Act->World->Prop}
theorem lN {t:TypeId}{i:TI}{info:TypeInfo}{u:TypeDesc}(f:dQ P t i info u)(b:Addr)(cs:List Value)(hl:cs.length=i.size)
  (h:∀ j v,cs[j]?=some v->w.cell? (b.add j)=some v) {v:Value} (hv:if i.agg=true then v=.agg cs.toArray else cs=[v]):(loadVar t b).run P w=.ok v w:=by
 unfold loadVar
 rw[Sem.run_bind,f.isAgg]
 simp only[Result.andThen_ok]
 split at hv
 ·rename_i hagg
  rw[if_pos hagg,Sem.run_bind,f.sizeOf]
  simp only[Result.andThen_ok]
  rw[Sem.run_bind,<- hl,run_loadCells_list w b cs h]
  simp only[Result.andThen_ok,Sem.run_pure,hv]
 ·rename_i hagg
  rw[if_neg hagg,run_load]
  have:=h 0 v (by rw[hv];rfl)
  simp only[Addr.add,if_true]at this
  rw[this]
theorem nK (b:Addr):∀ (ls:List aW) (k:Nat),(∀ j l,ls[j]?=some l->∃ v,w.cell? (b.add (k+j))=some v/\aB σ ρ G w l v) ->
  ∃ vs,aD σ ρ G w ls vs/\∀ j v,vs[j]?=some v->w.cell? (b.add (k+j))=some v
 |[],k,_=>⟨[],by simp[aD],by simp⟩
 | l :: ls, k, h => by
  obtain⟨u,h1,h2⟩:=h 0 l rfl
  obtain⟨us,h3,h4⟩:=nK b ls (k+1) fun j l' hj=>by
   have:=h (j+1) l' (by simpa using hj)
   rwa[show k+1+j=k+(j+1) by omega]
  refine⟨u::us,by simp only[aD];exact⟨u,us,rfl,h2,h3⟩,fun j v hj=>?_⟩
  cases j with
  | zero =>
   simp only[Qb4,Option.some.injEq]at hj
   exact hj▸h1
  | succ j =>
   have:=h4 j v (by simpa using hj)
   rwa[show k+(j+1)=k+1+j by omega]
theorem Cae.snoc {own:Nat->Ow}{r k:Nat}{c:Addr}{n m:Nat}{u':Value}:∀ (p q:List Nat) (v:Value),Cae own w r q v p (.slice (some c) n m)->own c.block=.slc r (q++p)->w.cell? (c.add k)=some u'->Cae own w r q v (p++[k]) u'
 | [], q, v, h, ho, hc => by
  simp only[Cae]at h
  simp only[List.nil_append,Cae]
  exact⟨c,n,m,u',h.symm,by simpa using ho,hc,rfl⟩
 | j :: p, q, v, h, ho, hc => by
  obtain⟨a',n',c',u1,rfl,h1,h2,h3⟩:=h
  simp only[Sbk,Cae]
  exact⟨a',n',c',u1,rfl,h1,h2,Cae.snoc p (q++[j]) u1 h3 (by simpa using ho) hc⟩
theorem Rd.sc_inv {ok:Nat->Prop}{v:Value}{d:D}(h:Rd ok w v d)(hd:d.isSc=true):Sc v d:=by
 cases h with
 |sc h=>exact h
 |hole=>simp[D.isSc]at hd
 |rows=>simp[D.isSc]at hd
theorem Rp.zero {own:Nat->Ow}{r:Nat}{p:List Nat}{v:Value}{d:D}(h:Rp own w r p 0 v d):Rd (fun b=>own b=.frz) w v d:=by
 generalize hm:0=m at h
 cases h with
 |sc h=>exact .sc h
 |hole _ h1=>exact .hole _ h1
 |fz h=>exact h
 |sl=>omega
theorem Bbb {s:SlR}{c:Addr}{n cap:Nat}(h:Wa6 σ ρ G w s (.slice (some c) n cap)){sz:Nat}{rs:List (List D)}(hx:s.x.val ρ=.rows sz rs){i:aM}{k:IntKind}{iv:Int}(hi:i.val ρ=.int k iv)
  {row:List D} (hr:rs[iv.toNat]?=some row) {off:Nat} {d:D} (hd:row[off]?=some d) (ck:CK) (hk:Hbg ck=true->d.isSc=true) {y:aM} (hy:y.val ρ=d) :
  ∃ v,w.cell? (c.add (iv.toNat*sz+off))=some v/\aB σ ρ G w (kG s i sz off ck y) v:=by
 have hrd:=h.rd
 rw[hx]at hrd
 obtain⟨A,c',n',cap',vs,e1,e2,e3,e4,e5,e6,e7⟩:=hrd.inv
 obtain⟨rfl,rfl,rfl⟩:some c=A/\n=n'/\cap=cap':=by injection e1 with a b c;exact⟨a,b,c⟩
 have hlt:iv.toNat<rs.length:=by
  rcases Rbj iv.toNat rs.length with h|h
  ·exact h
  ·rw[Sb4 h]at hr;cases hr
 have hc:c=c':=by
  rcases e4 with e4|e4
  ·omega
  ·exact Option.some.inj e4
 subst hc
 obtain⟨-,hcell⟩:=e6 _ _ hr _ _ hd
 have hrec:=e7 _ _ hr _ _ hd
 refine⟨_,hcell,?_⟩
 cases ck with
 | sc z =>
  simp only[kG,aB]
  rw[hy]
  exact hrec.sc_inv (hk rfl)
 |pn=>simpa only[kG,aB] using hrec.one
 |ot=>simpa only[kG,aB] using hrec.one
 | sl z =>
  have hex:∀ z∈s.deps,lJ σ z.1 z.2:=fun z hz=>by
   obtain⟨m,hl⟩:=h.live z hz
   exact hl.valid.known
  have hdef:aB σ ρ G w (.sn s.deps .no false y) (vs iv.toNat off):=by
   simp only[aB]
   exact⟨⟨hrec.one,hex⟩,fun _=>⟨by rw[hy];exact hrec,by simp,trivial⟩⟩
  simp only[kG]
  have hown:=h.own
  unfold xZ at hown
  split
  ·rename_i r k' m p ho
   rw[ho]at hown
   obtain⟨h1,h2,h3,h4,h5⟩:=hown
   rw[hx]at h4
   cases hm:m-p.length with
   | zero =>
    have:Nat.ble (p.length+2) m=false:=by
     cases hb:Nat.ble (p.length+2) m with
     |false=>rfl
     |true=>simp only[Rb8]at hb;omega
    rw[this,cond_false]
    rw[hm]at h4
    obtain⟨A',c'',n'',cap'',vs',e1',e2',e3',e4',e5',e6',e7'⟩:=h4.zero.inv
    obtain⟨rfl,rfl,rfl⟩:some c=A'/\n=n''/\cap=cap'':=by injection e1' with a b c;exact⟨a,b,c⟩
    have hc:c=c'':=by
     rcases e4' with e4'|e4'
     ·omega
     ·exact Option.some.inj e4'
    subst hc
    obtain⟨-,hcell'⟩:=e6' _ _ hr _ _ hd
    rw[hcell]at hcell'
    simp only[aB]
    refine⟨⟨hrec.one,by simp⟩,fun _=>⟨?_,by simp,trivial⟩⟩
    rw[hy,Option.some.inj hcell']
    exact (e7' _ _ hr _ _ hd).mono fun b hb=>⟨.inl hb,rfl⟩
   | succ m' =>
    rw[hm]at h4
    cases h4 with
    |sc h=>cases h
    | sl A' c'' n'' cap'' _ _ vs' e2' e3' e4' e5' e6' e7' e8' =>
     have hc:c=c'':=by
      rcases e4' with e4'|⟨e4',-⟩
      ·exact Option.some.inj e4'
      ·cases e4'
     subst hc
     obtain⟨-,hob,-⟩:=e6' rfl
     have hcell':=e7' _ _ hr _ _ hd
     have hrec':=e8' _ _ hr _ _ hd
     rw[hcell]at hcell'
     rw[<- Option.some.inj hcell']at hrec'
     cases hb:Nat.ble (p.length+2) m with
     | false =>
      rw[cond_false]
      have:m'=0:=by
       have:¬ p.length+2<=m:=by rw[<- Rb8,hb];simp
       omega
      subst this
      simp only[aB]
      refine⟨⟨hrec.one,by simp⟩,fun _=>⟨?_,by simp,trivial⟩⟩
      rw[hy]
      exact hrec'.zero.mono fun b hb=>⟨.inl hb,rfl⟩
     | true =>
      rw[cond_true]
      simp only[Rb8]at hb
      have hpv:bJ ρ (p++[(i,sz,off)])=bJ ρ p++[iv.toNat*sz+off]:=by
       simp[bJ,mO,hi]
      simp only[aB]
      refine⟨⟨hrec.one,fun z hz=>?_⟩,fun _=>⟨?_,by simp,?_⟩⟩
      ·simp only[Qb6]at hz
       subst hz
       exact h2.valid.known
      ·rw[hy]
       rw[h1]at hrec
       exact hrec
      ·simp only[Jal]
       intro r2 k2 m2 e2 hl2
       obtain⟨rfl,rfl⟩:r=r2/\k'=k2:=by simpa using e2
       obtain⟨x1,ex1⟩:=h2
       obtain⟨x2,ex2⟩:=hl2
       rw[ex1]at ex2
       obtain rfl:m=m2:=by injection ex2 with ex2;injection ex2
       refine⟨by simp;omega,?_,?_⟩
       ·rw[hpv,hy,show m-(p++[(i,sz,off)]).length=m' by simp;omega]
        exact hrec'
       ·rw[hpv]
        exact h5.snoc _ _ _ (by simpa using hob) hcell
  ·exact hdef
theorem Iah:∀ {ks:List Bool} {ds:List D},Ea7 ks ds=true->∀ (j:Nat) (d:D),ks[j]?=some true->ds[j]?=some d->d.isSc=true
 |[],ds,_,j,d,hk,_=>by simp at hk
 |k::ks,[],h,j,d,hk,hd=>by simp at hd
 | k :: ks, e :: ds, h, j, d, hk, hd => by
  simp only[Ea7,Qbq,Rbw,Rbe]at h
  cases j with
  | zero =>
   simp only[Qb4,Option.some.injEq]at hk hd
   subst hk hd
   simpa using h.1
  |succ j=>exact Iah h.2 j d (by simpa using hk) (by simpa using hd)
theorem Eay {t:TypeId}{b:Addr}{v:Value}(h:(loadVar t b).run P w=.ok v w):(Instr.loadAt t (.pointer (some b))).run P w=.ok v w:=by
 simp only[Instr.loadAt,Instr.sureAddr,Sem.run_bind,Sem.run_pure,Result.andThen_ok,h]
theorem zU (s:SlR)(i:aM)(sz:Nat):∀ (cs:List CK) (off y j:Nat) (l:aW),(fT s i sz off cs y)[j]?=some l->∃ c,cs[j]?=some c/\l=kG s i sz (off+j) c (.v (y+j))
 |[],off,y,j,l,h=>by simp[fT]at h
 | c :: cs, off, y, j, l, h => by
  simp only[fT]at h
  cases j with
  | zero =>
   simp only[Qb4,Option.some.injEq]at h
   exact⟨c,rfl,h.symm⟩
  | succ j =>
   obtain⟨c',h1,h2⟩:=zU s i sz cs (off+1) (y+1) j l (by simpa using h)
   exact⟨c',by simpa using h1,by rw[h2];congr 1<;>first|omega|(congr 1;omega)⟩
theorem zT (s:SlR)(i:aM)(sz:Nat):∀ (cs:List CK) (off y:Nat),(fT s i sz off cs y).length=cs.length
 |[],_,_=>rfl
 |c::cs,off,y=>by simp[fT,zT s i sz cs (off+1) (y+1)]
theorem Eao {agg:Bool}{ls:List aW}{sv:SV}(h:Ta0 agg ls=some sv){vs:List Value}(hl:vs.length=ls.length):∃ v,if agg=true then v=.agg vs.toArray else vs=[v]:=by
 cases agg with
 |true=>exact⟨_,rfl⟩
 | false =>
  simp only[Ta0,cond_false]at h
  split at h
  ·match vs,hl with
   |[v],_=>exact⟨v,rfl⟩
  ·cases h
theorem Ya1 {sz off:Nat}{ks:List Bool}{x i:D}{ds:List D}(h:(aO.row sz off ks).run [x,i]=some ds) :
  ∃ rs k iv row,x=.rows sz rs/\i=.int k iv/\0<=iv/\rs[iv.toNat]?=some row/\off+ks.length<=row.length/\Ea7 ks (row.drop off)=true/\ds=(row.drop off).take ks.length:=by
 cases x<;>cases i<;>simp only[aO.run]at h<;>first|cases h|skip
 rename_i sz' rs k iv
 split at h
 ·rename_i h1
  obtain⟨rfl,h1⟩:=h1
  split at h
  ·rename_i row hr
   split at h
   ·rename_i h2
    simp only[Option.some.injEq]at h
    exact⟨rs,k,iv,row,rfl,rfl,h1,hr,h2.1,h2.2,h.symm⟩
   ·cases h
  ·cases h
 ·cases h
theorem Vaz (hR:R E.ntmps F σ ρ a w G)(hd:gM E.ntmps o)(hti:yA P E.ti){nv:Nat}{t:TypeId}{x:Operand}(ho:o.op=.load t x){ti:TI}
  (hi:E.ti t=some ti) {p:aW} (hp:gOn ρ g=true->aB σ ρ G w p (a.eval x)) {res:dD}
  (h:(Tay nv o g ti p).eval σ=some res) (hs:aQ cf ρ g nv res.lets):iP P E F σ ρ a w g o Q res.upd:=by
 obtain⟨info,u,f⟩:=bB (hti.ok _ _ hi)
 have hex:∀ {v:Value},(Instr.loadAt t (a.eval x)).run P w=.ok v w->(execOp a.eval o).run P w=.ok (.value v) w:=by
  intro v hv
  unfold execOp
  simp only[ho]
  exact gX hv
 unfold Tay at h
 split at h
 ·rename_i b off
  simp only[aA,aV,Qb3]at h
  split at h
  ·rename_i ro bs hk
   simp only[aA,Qbp,aL]at h
   obtain⟨_,hgd,h⟩:=h
   split at hgd
   ·rename_i hle
    simp only[Rb8]at hle
    split at h
    ·rename_i sv hsv
     refine Aai hR hd h hs fun hg=>?_
     have hl:=hp hg
     simp only[aB]at hl
     obtain⟨h1,h2,h3⟩:=hR.box hk
     obtain⟨vs,h4,h5⟩:=nK (σ:=σ) (ρ:=ρ) (G:=G) (w:=w) ((G.bx b).add off) ((bs.drop off).take ti.size) 0 fun j l hj=>by
      rw[Sbb]at hj
      split at hj
      ·rw[Rb4]at hj
       obtain⟨v,h6,-,h7⟩:=h3 _ _ hj
       refine⟨v,?_,h7⟩
       rw[Rbt,add_add]
       exact h6
      ·cases hj
     have hlen:vs.length=ti.size:=by
      rw[h4.len]
      simp
      omega
     obtain⟨v,hv⟩:=Eao hsv h4.len
     refine⟨v,vY hsv h4 hv,hex ?_⟩
     rw[hl.1]
     exact Eay (lN f _ vs hlen (fun j v hj=>by simpa using h5 j v hj) hv)
    ·cases h
   ·cases hgd
  ·cases h
 ·rename_i l sz i off
  simp only[aA,Qbp]at h
  obtain⟨s,hsl,h⟩:=h
  have main:∀ (ks:List Bool) (ds:List D),(∀ (j:Nat) (c:CK),ti.cells[j]?=some c->Hbg c=true->ks[j]?=some true)->ks.length=ti.cells.length->gOn ρ g=true ->
    (aO.row sz off ks).run [s.x.val ρ,i.val ρ]=some ds->(∀ j d,ds[j]?=some d->(aM.v (nv+j)).val ρ=d) ->
    ∃ vs,aD σ ρ G w (fT s i sz off ti.cells nv) vs/\vs.length=ti.size/\∃ b,a.eval x=.pointer (some b)/\∀ j v,vs[j]?=some v->w.cell? (b.add j)=some v:=by
   intro ks ds hks hkl hg hrun hat
   have hl:=hp hg
   simp only[aB]at hl
   obtain⟨b,n,c,k,iv,h1,h2,h3,h4,h5⟩:=hl
   have hslr:=fF hR hsl h1
   obtain⟨rs,k',iv',row,e1,e2,e3,e4,e5,e6,rfl⟩:=Ya1 hrun
   rw[h2]at e2
   obtain⟨rfl,rfl⟩:k=k'/\iv=iv':=by injection e2 with a b;exact⟨a,b⟩
   obtain⟨vs,h6,h7⟩:=nK (σ:=σ) (ρ:=ρ) (G:=G) (w:=w) (b.add (iv.toNat*sz+off)) (fT s i sz off ti.cells nv) 0 fun j l' hj=>by
    obtain⟨c',hc',rfl⟩:=zU _ _ _ _ _ _ _ _ hj
    have hjl:j<ti.cells.length:=(List.getElem?_eq_some_iff.1 hc').1
    have hrow:row[off+j]?=some row[off+j]:=Qbz (by omega)
    obtain⟨v,hv1,hv2⟩:=Bbb hslr e1 h2 e4 (off:=off+j) (d:=row[off+j]) hrow c' (fun hsc=>Iah e6 j _ (hks j c' hc' hsc) (by rw[Rb4];exact hrow)) (y:=.v (nv+j))
     (hat j _ (by rw[Sbb,if_pos (by omega),Rb4];exact hrow))
    refine⟨v,?_,hv2⟩
    rw[add_add,Rbt,Rbi]
    exact hv1
   exact⟨vs,h6,by rw[h6.len,zT,f.len],_,h5,fun j v hj=>by simpa using h7 j v hj⟩
  split at h
  ·rename_i x' hsv
   have hx':x'=.v nv/\ti.agg=false/\∃ z,ti.cells=[.sc z]:=by
    unfold Ta0 at hsv
    cases hagg:ti.agg with
    |true=>rw[hagg]at hsv;simp at hsv
    | false =>
     rw[hagg]at hsv
     simp only[cond_false]at hsv
     cases hc:ti.cells with
     |nil=>rw[hc]at hsv;simp[fT]at hsv
     | cons c cs =>
      cases cs with
      | nil =>
       rw[hc]at hsv
       simp only[fT,Option.some.injEq,SV.one.injEq]at hsv
       cases c with
       |sc z=>simp only[kG,aW.sc.injEq]at hsv;exact⟨hsv.symm,rfl,z,rfl⟩
       | sl z =>
        simp only[kG]at hsv
        split at hsv
        ·cases hb:Nat.ble _ _<;>(rw[hb]at hsv;cases hsv)
        ·cases hsv
       |pn=>simp[kG]at hsv
       |ot=>simp[kG]at hsv
      |cons c' cs'=>rw[hc]at hsv;simp[fT]at hsv
   obtain⟨rfl,hagg,z,hcs⟩:=hx'
   have hst:aQ cf ρ g nv [.prim (.row sz off [true]) [s.x,i] 1]:=by
    simp only[wO,aC,Option.some.injEq]at h
    subst h
    exact hs
   refine dY hR hd h hs fun hg d hpr=>?_
   obtain⟨d',h1,h2⟩:=iB hst hg
   simp only[Rbh,Rbq]at hpr h1
   obtain⟨vs,h3,h4,b,h5,h6⟩:=main [true] [d'] (fun j c hc _=>by
    rw[hcs]at hc
    cases j with
    |zero=>rfl
    | succ j => simp at hc) (by rw [hcs]; rfl) hg h1 (fun j d hj => by
     cases j with
     |zero=>simp only[Qb4,Option.some.injEq]at hj;rw[<- hj];exact h2
     |succ j=>simp at hj)
   obtain⟨v,hv⟩:=Eao hsv h3.len
   have h7:=vY hsv h3 hv
   simp only[dV,aB]at h7
   refine⟨v,?_,hex ?_⟩
   ·rw[h2]at h7
    rw[h1]at hpr
    simp only[Option.some.injEq,List.cons.injEq,and_true]at hpr
    exact hpr▸h7
   ·rw[h5]
    exact Eay (lN f b vs h4 h6 hv)
  ·rename_i sv _ hsv
   refine eH hR hd h hs fun hg hst=>?_
   obtain⟨ds,h1,h2,h3⟩:=step1 hst hg
   simp only[Rbh,Rbq]at h1
   obtain⟨vs,h4,h5,b,h6,h7⟩:=main _ ds (fun j c hc hsc=>by rw[Rbu,hc];simp[hsc]) (by simp) hg h1 h3
   obtain⟨v,hv⟩:=Eao hsv h4.len
   refine⟨v,vY hsv h4 hv,hex ?_⟩
   rw[h6]
   exact Eay (lN f b vs h5 h7 hv)
  ·cases h
 ·cases h
end
end Go.Proofs.YtdpfilpckndhcaaGreatDoor.Rf

namespace Go.Proofs.YtdpfilpckndhcaaGreatDoor.Rf
set_option linter.unusedVariables false
set_option linter.unusedSimpArgs false
section
variable {P:Program} {E:Env} {F:bU} {σ:Nat->Option aU} {ρ:List D} {a:Act} {w w':World} {G:Gh} {g:Option (aM×Bool)} {o:Oper} {cf:Nat->List D->Option (List D)} {Q:Exit->Act->World->Prop} {next:Act->World->Prop}
theorem Jac:∀ {rs:List (List D)} {l:List UInt8},bytesOf rs=some l->∃ ns:List Int,rs=ns.map (fun n=>[D.int .u8 n])/\l=ns.map fun n=>UInt8.ofNat n.toNat
 | [], l, h => by
  simp only[bytesOf,Option.some.injEq]at h
  exact⟨[],rfl,h.symm⟩
 | r :: rs, l, h => by
  unfold bytesOf at h
  split at h
  ·rename_i hh;cases hh
  ·rename_i n r' hh
   obtain⟨rfl,rfl⟩:=List.cons.inj hh
   simp only[Qb8]at h
   obtain⟨l',h1,rfl⟩:=h
   obtain⟨ns,rfl,rfl⟩:=Jac h1
   exact⟨n::ns,rfl,rfl⟩
  ·cases h
theorem Va1 (hR:R E.ntmps F σ ρ a w G)(hd:gM E.ntmps o)(hti:yA P E.ti){nv:Nat}{src dst:TypeId}{x:Operand}(ho:o.op=.convert src dst x){res:dD}{s d ei:TI}{e:Nat}
  (hs1:E.ti src=some s) (he:s.elem=some e) (hei:E.ti e=some ei) (hk:Ob6 ei.ik=true) (hd1:E.ti dst=some d) (hdS:d.isStr=true)
  {l:aW} {r:SlR} (h1:(rdL E g src x).eval σ=some l) (h2:(Aak l).eval σ=some r)
  (h:(wO o g nv .bstr [r.x]).eval σ=some res) (hs:aQ cf ρ g nv res.lets):iP P E F σ ρ a w g o Q res.upd:=by
 refine dY hR hd h hs fun hg z hp=>?_
 obtain⟨i1,u1,f1⟩:=bB (hti.ok _ _ hs1)
 obtain⟨i2,u2,f2⟩:=bB (hti.ok _ _ hd1)
 obtain⟨i3,u3,f3⟩:=bB (hti.ok _ _ hei)
 obtain rfl:=uA f1 he
 obtain rfl:=Eap f2 hdS
 have e3:u3=.int .u8:=by
  unfold Ob6 at hk
  split at hk
  ·rename_i k hk'
   simp only[Nbd,decide_eq_true_eq]at hk
   have:=f3.ik.symm.trans hk'
   unfold Mb9 at this
   split at this
   ·rw[Option.some.inj this,hk]
   ·cases this
  ·cases hk
 subst e3
 have hl:=(fF hR h2 (gQ hR hg h1)).rd
 simp only[Rbh,Rbq]at hp
 generalize r.x.val ρ=xv at hp hl
 cases xv<;>simp only[aO.run]at hp<;>first|cases hp|skip
 rename_i sz rs
 simp only[Qb8,List.cons.injEq,and_true]at hp
 obtain⟨bs,hb,rfl⟩:=hp
 obtain⟨ns,rfl,rfl⟩:=Jac hb
 obtain⟨A,b,n,c,vs,e1,e2,e3,e4,e5,e6,e7⟩:=hl.inv
 refine⟨_,.str _,?_⟩
 unfold execOp
 simp only[ho]
 refine gX ?_
 rw[e1,run_convert_bytes_string w src dst e A n c f1.und f3.und f2.und]
 cases A with
 | none =>
  have:n=0:=by
   rcases e4 with e4|e4
   ·exact e4
   ·cases e4
  subst this
  simp only[Rbf]at e2
  obtain rfl:=Rbx e2
  simp[Conv.bytesToString]
  rfl
 | some b' =>
  have hload:(loadCells b' n).run P w=.ok (ns.map (Value.int .u8)).toArray w:=by
   simp only[Rbf]at e2
   have:=run_loadCells_list (P:=P) w b' (ns.map (Value.int .u8)) (fun j v hj=>by
    simp only[Rbu,Qb8]at hj
    obtain⟨m,hm,rfl⟩:=hj
    have hr:(ns.map fun n=>[D.int .u8 n])[j]?=some [D.int .u8 m]:=by rw[Rbu,hm];rfl
    have h9:=e6 j _ hr 0 _ rfl
    have h10:=(e7 j _ hr 0 _ rfl).sc_inv rfl
    have hsz:sz=1:=by
     have:=e5 _ (Rba hr)
     simpa using this.symm
    have hj':j<ns.length:=(List.getElem?_eq_some_iff.1 hm).1
    have hb':b'=b:=by
     rcases e4 with e4|e4
     ·omega
     ·exact Option.some.inj e4
    subst hb' hsz
    rw[h10.int_inv]at h9
    simpa using h9.2)
   simpa[e2] using this
  rw[run_bytesToString w b' n c ns hload,foldl_push_bytes]
  simp[ByteArray.empty,ByteArray.emptyWithCapacity]
  rfl
theorem Oa8 (hR:R E.ntmps F σ ρ a w G)(hd:gM E.ntmps o)(hti:yA P E.ti){nv:Nat}{src dst:TypeId}{x:Operand}(ho:o.op=.convert src dst x){res:dD}{s d:TI}
  (hs1:E.ti src=some s) (hsS:s.isStr=true) (hd1:E.ti dst=some d) (hdS:d.isStr=true) {x':aM} (h1:(rdA E g src x).eval σ=some x')
  (h:(wO o g nv .sid [x']).eval σ=some res) (hs:aQ cf ρ g nv res.lets):iP P E F σ ρ a w g o Q res.upd:=by
 refine dY hR hd h hs fun hg z hp=>?_
 obtain⟨i1,u1,f1⟩:=bB (hti.ok _ _ hs1)
 obtain⟨i2,u2,f2⟩:=bB (hti.ok _ _ hd1)
 obtain rfl:=Eap f1 hsS
 obtain rfl:=Eap f2 hdS
 have hl:=jU hR hg h1
 simp only[Rbh,Rbq]at hp
 generalize x'.val ρ=xv at hp hl
 cases xv<;>simp only[aO.run]at hp<;>first|cases hp|skip
 refine⟨_,.str _,?_⟩
 unfold execOp
 simp only[ho,hl.str_inv]
 refine gX ?_
 simp only[convert,Sem.run_bind,run_underlying f1.und,run_underlying f2.und,Result.andThen_ok]
 rfl
theorem Kar {is:Bool}{len cap:Nat}{lo hi:Option Value}{kl kh:IntKind}{l h:Int}(hlo:(lo=none/\l=0)\/lo=some (.int kl l))(hhi:(hi=none/\h=len)\/(hi=some (.int kh h)/\h<=cap))(h0:0<=l)(h1:l<=h) :
  (Instr.sliceBounds is len cap lo hi none).run P w=.ok (l.toNat,h.toNat,cap) w:=by
 rcases hhi with ⟨rfl,rfl⟩|⟨rfl,hc⟩<;>rcases hlo with ⟨rfl,rfl⟩|rfl
 ·simp[Instr.sliceBounds]
 ·have e2:0<=l/\l<=(len:Int):=⟨h0,by omega⟩
  simp[Instr.sliceBounds,Instr.sliceBound,asIntOf,e2]
 ·have e1:0<=h/\h<=(cap:Int):=⟨by omega,hc⟩
  simp[Instr.sliceBounds,Instr.sliceBound,asIntOf,e1]
 ·have e1:0<=h/\h<=(cap:Int):=⟨by omega,hc⟩
  have e2:0<=l/\l<=(h.toNat:Int):=⟨h0,by omega⟩
  have e3:0<=l/\l<=max h 0:=⟨h0,by omega⟩
  simp[Instr.sliceBounds,Instr.sliceBound,asIntOf,e1,e2,e3]
theorem Vah {ei:TI}{lo fl:Bool}{s:SlR}{p:Pth}(h:Kaa ei lo s=(p,fl)):(p=.no) \/
  (p=.view/\∃ r k m q,s.own=some (r,k,m,q)/\(q=.path []\/q=.view)/\(m=1\/lo=false\/fl=true)):=by
 unfold Kaa at h
 have one:∀ m:Nat,(bif Nat.beq m 1||!lo then (Pth.view,false) else bif Oaj ei.cells then (Pth.view,true) else (Pth.no,false))=(p,fl)->p=.no\/(p=.view/\(m=1\/lo=false\/fl=true)):=by
  intro m h
  cases hb:(Nat.beq m 1||!lo) with
  | true =>
   rw[hb]at h
   simp only[cond_true,Prod.mk.injEq]at h
   simp only[Rbw,Rbv,Rbe]at hb
   exact .inr ⟨h.1.symm,hb.imp id .inl⟩
  | false =>
   rw[hb]at h
   cases hn:Oaj ei.cells with
   | true =>
    rw[hn]at h
    simp only[cond_false,cond_true,Prod.mk.injEq]at h
    exact .inr ⟨h.1.symm,.inr (.inr h.2.symm)⟩
   | false =>
    rw[hn]at h
    simp only[cond_false,Prod.mk.injEq]at h
    exact .inl h.1.symm
 split at h
 ·rename_i r k m ho
  exact (one _ h).imp id fun ⟨h1,h2⟩=>⟨h1,_,_,_,_,ho,.inl rfl,h2⟩
 ·rename_i r k m ho
  exact (one _ h).imp id fun ⟨h1,h2⟩=>⟨h1,_,_,_,_,ho,.inr rfl,h2⟩
 ·simp only[Prod.mk.injEq]at h
  exact .inl h.1.symm
theorem Ra0 {sz:Nat}{fl:Bool}{x i j:D}{ds:List D}(h:(aO.sub sz fl).run [x,i,j]=some ds) :
  ∃ rs ki kj lo hi,x=.rows sz rs/\i=.int ki lo/\j=.int kj hi/\(fl=true->∀ r∈rs,∀ d∈r,d.isSc=true)/\0<=lo/\lo<=hi/\hi<=rs.length/\ds=[.rows sz ((rs.take hi.toNat).drop lo.toNat)]:=by
 cases x<;>cases i<;>cases j<;>simp only[aO.run]at h<;>first|cases h|skip
 split at h
 ·rename_i h1
  obtain⟨rfl,h1,h2,h3,h4⟩:=h1
  simp only[Option.some.injEq]at h
  refine⟨_,_,_,_,_,rfl,rfl,rfl,fun hf=>?_,h2,h3,h4,h.symm⟩
  rw[hf]at h1
  simp only[Bool.not_true,Bool.false_or,Rbg]at h1
  exact fun r hr d hd=>h1 r hr d hd
 ·cases h
theorem Maw {rs:List (List D)}{lo hi i:Nat}{r:List D}(h:((rs.take hi).drop lo)[i]?=some r):rs[lo+i]?=some r/\lo+i<hi:=by
 rw[Rb4,Sbb]at h
 split at h
 ·rename_i hl;exact⟨h,hl⟩
 ·cases h
theorem Rd.part {ok:Nat->Prop}{A:Option Addr}{n c sz:Nat}{rs:List (List D)}(h:Rd ok w (.slice A n c) (.rows sz rs)){lo hi:Nat}(h1:lo<=hi)(h2:hi<=n) :
  Rd ok w (.slice (if c=lo then A else A.map (·.add (lo*sz))) (hi-lo) (c-lo)) (.rows sz ((rs.take hi).drop lo)):=by
 obtain⟨A',b,n',c',vs,e1,e2,e3,e4,e5,e6,e7⟩:=h.inv
 obtain⟨rfl,rfl,rfl⟩:A=A'/\n=n'/\c=c':=by injection e1 with a b c;exact⟨a,b,c⟩
 refine .rows _ (b.add (lo*sz)) _ _ sz _ (fun i j=>vs (lo+i) j) (by simp;omega) (by omega) ?_ (fun r hr=>?_) (fun i r hi' j d hj=>?_) (fun i r hi' j d hj=>?_)
 ·by_cases hz:hi-lo=0
  ·exact .inl hz
  ·refine .inr ?_
   have hA:A=some b:=e4.resolve_left (by omega)
   rw[if_neg (by omega),hA]
   rfl
 ·exact e5 r (Sb0 (Sbo hr))
 ·obtain⟨h3,h4⟩:=Maw hi'
  obtain⟨h5,h6⟩:=e6 _ _ h3 _ _ hj
  refine⟨by rw[add_block];exact h5,?_⟩
  rw[add_add,show lo*sz+(i*sz+j)=(lo+i)*sz+j by rw[Nat.add_mul,Rbi]]
  exact h6
 ·obtain⟨h3,h4⟩:=Maw hi'
  exact e7 _ _ h3 _ _ hj
theorem Rp.sc_inv {own:Nat->Ow}{r m:Nat}{p:List Nat}{v:Value}{d:D}(h:Rp own w r p m v d)(hd:d.isSc=true):Sc v d:=by
 cases h with
 |sc h=>exact h
 |hole=>simp[D.isSc]at hd
 |fz h=>exact h.sc_inv hd
 |sl=>simp[D.isSc]at hd
theorem Rp.part {own:Nat->Ow}{r m:Nat}{p:List Nat}{A:Option Addr}{n c sz:Nat}{rs:List (List D)}(h:Rp own w r p m (.slice A n c) (.rows sz rs)){lo hi:Nat}(h1:lo<=hi)(h2:hi<=n)
  (hc:m=1\/lo=0\/∀ r∈rs,∀ d∈r,d.isSc=true) :
  Rp own w r p m (.slice (if c=lo then A else A.map (·.add (lo*sz))) (hi-lo) (c-lo)) (.rows sz ((rs.take hi).drop lo)):=by
 generalize hv:Value.slice A n c=v at h
 generalize hx:D.rows sz rs=x at h
 cases h with
 |sc h=>subst hx;cases h
 |hole=>cases hx
 |fz h=>subst hv hx;exact .fz (h.part h1 h2)
 | sl A' b n' c' sz' rs' vs hn hc' hA hsz hown hcell hrec =>
  obtain⟨rfl,rfl,rfl⟩:A=A'/\n=n'/\c=c':=by injection hv with a b c;exact⟨a,b,c⟩
  obtain⟨rfl,rfl⟩:sz=sz'/\rs=rs':=by injection hx with a b;exact⟨a,b⟩
  rename_i m'
  refine .sl _ (if c=lo then b else b.add (lo*sz)) _ _ sz _ (fun i j=>vs (lo+i) j) (by simp;omega) (by omega) ?_ (fun r hr=>?_) (fun e=>?_) (fun i r' hi' j d hj=>?_) (fun i r' hi' j d hj=>?_)
  ·rcases hA with hA|⟨hA,h0⟩
   ·refine .inl ?_
    rw[hA]
    by_cases h:c=lo
    ·rw[if_pos h,if_pos h]
    ·rw[if_neg h,if_neg h];rfl
   ·refine .inr ⟨?_,by omega⟩
    rw[hA]
    split<;>rfl
  ·exact hsz r (Sb0 (Sbo hr))
  ·have hA':A=some b:=by
    rcases hA with hA|⟨hA,h0⟩
    ·exact hA
    ·rw[hA]at e
     split at e<;>cases e
   obtain⟨h3,h4,h5⟩:=hown hA'
   by_cases h:c=lo
   ·rw[if_pos h]
    exact⟨h3,h4,fun k hk=>by rw[h,Nat.sub_self,Nat.zero_mul]at hk;omega⟩
   ·rw[if_neg h]
    refine⟨?_,by rw[add_block];exact h4,fun k hk=>?_⟩
    ·unfold Addr.add;split
     ·exact h3
     ·rfl
    ·rw[add_add]
     refine h5 _ ?_
     rw[Nat.sub_mul]at hk
     omega
  ·obtain⟨h3,h4⟩:=Maw hi'
   rw[if_neg (by omega),add_add,show lo*sz+(i*sz+j)=(lo+i)*sz+j by rw[Nat.add_mul,Rbi]]
   exact hcell _ _ h3 _ _ hj
  ·obtain⟨h3,h4⟩:=Maw hi'
   have:=hrec _ _ h3 _ _ hj
   rcases hc with hc|hc|hc
   ·obtain rfl:m'=0:=by omega
    exact .fz this.zero
   ·subst hc
    simpa using this
   ·exact .sc (this.sc_inv (hc r' (Rba h3) d (Rba hj)))
theorem yN {t e:TypeId}{x:Operand}{lo hi:Option Operand}(ho:o.op=.slice t x lo hi none)(hu:P.underlying t=some (.slice e)){size:Nat}(hsz:(sizeOf e).run P w=.ok size w)
  {A:Option Addr} {n c:Nat} (hx:a.eval x=.slice A n c) {kl kh:IntKind} {l h:Int} (hlo:(lo=none/\l=0)\/lo.map a.eval=some (.int kl l)) (hhi:(hi=none/\h=n)\/(hi.map a.eval=some (.int kh h)/\h<=c)) (h0:0<=l) (h1:l<=h) :
  (execOp a.eval o).run P w=.ok (.value (.slice (if c=l.toNat then A else A.map (·.add (l.toNat*size))) (h.toNat-l.toNat) (c-l.toNat))) w:=by
 unfold execOp
 simp only[ho]
 refine gX ?_
 have hb:=Kar (P:=P) (w:=w) (is:=true) (len:=n) (cap:=c) (lo:=lo.map a.eval) (hi:=hi.map a.eval) (kl:=kl) (kh:=kh) (l:=l) (h:=h) (hlo.imp (fun ⟨h1,h2⟩=>⟨by rw[h1];rfl,h2⟩) id) (hhi.imp (fun ⟨h1,h2⟩=>⟨by rw[h1];rfl,h2⟩) id) h0 h1
 simp only[Instr.sliceAt,Instr.slice,Sem.run_bind,run_underlying hu,Result.andThen_ok,hx,Option.map_none,hb,hsz,Sem.run_pure]
end
end Go.Proofs.YtdpfilpckndhcaaGreatDoor.Rf

namespace Go.Proofs.YtdpfilpckndhcaaGreatDoor.Rf
set_option linter.unusedVariables false
set_option linter.unusedSimpArgs false
section
variable {P:Program} {E:Env} {F:bU} {σ:Nat->Option aU} {ρ:List D} {a:Act} {w w':World} {G:Gh} {g:Option (aM×Bool)} {o:Oper} {cf:Nat->List D->Option (List D)} {Q:Exit->Act->World->Prop} {next:Act->World->Prop}
theorem zA {g:Option (aM×Bool)}(h:noG g=true):g=none:=by
 cases g with
 |none=>rfl
 |some _=>cases h
theorem Dab {p:aO}{xs:List aM}{nv:Nat}(h:Vae cf ρ g nv (.prim p xs 1))(hg:gOn ρ g=true) :
  ∃ d,p.run (xs.map (·.val ρ))=some [d]/\(aM.v nv).val ρ=d:=iB (cf:=cf) (nv:=nv) ⟨h,trivial⟩ hg
theorem Caw {t:TypeId}{x:Operand}{lo hi:Option Operand}(ho:o.op=.slice t x lo hi none)(hu:P.underlying t=some .string)
  {s:List UInt8} (hx:a.eval x=.string ⟨s.toArray⟩) {kl kh:IntKind} {l h:Int} (hlo:(lo=none/\l=0)\/lo.map a.eval=some (.int kl l)) (hhi:(hi=none/\h=s.length)\/(hi.map a.eval=some (.int kh h)/\h<=s.length)) (h0:0<=l) (h1:l<=h) :
  (execOp a.eval o).run P w=.ok (.value (.string ⟨((s.take h.toNat).drop l.toNat).toArray⟩)) w:=by
 unfold execOp
 simp only[ho]
 refine gX ?_
 have hb:=Kar (P:=P) (w:=w) (is:=false) (len:=s.length) (cap:=s.length) (lo:=lo.map a.eval) (hi:=hi.map a.eval) (kl:=kl) (kh:=kh) (l:=l) (h:=h) (hlo.imp (fun ⟨h1,h2⟩=>⟨by rw[h1];rfl,h2⟩) id) (hhi.imp (fun ⟨h1,h2⟩=>⟨by rw[h1];rfl,h2⟩) id) h0 h1
 have hlen:(⟨s.toArray⟩:ByteArray).size=s.length:=rfl
 simp only[Instr.sliceAt,Instr.slice,Sem.run_bind,run_underlying hu,Result.andThen_ok,hx,Option.map_none,Option.isSome_none,Qbr,if_false,hlen,hb,Sem.run_pure]
 congr 2
 apply ByteArray.ext
 rw[ByteArray.data_extract]
 apply Ubh
 simp[List.drop_take,List.extract]
theorem Ta2 {x i j:D}{ds:List D}(h:aO.ssub.run [x,i,j]=some ds) :
  ∃ s ki kj lo hi,x=.str s/\i=.int ki lo/\j=.int kj hi/\0<=lo/\lo<=hi/\hi<=s.length/\ds=[.str ((s.take hi.toNat).drop lo.toNat)]:=by
 cases x<;>cases i<;>cases j<;>simp only[aO.run]at h<;>first|cases h|skip
 split at h
 ·rename_i h1
  simp only[Option.some.injEq]at h
  exact⟨_,_,_,_,_,rfl,rfl,rfl,h1.1,h1.2.1,h1.2.2,h.symm⟩
 ·cases h
theorem Uae {lo:Bool}{s:SlR}{ei:TI}{p:Pth}{fl:Bool}(hvw:Kaa ei lo s=(p,fl)){A:Option Addr}{n c sz:Nat}(hsl:Wa6 σ ρ G w s (.slice A n c)){rs:List (List D)}(hx:s.x.val ρ=.rows sz rs)
  {l h:Nat} (h1:l<=h) (h2:h<=n) (hlo:lo=false->l=0) (hfl:fl=true->∀ r∈rs,∀ d∈r,d.isSc=true) {y:aM} (hy:y.val ρ=.rows sz ((rs.take h).drop l)) :
  aB σ ρ G w (.sn s.deps p false y) (.slice (if c=l then A else A.map (·.add (l*sz))) (h-l) (c-l)):=by
 simp only[aB]
 refine⟨⟨rfl,fun z hz=>?_⟩,fun _=>⟨?_,by simp,?_⟩⟩
 ·obtain⟨m,hl⟩:=hsl.live z hz
  exact hl.valid.known
 ·rw[hy]
  exact Rd.part (hx▸hsl.rd) h1 h2
 ·rcases Vah hvw with rfl|⟨rfl,r,k,m,q,ho,hq,hc⟩
  ·trivial
  ·intro r2 k2 m2 e2 hl2
   have hown:=hsl.own
   unfold xZ at hown
   rw[ho]at hown
   obtain⟨h3,⟨x1,h4⟩,h5⟩:=hown
   rw[h3]at e2
   obtain⟨rfl,rfl⟩:r=r2/\k=k2:=by simpa using e2
   obtain⟨x2,ex2⟩:=hl2
   rw[h4]at ex2
   obtain rfl:m=m2:=by injection ex2 with ex2;injection ex2
   have hrp:Rp G.own w r [] m (.slice A n c) (.rows sz rs):=by
    rw[<- hx]
    rcases hq with rfl|rfl
    ·simpa[bJ] using h5.2.1
    ·exact h5
   rw[hy]
   refine hrp.part h1 h2 ?_
   rcases hc with hc|hc|hc
   ·exact .inl hc
   ·exact .inr (.inl (hlo hc))
   ·exact .inr (.inr (hfl hc))
theorem Zaf {lo:Bool}{s:SlR}{ei:TI}{p:Pth}{fl:Bool}(hvw:Kaa ei lo s=(p,fl)){A:Option Addr}{n c sz:Nat}(hsl:Wa6 σ ρ G w s (.slice A n c)){rs:List (List D)}(hx:s.x.val ρ=.rows sz rs)
  {l:Nat} (h1:l<=n) (hlo:lo=false->l=0) (hfl:fl=true->∀ r∈rs,∀ d∈r,d.isSc=true) {y:aM} (hy:y.val ρ=.rows sz ((rs.take n).drop l)) {lx:aM} (hl:mO ρ lx=l) :
  aB σ ρ G w (.sn s.deps (Gbo p sz lx s) false y) (.slice (if c=l then A else A.map (·.add (l*sz))) (n-l) (c-l)):=by
 have h0:=Uae hvw hsl hx h1 (Nat.le_refl n) hlo hfl hy
 unfold Gbo
 split
 ·rename_i r k m ho
  simp only[aB]at h0 ⊢
  refine⟨h0.1,fun hv=>⟨(h0.2 hv).1,(h0.2 hv).2.1,?_⟩⟩
  intro r2 k2 m2 e2 hl2
  have hown:=hsl.own
  unfold xZ at hown
  rw[ho]at hown
  obtain⟨h3,-,-,-,h5⟩:=hown
  rw[h3]at e2
  obtain⟨rfl,rfl⟩:r=r2/\k=k2:=by simpa using e2
  simp only[bJ,Rbq,Cae]at h5
  exact⟨A,n,c,h5.symm,by rw[hl];exact h1,by rw[hl]⟩
 ·exact h0
theorem Ca6 (hR:R E.ntmps F σ ρ a w G)(hg:gOn ρ g=true){lo:Option Operand}{y:aM}
  (h:(match lo with|some a=>rdA E g 0 a|none=>RdM.ret (.c (.int .i64 0)):RdM aM).eval σ=some y) {k:IntKind} {l:Int} (hy:y.val ρ=.int k l) :
  (lo=none/\l=0)\/lo.map a.eval=some (.int k l):=by
 split at h
 ·rename_i x
  have:=jU hR hg h
  rw[hy]at this
  exact .inr (by rw[Rb5,this.int_inv])
 ·simp only[aC,Option.some.injEq]at h
  subst h
  simp only[aM.val,D.int.injEq]at hy
  exact .inl ⟨rfl,hy.2.symm⟩
theorem Ra2 (hR:R E.ntmps F σ ρ a w G)(hd:gM E.ntmps o)(hti:yA P E.ti){nv nb nr:Nat}{mv mvs:Bool}{t:TypeId}{x:Operand}{lo hi mx:Option Operand}(ho:o.op=.slice t x lo hi mx){res:dD}
  (h:(tJ E mv mvs nv nb nr g o).eval σ=some res) (hs:aQ cf ρ g nv res.lets):iP P E F σ ρ a w g o Q res.upd:=by
 simp only[tJ,ho]at h
 cases mx with
 | some _ =>
  simp only[aA,Qbp]at h
  obtain⟨_,_,h⟩:=h
  cases h
 |none =>
 simp only[aA,Qbp,tiR,bA]at h
 obtain⟨ti,hi1,l,h1,lo',h2,h⟩:=h
 obtain⟨info,u,f⟩:=bB (hti.ok _ _ hi1)
 split at h
 ·rename_i s
  simp only[aA,Qbp,aL]at h
  obtain⟨_,hgd,h⟩:=h
  split at hgd
  ·rename_i hb
   simp only[Qbq]at hb
   obtain rfl:=Eap f hb.1
   split at h
   ·rename_i h'
    simp only[aA,Qbp]at h
    obtain⟨hA,h3,h⟩:=h
    refine dY hR hd h hs fun hg d hp=>?_
    simp only[Rbh,Rbq]at hp
    obtain⟨s',ki,kj,li,hi',e1,e2,e3,e4,e5,e6,e7⟩:=Ta2 hp
    simp only[List.cons.injEq,and_true]at e7
    have hx:=gQ hR hg h1
    simp only[aB,e1]at hx
    have hh:=jU hR hg h3
    rw[e3]at hh
    refine⟨_,e7▸.str _,Caw ho f.und hx.str_inv (Ca6 hR hg h2 e2) (.inr ⟨by rw[Rb5,hh.int_inv],e6⟩) e4 e5⟩
   ·obtain rfl:g=none:=zA (by simpa using hb.2)
    simp only[aC,Option.some.injEq]at h
    subst h
    simp only[Gae]
    refine⟨fun hg=>?_,fun hg=>by simp[gOn]at hg⟩
    obtain⟨d1,h4,h5⟩:=Dab hs.1 hg
    obtain⟨d2,h6,h7⟩:=Dab hs.2.1 hg
    simp only[Rbh,Rbq,Step.n]at h4 h6 h7
    obtain⟨s',ki,kj,li,hi',e1,e2,e3,e4,e5,e6,e7⟩:=Ta2 h6
    rw[e1]at h4
    simp only[aO.run,Option.some.injEq,List.cons.injEq,and_true]at h4
    rw[h5,<- h4]at e3
    obtain⟨-,rfl⟩:IntKind.i64=kj/\(s'.length:Int)=hi':=by injection e3 with a b;exact⟨a,b⟩
    have hx:=gQ hR hg h1
    simp only[aB,e1]at hx
    refine Ma1 hR hd hg (Caw (kh:=.i64) ho f.und hx.str_inv (Ca6 hR hg h2 e2) (.inl ⟨rfl,rfl⟩) e4 e5) ?_
    rw[h7]
    simp only[List.cons.injEq,and_true]at e7
    rw[e7]
    exact .str _
  ·cases hgd
 ·simp only[aA,Qbp,aL]at h
  obtain⟨_,hgd,s,h3,ei,h4,h⟩:=h
  split at hgd
  ·rename_i hel
   cases hel':ti.elem with
   |none=>rw[hel']at hel;cases hel
   |some e =>
   obtain rfl:=uA f hel'
   rw[hel',Option.getD_some,bA]at h4
   obtain⟨info',u',f'⟩:=bB (hti.ok _ _ h4)
   generalize hvw:Kaa ei lo.isSome s=pf at h
   obtain⟨p,fl⟩:=pf
   dsimp only at h
   split at h
   ·rename_i h'
    simp only[aA,Qbp]at h
    obtain⟨hA,h5,h⟩:=h
    split at h
    ·rename_i dp pp z _
     refine eH hR hd h hs fun hg hst=>?_
     obtain⟨d,h6,h7⟩:=iB hst hg
     simp only[Rbh,Rbq]at h6
     obtain⟨rs,ki,kj,li,hi',e1,e2,e3,e4,e5,e6,e7,e8⟩:=Ra0 h6
     have hl:=gQ hR hg h1
     have hh:=jU hR hg h5
     rw[e3]at hh
     have hz:s.x=.c (.rows z []):=by
      unfold Aak at h3
      simp only[aA,Qbp]at h3
      obtain⟨ds,-,h3⟩:=h3
      split at h3
      ·simp only[aC,Option.some.injEq]at h3;rw[<- h3]
      ·simp only[aA,aV,Qb3]at h3
       split at h3
       ·simp only[aC,Option.some.injEq]at h3;rw[<- h3]
       ·cases h3
      ·simp only[aC,Option.some.injEq]at h3;rw[<- h3]
     have hnil:a.eval x=.slice none 0 0:=by
      unfold Aak at h3
      simp only[aA,Qbp]at h3
      obtain⟨ds,h3,-⟩:=h3
      have hl':=hl
      simp only[aB]at hl'
      exact (hl'.2 (jL h3).1).2.1 trivial z rfl
     rw[hz]at e1
     obtain⟨-,rfl⟩:z=ei.size/\[]=rs:=by
      simp only[aM.val]at e1
      injection e1 with a b;exact⟨a,b⟩
     have hli:li=0:=by simp at e7;omega
     have hhi:hi'=0:=by simp at e7;omega
     subst hli hhi
     refine⟨a.eval x,hl,?_⟩
     rw[yN (kh:=kj) (kl:=ki) (l:=0) (h:=0) ho f.und (f'.sizeOf w) hnil (Ca6 hR hg h2 e2) (.inr ⟨by rw[Rb5,hh.int_inv],by simp⟩) (by omega) (by omega),hnil]
     rfl
    ·refine eH hR hd h hs fun hg hst=>?_
     obtain⟨d,h6,h7⟩:=iB hst hg
     simp only[Rbh,Rbq]at h6
     obtain⟨rs,ki,kj,li,hi',e1,e2,e3,e4,e5,e6,e7,e8⟩:=Ra0 h6
     have hh:=jU hR hg h5
     rw[e3]at hh
     have hsl:=fF hR h3 (gQ hR hg h1)
     have hrd:=hsl.rd
     rw[e1]at hrd
     obtain⟨A,b,n,c,vs,i1,i2,i3,-⟩:=hrd.inv
     rw[i1]at hsl
     have hlo:=Ca6 hR hg h2 e2
     refine⟨_,?_,yN (kh:=kj) ho f.und (f'.sizeOf w) i1 hlo (.inr ⟨by rw[Rb5,hh.int_inv],by omega⟩) e5 e6⟩
     refine Uae hvw hsl e1 (by omega) (by omega) (fun hf=>?_) e4 ?_
     ·rcases hlo with ⟨-,hl0⟩|hl0
      ·rw[hl0];rfl
      ·cases lo with
       |none=>simp at hl0
       |some _=>simp at hf
     ·rw[h7]
      simpa using e8
   ·refine eH hR hd h hs fun hg hst=>?_
    obtain⟨d1,h4',h5⟩:=Dab hst.1 hg
    obtain⟨d2,h6,h7⟩:=Dab hst.2.1 hg
    simp only[Rbh,Rbq,Step.n]at h4' h6 h7
    obtain⟨rs,ki,kj,li,hi',e1,e2,e3,e4,e5,e6,e7,e8⟩:=Ra0 h6
    rw[e1]at h4'
    simp only[aO.run,Option.some.injEq,List.cons.injEq,and_true]at h4'
    rw[h5,<- h4']at e3
    obtain⟨-,rfl⟩:IntKind.i64=kj/\(rs.length:Int)=hi':=by injection e3 with a b;exact⟨a,b⟩
    have hsl:=fF hR h3 (gQ hR hg h1)
    have hrd:=hsl.rd
    rw[e1]at hrd
    obtain⟨A,b,n,c,vs,i1,i2,i3,-⟩:=hrd.inv
    rw[i1]at hsl
    have hlo:=Ca6 hR hg h2 e2
    refine⟨_,?_,yN (kh:=.i64) ho f.und (f'.sizeOf w) i1 hlo (.inl ⟨rfl,by rw[i2]⟩) e5 e6⟩
    have hidx:mO ρ lo'=li.toNat:=by unfold mO;rw[e2]
    have hln:((rs.length:Nat):Int).toNat=n:=by rw[Int.toNat_natCast];exact i2
    rw[hln]
    refine Zaf (lx:=lo') hvw hsl e1 (l:=li.toNat) (by omega) (fun hf=>?_) e4 ?_ hidx
    ·rcases hlo with ⟨-,hl0⟩|hl0
     ·rw[hl0];rfl
     ·cases lo with
      |none=>simp at hl0
      |some _=>simp at hf
    ·rw[h7,List.take_of_length_le (by omega:rs.length<=n)]
     simpa using e8
  ·cases hgd
end
end Go.Proofs.YtdpfilpckndhcaaGreatDoor.Rf
