/- Terms for the program's functions, and that they are right: part 1 of 10. -/
import Derived.Calls
import Derived.Laws.Sem
open Array renaming getD_eq_getD_getElem? → Tb8
open List renaming replicate → Sb1, append_assoc → Sb3, mem_singleton → Sb9, mem_cons_of_mem → Tba, mem_cons_self → Tbe, getElem?_eq_none → Ubk
open Nat renaming lt_or_ge → Tbi, blt → Ubs, testBit → Vbj, le_succ → Vb7
open Option renaming bind_eq_some_iff → Sbt, bind_some → Sb6, map_some → Ubd
set_option linter.unusedSimpArgs false
set_option linter.unusedVariables false
set_option linter.unnecessarySimpa false
set_option linter.unusedSectionVars false
namespace Go.Proofs.YtpgnlmfmlffjcaaGreat.Rf
set_option linter.unusedVariables false
inductive D where
 |int (k:IntKind) (n:Int)
 |bool (b:Bool)
 |str (s:List UInt8)
 |rows (sz:Nat) (rs:List (List D))
 |undef
 |hole
 deriving Inhabited
inductive aO where
 |v (i:Nat)
 |c (d:D)
 deriving Inhabited
def aO.val (ρ:List D):aO->D
 |.v i=>ρ.getD i .undef
 |.c d=>d
def aO.ok (n:Nat):aO->Prop
 |.v i=>i<n
 |.c _=>True
theorem aO.val_append {n:Nat}{ρ ρ':List D}{x:aO}(h:x.ok ρ.length):x.val (ρ++ρ')=x.val ρ:=by
 cases x with
 |c d=>rfl
 | v i =>
  simp only[aO.ok]at h
  simp[aO.val,List.getD_eq_getElem?_getD,List.getElem?_append_left h]
inductive aN where
 |bin (op:BinOp)
 |eqb (neg:Bool)
 |not | neg | inv
 |conv (k:IntKind)
 |len | slen
 |row (sz off:Nat) (ks:List Bool)
 |inb
 |set (sz off n:Nat)
 |app (sz bytes:Nat) (fl:Bool)
 |mk (sz n:Nat)
 |make (bytes:Nat) (zero:List D)
 |sub (sz:Nat) (fl:Bool)
 |ssub
 |pick
 |eqs (ks:List Nat)
 |min | max
 |bstr
 |sidx
 |sid
 |ne
 |emp
 |one (sz:Nat)
 |dep (m:Nat)
 |clr (sz:Nat)
 |id
 deriving Inhabited
def dF:Nat:=140737488355328
def Baj (op:BinOp)(k:IntKind)(a b:Int):Option D :=
 match op with
 |.add=>some (.int k (k.wrap (a+b)))
 |.sub=>some (.int k (k.wrap (a-b)))
 |.mul=>some (.int k (k.wrap (a*b)))
 |.quo=>if b=0 then none else some (.int k (k.wrap (a.tdiv b)))
 |.rem=>if b=0 then none else some (.int k (a.tmod b))
 |.and=>some (.int k (k.wrap (BitVec.ofInt k.bits a &&& BitVec.ofInt k.bits b).toNat))
 |.or=>some (.int k (k.wrap (BitVec.ofInt k.bits a ||| BitVec.ofInt k.bits b).toNat))
 |.xor=>some (.int k (k.wrap (BitVec.ofInt k.bits a ^^^ BitVec.ofInt k.bits b).toNat))
 |.andNot=>some (.int k (k.wrap (BitVec.ofInt k.bits a &&& ~~~ (BitVec.ofInt k.bits b)).toNat))
 |.eql=>some (.bool (a==b))
 |.neq=>some (.bool (a != b))
 |.lss=>some (.bool (a<b))
 |.leq=>some (.bool (a<=b))
 |.gtr=>some (.bool (a>b))
 |.geq=>some (.bool (a ≥ b))
 |_=>none
def Dbs (op:BinOp)(k:IntKind)(a b:Int):Option D :=
 if b<0 then none else
 match op with
 |.shl=>some (.int k (k.wrap (a*2 ^ (min b.toNat k.bits))))
 |.shr=>some (.int k (a.fdiv (2 ^ (min b.toNat k.bits))))
 |_=>none
def Obx (op:BinOp)(a b:List UInt8):Option D :=
 match op with
 |.add=>if a.length+b.length<=4611686018427387904 then some (.str (a++b)) else none
 |.eql=>some (.bool (a==b))
 |.neq=>some (.bool (!(a==b)))
 |.lss=>some (.bool (Op.bytesLess a b))
 |.leq=>some (.bool (Op.bytesLess a b||a==b))
 |.gtr=>some (.bool (!(Op.bytesLess a b||a==b)))
 |.geq=>some (.bool (!(Op.bytesLess a b)))
 |_=>none
def Paf (op:BinOp):D->D->Option D
 | .int k a, .int k' b =>
  match op with
  |.shl | .shr=>Dbs op k a b
  |_=>if k=k' then Baj op k a b else none
 |.str a,.str b=>Obx op a b
 |_,_=>none
def eqD:Nat->D->D->Option Bool
 |0,.int k a,.int k' b=>if k=k' then some (a==b) else none
 |1,.bool a,.bool b=>some (a==b)
 |2,.str a,.str b=>some (a==b)
 |_,_,_=>none
def Vaz:List Nat->List D->List D->Option Bool
 |[],[],[]=>some true
 |k::ks,a::as,b::bs=>(eqD k a b).bind fun x=>if x then Vaz ks as bs else some false
 |_,_,_=>none
def chunk (sz:Nat):Nat->List D->List (List D)
 |0,_=>[]
 |n+1,l=>l.take sz::chunk sz n (l.drop sz)
def bytesOf:List (List D)->Option (List UInt8)
 |[]=>some []
 |[.int .u8 n]::r=>(bytesOf r).map fun l=>UInt8.ofNat n.toNat::l
 |_=>none
def Pb0 (op:BinOp):D->D->Option D
 |.int k a,.int k' b=>if k=k' then some (.int k (if (match op with | .lss=>b<a | _=>b>a:Bool) then b else a)) else none
 |_,_=>none
def Qa4 (op:BinOp):D->List D->Option D
 |x,[]=>some x
 |x,y::r=>(Pb0 op x y).bind fun z=>Qa4 op z r
def D.isSc:D->Bool
 |.int _ _=>true
 |.bool _=>true
 |.str _=>true
 |_=>false
def vD:Nat->D->Bool
 |_,.hole=>true
 |0,d=>d.isSc
 |m+1,.rows _ rs=>rs.all fun r=>r.all fun d=>vD m d
 |_+1,d=>d.isSc
def Ha2:List Bool->List D->Bool
 |[],_=>true
 |k::ks,d::ds=>(!k||d.isSc)&&Ha2 ks ds
 |_::_,[]=>false
def aN.run:aN->List D->Option (List D)
 |.bin op,[a,b]=>(Paf op a b).map fun d=>[d]
 |.eqb ng,[.bool a,.bool b]=>some [.bool (if ng then !(a==b) else a==b)]
 |.not,[.bool b]=>some [.bool (!b)]
 |.neg,[.int k n]=>some [.int k (k.wrap (0-n))]
 |.inv,[.int k n]=>(Baj .xor k (if k.signed then -1 else k.max) n).map fun d=>[d]
 |.conv k,[.int _ n]=>some [.int k (k.wrap n)]
 |.len,[.rows _ rs]=>some [.int .i64 rs.length]
 |.slen,[.str s]=>some [.int .i64 s.length]
 | .row sz off ks, [.rows sz' rs, .int _ i] =>
  if sz'=sz/\0<=i then match rs[i.toNat]? with
   |some r=>if off+ks.length<=r.length/\Ha2 ks (r.drop off)=true then some ((r.drop off).take ks.length) else none
   |none=>none
  else none
 |.inb,[.rows _ rs,.int _ i]=>if 0<=i/\i<rs.length then some [] else none
 | .set sz off n, .rows sz' rs :: .int _ i :: vs =>
  if sz'=sz/\0<=i then match rs[i.toNat]? with
   |some r=>if off+n<=r.length/\vs.length=n then some [.rows sz (rs.set i.toNat (r.take off++vs++r.drop (off+n)))] else none
   |none=>none
  else none
 |.app sz bytes fl,[.rows sz' a,.rows sz'' b]=>if sz'=sz/\sz''=sz/\(!fl||(a++b).all fun r=>r.all D.isSc)=true/\(a.length+b.length)*bytes<=dF then some [.rows sz (a++b)] else none
 |.mk sz n,vs=>if vs.length=n*sz then some [.rows sz (chunk sz n vs)] else none
 |.make bytes zero,[.int _ n]=>if 0<=n/\n.toNat*bytes<=dF then some [.rows zero.length (Sb1 n.toNat zero)] else none
 |.sub sz fl,[.rows sz' rs,.int _ lo,.int _ hi]=>if sz'=sz/\(!fl||rs.all fun r=>r.all D.isSc)=true/\0<=lo/\lo<=hi/\hi<=rs.length then some [.rows sz ((rs.take hi.toNat).drop lo.toNat)] else none
 |.ssub,[.str s,.int _ lo,.int _ hi]=>if 0<=lo/\lo<=hi/\hi<=s.length then some [.str ((s.take hi.toNat).drop lo.toNat)] else none
 |.pick,[.bool c,a,b]=>some [if c then a else b]
 |.eqs ks,vs=>(Vaz ks (vs.take ks.length) (vs.drop ks.length)).map fun b=>[.bool b]
 |.min,x::r=>(Qa4 .lss x r).map fun d=>[d]
 |.max,x::r=>(Qa4 .gtr x r).map fun d=>[d]
 |.bstr,[.rows _ rs]=>(bytesOf rs).map fun l=>[.str l]
 | .sidx, [.str s, .int _ i] => if 0 <= i then match s[i.toNat]? with
   |some b=>some [.int .u8 b.toNat]
   |none=>none
  else none
 |.ne,[.rows _ rs]=>if rs.isEmpty then none else some []
 |.emp,[.rows _ rs]=>some [.bool rs.isEmpty]
 |.dep m,[d]=>if vD m d then some [] else none
 |.id,[a]=>some [a]
 |.clr sz,[.rows sz' rs,.int _ i]=>if sz'=sz/\0<=i then some [.rows sz (rs.take i.toNat++(rs.drop i.toNat).map fun r=>r.map fun _=>.hole)] else none
 |.sid,[.str s]=>some [.str s]
 | .one sz, [.rows sz' rs, .int _ i] => if sz' = sz /\ 0 <= i then match rs[i.toNat]? with
   |some r=>some [.rows sz [r]]
   |none=>none
  else none
 |_,_=>none
inductive Kind where
 |fall | exit (id:Nat) | ret | cont | yield (i:Nat)
 deriving DecidableEq,Inhabited
inductive Tm (β:Type) where
 |leaf (kind:Kind) (xs:List aO) (ext:β)
 |stuck
 |lt (g:Option (aO×Bool)) (p:aN) (xs:List aO) (n:Nat) (k:Tm β)
 |call (g:Option (aO×Bool)) (f:Nat) (xs:List aO) (n:Nat) (olds:List aO) (k:Tm β)
 |ite (c:aO) (t e:Tm β)
 |bind (i:Nat) (t k:Tm β)
 |loop (init:List aO) (body:Tm β)
 deriving Inhabited
structure Out (β:Type) where
 kind:Kind
 xs:List aO
 ext:β
 env:List D
def Out.vals {β:Type}(o:Out β):List D:=o.xs.map (·.val o.env)
def gOn (ρ:List D):Option (aO×Bool)->Bool
 |none=>true
 | some (x, w) => match x.val ρ with
  |.bool b=>b==w
  |_=>false
def iter {β:Type}:Nat->(List D->Option (Out β))->List D->Option (Out β)
 |0,_,_=>none
 |n+1,f,vs=>(f vs).bind fun o=>if o.kind=.cont then iter n f o.vals else some o
def runT {β:Type}(cf:Nat->List D->Option (List D))(fuel:Nat):Tm β->List D->Option (Out β)
 |.leaf k xs e,ρ=>some ⟨k,xs,e,ρ⟩
 |.stuck,_=>none
 | .lt g p xs n k, ρ =>
  if gOn ρ g then (p.run (xs.map (·.val ρ))).bind fun ds=>if ds.length=n then runT cf fuel k (ρ++ds) else none
  else runT cf fuel k (ρ++Sb1 n .undef)
 | .call g f xs n olds k, ρ =>
  if gOn ρ g then (cf f (xs.map (·.val ρ))).bind fun ds=>if ds.length=n then runT cf fuel k (ρ++ds) else none
  else runT cf fuel k (ρ++(Sb1 (n-olds.length) .undef++olds.map (·.val ρ)))
 | .ite c t e, ρ => match c.val ρ with
  |.bool true=>runT cf fuel t ρ
  |.bool false=>runT cf fuel e ρ
  |_=>none
 |.bind i t k,ρ=>(runT cf fuel t ρ).bind fun o=>if o.kind=.yield i then runT cf fuel k (ρ++o.vals) else some o
 |.loop init body,ρ=>iter fuel (fun vs=>runT cf fuel body (ρ++vs)) (init.map (·.val ρ))
inductive Ent where
 |tm (t:Tm Unit)
 |ext (f:List D->Option (List D))
 |none
def Mbv {β:Type}(o:Out β):Option (List D):=if o.kind=.ret then some o.vals else none
def mX (T:Nat->Ent):Nat->Nat->List D->Option (List D)
 |0,_,_=>none
 | n + 1, f, args => match T f with
  |.tm t=>(runT (mX T n) n t args).bind Mbv
  |.ext e=>e args
  |.none=>none
def Va1 {α:Type}(a:Nat->Option α):Prop:=∀ n r,a n=some r->a (n+1)=some r
theorem Va1.le {α:Type}{a:Nat->Option α}(h:Va1 a){n m:Nat}{r:α}(hn:n<=m)(hr:a n=some r):a m=some r:=by
 induction hn with
 |refl=>exact hr
 |step _ ih=>exact h _ _ ih
open Classical in
noncomputable def lim {α:Type}(a:Nat->Option α):Option α :=
 if h:∃ r n,a n=some r then some h.choose else none
theorem jI {α:Type}{a:Nat->Option α}(h:Va1 a){r:α}:lim a=some r↔∃ n,a n=some r:=by
 unfold lim
 constructor
 ·intro e
  split at e
  ·rename_i hx
   obtain⟨n,hn⟩:=hx.choose_spec
   cases e
   exact⟨n,hn⟩
  ·cases e
 ·rintro⟨n,hn⟩
  have hx:∃ r n,a n=some r:=⟨r,n,hn⟩
  rw[dif_pos hx]
  obtain⟨m,hm⟩:=hx.choose_spec
  have h1:=h.le (Nat.le_max_left n m) hn
  have h2:=h.le (Nat.le_max_right n m) hm
  rw[h1]at h2
  exact h2.symm
theorem Hbp {α:Type}{a:Nat->Option α}(h:∀ n,a n=none):lim a=none:=by
 unfold lim
 rw[dif_neg]
 rintro⟨r,n,hn⟩
 rw[h]at hn
 cases hn
theorem jJ {α:Type}(x:Option α):lim (fun _=>x)=x:=by
 cases x with
 |none=>exact Hbp fun _=>rfl
 |some r=>exact (jI (a:=fun _=>some r) fun _ _ h=>h).2 ⟨0,rfl⟩
theorem Va1.bind {α γ:Type}{a:Nat->Option α}{b:Nat->α->Option γ}(ha:Va1 a)(hb:∀ x,Va1 fun n=>b n x):Va1 fun n=>(a n).bind (b n):=by
 intro n r h
 simp only[Sbt]at h ⊢
 obtain⟨x,hx,hr⟩:=h
 exact⟨x,ha _ _ hx,hb x _ _ hr⟩
theorem Kac {α γ:Type}{a:Nat->Option α}{b:Nat->α->Option γ}(ha:Va1 a)(hb:∀ x,Va1 fun n=>b n x) :
  lim (fun n=>(a n).bind (b n))=(lim a).bind fun x=>lim fun n=>b n x:=by
 apply Option.ext
 intro r
 rw[jI (ha.bind hb)]
 simp only[Sbt]
 constructor
 ·rintro⟨n,x,hx,hr⟩
  exact⟨x,(jI ha).2 ⟨n,hx⟩,(jI (hb x)).2 ⟨n,hr⟩⟩
 ·rintro⟨x,hx,hr⟩
  obtain⟨n,hn⟩:=(jI ha).1 hx
  obtain⟨m,hm⟩:=(jI (hb x)).1 hr
  exact⟨max n m,x,ha.le (Nat.le_max_left ..) hn,(hb x).le (Nat.le_max_right ..) hm⟩
def Le {α γ:Type}(f g:α->Option γ):Prop:=∀ x r,f x=some r->g x=some r
theorem rZ {β:Type}{f g:List D->Option (Out β)}(h:Le f g):∀ {n m:Nat},n<=m->Le (iter n f) (iter m g)
 |0,_,_,_,_,hr=>by cases hr
 |n+1,0,hnm,_,_,_=>absurd hnm (by omega)
 | n + 1, m + 1, hnm, vs, r, hr => by
  simp only[iter,Sbt]at hr ⊢
  obtain⟨o,ho,hr⟩:=hr
  refine⟨o,h _ _ ho,?_⟩
  split at hr
  ·rename_i hk
   rw[if_pos hk]
   exact rZ h (by omega) _ _ hr
  ·rename_i hk
   rw[if_neg hk]
   exact hr
theorem Ka8 {β:Type}{cf cg:Nat->List D->Option (List D)}(h:∀ f,Le (cf f) (cg f)){n m:Nat}(hnm:n<=m)(t:Tm β):Le (runT cf n t) (runT cg m t):=by
 induction t with
 |leaf=>exact fun _ _ h=>h
 |stuck=>exact fun _ _ h=>h
 | lt g p xs k' k ih =>
  intro ρ r hr
  simp only[runT]at hr ⊢
  split at hr
  ·rename_i hg
   rw[if_pos hg]
   simp only[Sbt]at hr ⊢
   obtain⟨ds,hd,hr⟩:=hr
   refine⟨ds,hd,?_⟩
   split at hr
   ·rename_i hl;rw[if_pos hl];exact ih _ _ hr
   ·cases hr
  ·rename_i hg
   rw[if_neg hg];exact ih _ _ hr
 | call g f xs k' olds k ih =>
  intro ρ r hr
  simp only[runT]at hr ⊢
  split at hr
  ·rename_i hg
   rw[if_pos hg]
   simp only[Sbt]at hr ⊢
   obtain⟨ds,hd,hr⟩:=hr
   refine⟨ds,h _ _ _ hd,?_⟩
   split at hr
   ·rename_i hl;rw[if_pos hl];exact ih _ _ hr
   ·cases hr
  ·rename_i hg
   rw[if_neg hg];exact ih _ _ hr
 | ite c t e iht ihe =>
  intro ρ r hr
  simp only[runT]at hr ⊢
  split at hr
  ·exact iht _ _ hr
  ·exact ihe _ _ hr
  ·cases hr
 | bind i t k iht ihk =>
  intro ρ r hr
  simp only[runT,Sbt]at hr ⊢
  obtain⟨o,ho,hr⟩:=hr
  refine⟨o,iht _ _ ho,?_⟩
  split at hr
  ·rename_i hk;rw[if_pos hk];exact ihk _ _ hr
  ·rename_i hk;rw[if_neg hk];exact hr
 | loop init body ih =>
  intro ρ r hr
  simp only[runT]at hr ⊢
  exact rZ (fun vs r hr=>ih _ _ hr) hnm _ _ hr
theorem Iap (T:Nat->Ent):∀ {n m:Nat},n<=m->∀ f,Le (mX T n f) (mX T m f)
 |0,_,_,_,_,_,hr=>by cases hr
 |n+1,0,hnm,_,_,_,_=>absurd hnm (by omega)
 | n + 1, m + 1, hnm, f, args, r, hr => by
  simp only[mX]at hr ⊢
  split at hr
  ·simp only[Sbt]at hr ⊢
   obtain⟨o,ho,hr⟩:=hr
   exact⟨o,Ka8 (fun f=>Iap T (by omega) f) (by omega) _ _ _ ho,hr⟩
  ·exact hr
  ·cases hr
section
variable (T:Nat->Ent)
noncomputable def Fun (f:Nat)(args:List D):Option (List D):=lim fun n=>mX T n f args
noncomputable def Ev {β:Type}(t:Tm β)(ρ:List D):Option (Out β):=lim fun n=>runT (mX T n) n t ρ
noncomputable def Lp {β:Type}(body:Tm β)(ρ vs:List D):Option (Out β):=lim fun n=>iter n (fun vs=>runT (mX T n) n body (ρ++vs)) vs
variable {T}
theorem Qbi (f:Nat)(args:List D):Va1 fun n=>mX T n f args:=fun n _ h=>Iap T (Vb7 n) f _ _ h
theorem Ibw {β:Type}(t:Tm β)(ρ:List D):Va1 fun n=>runT (mX T n) n t ρ:=fun n _ h=>Ka8 (fun f=>Iap T (Vb7 n) f) (Vb7 n) t _ _ h
theorem Sbs {β:Type}(body:Tm β)(ρ vs:List D):Va1 fun n=>iter n (fun vs=>runT (mX T n) n body (ρ++vs)) vs :=
 fun n _ h=>rZ (fun vs r hr=>Ibw body _ n r hr) (Vb7 n) _ _ h
theorem wH {f:Nat}{args r:List D}:Fun T f args=some r↔∃ n,mX T n f args=some r:=jI (Qbi f args)
theorem Ray {β:Type}{t:Tm β}{ρ:List D}{o:Out β}:Ev T t ρ=some o↔∃ n,runT (mX T n) n t ρ=some o:=jI (Ibw t ρ)
theorem Nbz {β:Type}(k:Kind)(xs:List aO)(e:β)(ρ:List D):Ev T (.leaf k xs e) ρ=some ⟨k,xs,e,ρ⟩:=jJ _
theorem Qbl {β:Type}(g:Option (aO×Bool))(p:aN)(xs:List aO)(n:Nat)(k:Tm β)(ρ:List D) :
  Ev T (.lt g p xs n k) ρ=if gOn ρ g then (p.run (xs.map (·.val ρ))).bind fun ds=>if ds.length=n then Ev T k (ρ++ds) else none
   else Ev T k (ρ++Sb1 n .undef):=by
 unfold Ev
 simp only[runT]
 split
 ·rw[Kac (a:=fun _=>p.run _) (fun _ _ h=>h)
   (fun ds=>by split;exact Ibw k _;exact fun _ _ h=>h)]
  rw[jJ]
  congr 1
  funext ds
  split
  ·rfl
  ·exact jJ _
 ·rfl
theorem Gbo {β:Type}(g:Option (aO×Bool))(f:Nat)(xs:List aO)(n:Nat)(olds:List aO)(k:Tm β)(ρ:List D) :
  Ev T (.call g f xs n olds k) ρ=if gOn ρ g then (Fun T f (xs.map (·.val ρ))).bind fun ds=>if ds.length=n then Ev T k (ρ++ds) else none
   else Ev T k (ρ++(Sb1 (n-olds.length) .undef++olds.map (·.val ρ))):=by
 unfold Ev
 simp only[runT]
 split
 ·rw[Kac (a:=fun n=>mX T n f _) (Qbi f _)
   (fun ds=>by split;exact Ibw k _;exact fun _ _ h=>h)]
  rw[<- Fun]
  congr 1
  funext ds
  split
  ·rfl
  ·exact jJ _
 ·rfl
theorem Qbm {β:Type}(c:aO)(t e:Tm β)(ρ:List D) :
  Ev T (.ite c t e) ρ=match c.val ρ with
   |.bool true=>Ev T t ρ
   |.bool false=>Ev T e ρ
   |_=>none:=by
 unfold Ev
 simp only[runT]
 split
 ·rfl
 ·rfl
 ·exact jJ _
theorem Nb0 {β:Type}(i:Nat)(t k:Tm β)(ρ:List D) :
  Ev T (.bind i t k) ρ=(Ev T t ρ).bind fun o=>if o.kind=.yield i then Ev T k (ρ++o.vals) else some o:=by
 unfold Ev
 simp only[runT]
 rw[Kac (a:=fun n=>runT (mX T n) n t ρ) (Ibw t ρ) (fun o=>by split;exact Ibw k _;exact fun _ _ h=>h)]
 congr 1
 funext o
 split
 ·rfl
 ·exact jJ _
theorem Nby {β:Type}(init:List aO)(body:Tm β)(ρ:List D):Ev T (.loop init body) ρ=Lp T body ρ (init.map (·.val ρ)):=rfl
theorem Nbx {β:Type}(body:Tm β)(ρ vs:List D) :
  Lp T body ρ vs=(Ev T body (ρ++vs)).bind fun o=>if o.kind=.cont then Lp T body ρ o.vals else some o:=by
 have hm:∀ vs,Va1 fun n=>iter n (fun vs=>runT (mX T n) n body (ρ++vs)) vs:=fun vs=>Sbs body ρ vs
 unfold Lp
 have e:∀ vs r,(lim fun n=>iter n (fun vs=>runT (mX T n) n body (ρ++vs)) vs)=some r↔((Ev T body (ρ++vs)).bind fun o=>if o.kind=.cont then (lim fun n=>iter n (fun vs=>runT (mX T n) n body (ρ++vs)) o.vals) else some o)=some r:=by
  intro vs r
  rw[jI (hm vs)]
  simp only[Sbt]
  constructor
  ·rintro⟨n,hn⟩
   cases n with
   |zero=>cases hn
   | succ n =>
    simp only[iter,Sbt]at hn
    obtain⟨o,ho,hr⟩:=hn
    refine⟨o,Ray.2 ⟨n+1,ho⟩,?_⟩
    split at hr
    ·rename_i hk
     rw[if_pos hk,jI (hm _)]
     exact⟨n+1,rZ (fun _ _ h=>h) (Vb7 n) _ _ hr⟩
    ·rename_i hk
     rw[if_neg hk];exact hr
  ·rintro⟨o,ho,hr⟩
   obtain⟨n,hn⟩:=Ray.1 ho
   split at hr
   ·rename_i hk
    obtain⟨m,hm'⟩:=(jI (hm _)).1 hr
    refine⟨max n m+1,?_⟩
    simp only[iter,Sbt]
    refine⟨o,(Ibw body (ρ++vs)).le (by omega) hn,?_⟩
    rw[if_pos hk]
    exact rZ (fun vs r h=>(Ibw body (ρ++vs)).le (by omega) h) (by omega) _ _ hm'
   ·rename_i hk
    refine⟨n+1,?_⟩
    simp only[iter,Sbt]
    exact⟨o,Ibw body _ _ _ hn,by rw[if_neg hk];exact hr⟩
 exact Option.ext (e vs)
theorem Qbh {f:Nat}{t:Tm Unit}(h:T f=.tm t)(args:List D):Fun T f args=(Ev T t args).bind Mbv:=by
 apply Option.ext
 intro r
 rw[wH]
 simp only[Sbt]
 constructor
 ·rintro⟨n,hn⟩
  cases n with
  |zero=>cases hn
  | succ n =>
   simp only[mX,h,Sbt]at hn
   obtain⟨o,ho,hr⟩:=hn
   exact⟨o,Ray.2 ⟨n,ho⟩,hr⟩
 ·rintro⟨o,ho,hr⟩
  obtain⟨n,hn⟩:=Ray.1 ho
  refine⟨n+1,?_⟩
  simp only[mX,h,Sbt]
  exact⟨o,hn,hr⟩
theorem sW {f:Nat}{e:List D->Option (List D)}(h:T f=.ext e)(args:List D):Fun T f args=e args:=by
 apply Option.ext
 intro r
 rw[wH]
 constructor
 ·rintro⟨n,hn⟩
  cases n with
  |zero=>cases hn
  |succ n=>simpa[mX,h] using hn
 ·intro hr
  exact⟨1,by simpa[mX,h] using hr⟩
end
def Tm.strip {β:Type}:Tm β->Tm Unit
 |.leaf k xs _=>.leaf k xs ()
 |.stuck=>.stuck
 |.lt g p xs n k=>.lt g p xs n k.strip
 |.call g f xs n olds k=>.call g f xs n olds k.strip
 |.ite c t e=>.ite c t.strip e.strip
 |.bind i t k=>.bind i t.strip k.strip
 |.loop init body=>.loop init body.strip
def Out.strip {β:Type}(o:Out β):Out Unit:=⟨o.kind,o.xs,(),o.env⟩
theorem Out.strip_vals {β:Type}(o:Out β):o.strip.vals=o.vals:=rfl
theorem Oa3 {β:Type}{f:List D->Option (Out β)}{g:List D->Option (Out Unit)}(h:∀ vs,g vs=(f vs).map Out.strip):∀ n vs,iter n g vs=(iter n f vs).map Out.strip
 |0,_=>rfl
 | n + 1, vs => by
  simp only[iter,h]
  cases f vs with
  |none=>rfl
  | some o =>
   simp only[Ubd,Sb6]
   by_cases hk:o.kind=.cont
   ·have:o.strip.kind=.cont:=hk
    rw[if_pos hk,if_pos this,Out.strip_vals]
    exact Oa3 h n _
   ·have:¬ o.strip.kind=.cont:=hk
    rw[if_neg hk,if_neg this];rfl
theorem Bb9 {β:Type}(cf:Nat->List D->Option (List D))(n:Nat)(t:Tm β):∀ ρ,runT cf n t.strip ρ=(runT cf n t ρ).map Out.strip:=by
 induction t with
 |leaf=>exact fun _=>rfl
 |stuck=>exact fun _=>rfl
 | lt g p xs k' k ih =>
  intro ρ
  simp only[Tm.strip,runT]
  split
  ·cases p.run (xs.map (·.val ρ)) with
   |none=>rfl
   | some ds =>
    simp only[Sb6]
    split
    ·exact ih _
    ·rfl
  ·exact ih _
 | call g f xs k' olds k ih =>
  intro ρ
  simp only[Tm.strip,runT]
  split
  ·cases cf f (xs.map (·.val ρ)) with
   |none=>rfl
   | some ds =>
    simp only[Sb6]
    split
    ·exact ih _
    ·rfl
  ·exact ih _
 | ite c t e iht ihe =>
  intro ρ
  simp only[Tm.strip,runT]
  split
  ·exact iht _
  ·exact ihe _
  ·rfl
 | bind i t k iht ihk =>
  intro ρ
  simp only[Tm.strip,runT,iht]
  cases runT cf n t ρ with
  |none=>rfl
  | some o =>
   simp only[Ubd,Sb6]
   by_cases hk:o.kind=.yield i
   ·have:o.strip.kind=.yield i:=hk
    rw[if_pos hk,if_pos this,Out.strip_vals]
    exact ihk _
   ·have:¬ o.strip.kind=.yield i:=hk
    rw[if_neg hk,if_neg this];rfl
 | loop init body ih =>
  intro ρ
  simp only[Tm.strip,runT]
  exact Oa3 (fun vs=>ih _) _ _
end Go.Proofs.YtpgnlmfmlffjcaaGreat.Rf

namespace Go.Proofs.YtpgnlmfmlffjcaaGreat.Rf
set_option linter.unusedVariables false
inductive Tr (α:Type) where
 |nil
 |node (x:Option α) (l r:Tr α)
 |over (n:Nat) (x:Option α) (t:Tr α)
 deriving Inhabited
def Tr.get {α:Type}:Tr α->Nat->Option α
 |.nil,_=>none
 |.node x l r,n=>bif Nat.beq n 0 then x else bif Nat.beq (n % 2) 1 then l.get (n / 2) else r.get (n / 2-1)
 |.over m x t,n=>bif Nat.beq n m then x else t.get n
def Tr.set {α:Type}:Nat->Tr α->Nat->Option α->Tr α
 |0,t,n,x=>.over n x t
 |k+1,.node y l r,n,x=>bif Nat.beq n 0 then .node x l r else bif Nat.beq (n % 2) 1 then .node y (Tr.set k l (n / 2) x) r else .node y l (Tr.set k r (n / 2-1) x)
 |k+1,.nil,n,x=>bif Nat.beq n 0 then .node x .nil .nil else bif Nat.beq (n % 2) 1 then .node none (Tr.set k .nil (n / 2) x) .nil else .node none .nil (Tr.set k .nil (n / 2-1) x)
 |_+1,.over m y t,n,x=>.over n x (.over m y t)
inductive CK where
 |sc (z:D)
 |sl (sz:Nat)
 |pn
 |ot
 deriving Inhabited
structure TI where
 agg:Bool
 size:Nat
 bytes:Nat
 cells:List CK
 flds:List (Nat×Nat)
 elem:Option Nat
 ik:Option IntKind
 isBool:Bool
 isStr:Bool
 isPtr:Bool
 cmp:Bool
 deriving Inhabited
def flat (P:Program):Nat->TypeId->Option (List TypeId)
 |0,_=>none
 | d + 1, t =>
  match P.underlying t with
  |some (.struct fs)=>fs.toList.foldl (fun acc f=>acc.bind fun l=>(flat P d f.type).bind fun m=>bif Nat.beq f.offset l.length then some (l++m) else none) (some [])
  |some (.array _ _)=>none
  |some _=>some [t]
  |none=>none
def uB (P:Program)(t:TypeId):CK :=
 match P.underlying t with
 |some (.int k)=>.sc (.int k 0)
 |some .bool=>.sc (.bool false)
 |some .string=>.sc (.str [])
 |some (.slice e)=>.sl (((P.info? e).map (·.size)).getD 0)
 |some (.pointer _)=>.pn
 |_=>.ot
def zeroCell:Value->CK->Bool
 |.int k n,.sc (.int k' n')=>decide (k=k')&&decide (n=0)&&decide (n'=0)
 |.bool b,.sc (.bool b')=>decide (b=false)&&decide (b'=false)
 |.string s,.sc (.str l)=>decide (s.data.toList=[])&&decide (l=[])
 |.slice none 0 0,.sl _=>true
 |.pointer none,.pn=>true
 |_,_=>false
def Xa4 (agg:Bool)(z:Option Value)(cs:List CK):Bool :=
 match agg,z,cs with
 |true,some (.agg vs),cs=>vs.toList.length==cs.length&&(vs.toList.zip cs).all fun p=>zeroCell p.1 p.2
 |false,some v,[c]=>zeroCell v c
 |_,_,_=>false
def Qbu (P:Program)(d:Nat)(t:TypeId):Bool :=
 match flat P d t,P.info? t with
 |some l,some i=>Nat.beq l.length i.size
 |_,_=>false
def Ral (P:Program):Nat->TypeId->Bool
 |0,_=>false
 | d + 1, t =>
  match P.underlying t with
  |some (.int _)=>true
  |some .bool=>true
  |some .string=>true
  | some (.struct fs) => !(P.stoodInHeld t) && fs.toList.all fun f => f.name != "_" && Ral P d f.type && Qbu P d f.type
  |_=>false
def Na0:TypeDesc->Bool
 |.struct _=>true
 |.array _ _=>true
 |_=>false
def Fbi:TypeDesc->List (Nat×Nat)
 |.struct fs=>fs.toList.map fun f=>(f.offset,f.type)
 |_=>[]
def Fbs:TypeDesc->Option Nat
 |.slice e=>some e
 |_=>none
def Qby:TypeDesc->Option IntKind
 |.int k=>some k
 |_=>none
def Wa9:TypeDesc->Bool
 |.bool=>true
 |_=>false
def Eb1:TypeDesc->Bool
 |.string=>true
 |_=>false
def Eb2:TypeDesc->Bool
 |.pointer _=>true
 |_=>false
def Rb0 (P:Program)(t:TypeId)(i:TypeInfo)(u:TypeDesc)(cs:List CK):TI :=
  { agg:=Na0 u,size:=i.size,bytes:=i.bytes,cells:=cs,flds:=Fbi u,elem:=Fbs u,ik:=Qby u,isBool:=Wa9 u,isStr:=Eb1 u,
    isPtr:=Eb2 u,cmp:=Na0 u&&Ral P 12 t&&!(P.eqGuardType P.depth t) }
def oH (P:Program)(t:TypeId):Option TI :=
 match P.info? t,P.underlying t,(flat P 12 t).map (·.map (uB P)) with
 |some i,some u,some cs=>bif Nat.beq cs.length i.size&&Xa4 (Na0 u) i.zero cs then some (Rb0 P t i u cs) else none
 |_,_,_=>none
inductive Pth where
 |no
 |view
 |path (p:List (aO×Nat×Nat))
 |suf (sz:Nat) (lo:aO)
 deriving Inhabited
inductive aZ where
 |dead
 |sc (x:aO)
 |su (g:aO×Bool) (x:aO)
 |ex (r:Nat)
 |sn (deps:List (Nat×Nat)) (p:Pth) (nie:Bool) (x:aO)
 |px (b off:Nat)
 |pe (l:aZ) (sz:Nat) (i:aO) (off:Nat)
 |rp (deps:List (Nat×Nat)) (sz:Nat) (x:aO)
 |pn
 |clo (f:Nat) (caps:List aZ)
 deriving Inhabited
inductive SV where
 |dead
 |one (l:aZ)
 |agg (ls:List aZ)
 |tup (vs:List (Bool×List aZ))
 deriving Inhabited
inductive RSt where
 |live | frozen | gone
 |fwd (r:Nat)
 deriving DecidableEq,Inhabited
inductive aW where
 |slot (g:Option (aO×Bool)) (v:SV)
 |box (ro:Bool) (ls:List aZ)
 |root (x:aO) (m ver:Nat) (st:RSt)
 deriving Inhabited
def kT (t:Nat):Nat:=3*t
def kB (b:Nat):Nat:=3*b+1
def kR (r:Nat):Nat:=3*r+2
inductive RdM (α:Type) where
 |ret (a:α)
 |no
 |rd (k:Nat) (f:Option aW->RdM α)
def RdM.bind {α γ:Type}:RdM α->(α->RdM γ)->RdM γ
 |.ret a,f=>f a
 |.no,_=>.no
 |.rd k h,f=>.rd k fun c=>(h c).bind f
instance:Monad RdM:={ pure:=.ret,bind:=.bind }
def RdM.run {α:Type}(look:Nat->Option aW):RdM α->Option (α×List Nat)
 |.ret a=>some (a,[])
 |.no=>none
 |.rd k f=>((f (look k)).run look).map fun x=>(x.1,k::x.2)
def RdM.eval {α:Type}(look:Nat->Option aW):RdM α->Option α
 |.ret a=>some a
 |.no=>none
 |.rd k f=>(f (look k)).eval look
def rdK (k:Nat):RdM (Option aW):=.rd k .ret
def tQ {α:Type}:Option α->RdM α
 |some a=>.ret a
 |none=>.no
def dD (b:Bool):RdM Unit:=bif b then .ret () else .no
inductive Step where
 |prim (p:aN) (xs:List aO) (n:Nat)
 |call (f:Nat) (xs:List aO) (n:Nat) (olds:List aO)
 deriving Inhabited
def Step.n:Step->Nat
 |.prim _ _ n=>n
 |.call _ _ n _=>n
structure dG where
 lets:List Step
 upd:List (Nat×aW)
 deriving Inhabited
def bZ (l:List Step):Nat:=l.foldl (fun s x=>s+x.n) 0
inductive LS where
 |sc
 |fz (nie:Bool)
 |mu (m:Nat)
 |ow (m:Nat)
 |px (b:Nat)
 |clo (f:Nat) (caps:List LS)
 |rp (sz:Nat)
 deriving Inhabited
inductive BS where
 |sc
 |fz (nie:Bool)
 |ow (m:Nat)
 |ot
 deriving Inhabited
inductive BO where
 |sc
 |fz
 |ow (m:Nat)
 |dead
 deriving Inhabited
inductive LR where
 |sc
 |fz
 |ow (m:Nat)
 |rp (sz:Nat)
 |bx (cells:List BO)
 deriving Inhabited
structure Sig where
 fn:Nat
 params:List (Bool×List LS)
 boxes:List (Bool×List (BS×BO))
 results:List (Bool×List LR)
 deriving Inhabited
structure Env where
 ti:Nat->Option TI
 sigs:List (Nat×Sig)
 ntmps:Nat
 ngh:Nat:=0
 freezeEx:Bool:=false
 moveSn:Bool:=false
 nomv:List (Nat×Nat):=[]
 hints:List (Nat×List (Nat×Nat×Nat×Nat)×List Nat×Nat×List Nat):=[]
 deriving Inhabited
def Qbz (a b:IntKind):Bool:=decide (a=b)
def D.beq0:D->D->Bool
 |.int k n,.int k' n'=>Qbz k k'&&decide (n=n')
 |.bool a,.bool b=>a==b
 |.str a,.str b=>a==b
 |.rows s [],.rows s' []=>Nat.beq s s'
 |.undef,.undef=>true
 |.hole,.hole=>true
 |_,_=>false
def aO.beq0:aO->aO->Bool
 |.v i,.v j=>Nat.beq i j
 |.c a,.c b=>a.beq0 b
 |_,_=>false
def Nbe:Option (aO×Bool)->Option (aO×Bool)->Bool
 |none,none=>true
 |some (a,b),some (c,d)=>a.beq0 c&&(b==d)
 |_,_=>false
def iW:CK->aZ
 |.sc z=>.sc (.c z)
 |.sl sz=>.sn [] .no true (.c (.rows sz []))
 |.pn=>.pn
 |.ot=>.dead
def Xaq (ti:Nat->Option TI)(t:TypeId):Value->Option SV
 |.int k n=>some (.one (.sc (.c (.int k n))))
 |.bool b=>some (.one (.sc (.c (.bool b))))
 |.string s=>some (.one (.sc (.c (.str s.data.toList))))
 | .slice none 0 0 => match ti t with
  |some { cells:=[.sl sz],.. }=>some (.one (.sn [] .no true (.c (.rows sz []))))
  |_=>none
 |.pointer none=>some (.one .pn)
 |_=>none
section
variable (E:Env)
def noG:Option (aO×Bool)->Bool
 |none=>true
 |some _=>false
def unG (g:Option (aO×Bool)):SV->SV
 |.one (.su h x)=>bif Nbe g (some h) then .one (.sc x) else .one (.su h x)
 |v=>v
def gOk (g:Option (aO×Bool)):Option (aO×Bool)->Bool
 |none=>true
 |g'=>Nbe g g'
def Ta3 (g:Option (aO×Bool))(t:TypeId):Operand->RdM SV
 | .tmp k => .rd (kT k) fun
  |some (.slot g' v)=>bif gOk g g'&&Ubs k E.ntmps then .ret (unG g v) else .no
  |_=>.no
 |.const v=>tQ (Xaq E.ti t v)
 |.func f=>.ret (.one (.clo f []))
 |.global _=>.no
def one:SV->RdM aZ
 |.one l=>.ret l
 |_=>.no
def rdL (g:Option (aO×Bool))(t:TypeId)(x:Operand):RdM aZ:=do one (<- Ta3 E g t x)
def Aae (g:Option (aO×Bool)):aZ->Option aO
 |.sc a=>some a
 |.su h a=>bif Nbe g (some h) then some a else none
 |_=>none
def rdA (g:Option (aO×Bool))(t:TypeId)(x:Operand):RdM aO:=do
 tQ (Aae g (<- rdL E g t x))
def Oap (g:Option (aO×Bool))(h:aO×Bool)(t:TypeId)(x:Operand):RdM aO:=do
 let l <- rdL E g t x
 match Aae g l with
 |some a=>.ret a
 |none=>tQ (Aae (some h) l)
def mkS (g:Option (aO×Bool))(x:aO):SV:=match g with
 |none=>.one (.sc x)
 |some z=>.one (.su z x)
def Aa2:List (Nat×Nat)->RdM (List (Nat×Nat))
 |[]=>.ret []
 | (r, k) :: rest => do
  match <- rdK (kR r) with
  | some (.root _ _ ver st) =>
   let ds <- Aa2 rest
   match st with
   |.frozen=>bif Nat.beq ver k then .ret ds else .no
   |.live=>bif Nat.beq ver k then .ret ((r,k)::ds) else .no
   |_=>.no
  |_=>.no
structure SlR where
 x:aO
 deps:List (Nat×Nat)
 own:Option (Nat×Nat×Nat×Pth)
 nie:Bool
def Caf:aZ->RdM SlR
 | .ex r => do
  match <- rdK (kR r) with
  |some (.root x m ver .live)=>.ret ⟨x,[(r,ver)],some (r,ver,m,.path []),false⟩
  |some (.root x m ver .frozen)=>.ret ⟨x,[],none,false⟩
  |_=>.no
 | .sn deps p nie x => do
  let ds <- Aa2 deps
  match p,deps,ds with
  |.no,_,_=>.ret ⟨x,ds,none,nie⟩
  | p, [(r, k)], [_] => do
   match <- rdK (kR r) with
   |some (.root _ m _ .live)=>.ret ⟨x,[(r,k)],some (r,k,m,p),nie⟩
   |_=>.no
  |_,_,_=>.ret ⟨x,ds,none,nie⟩
 |_=>.no
def mV (s:SlR)(i:aO)(sz off:Nat):CK->aO->aZ
 |.sc _,y=>.sc y
 | .sl _, y =>
  match s.own with
  |some (r,k,m,.path p)=>bif Nat.ble (p.length+2) m then .sn [(r,k)] (.path (p++[(i,sz,off)])) false y else .sn [] .no false y
  |_=>.sn s.deps .no false y
 |_,_=>.dead
def gY (s:SlR)(i:aO)(sz:Nat):Nat->List CK->Nat->List aZ
 |_,[],_=>[]
 |off,c::cs,y=>mV s i sz off c (.v y)::gY s i sz (off+1) cs (y+1)
def nH (agg:Bool):SV->Option (List aZ)
 |.one l=>bif agg then none else some [l]
 |.agg ls=>bif agg then some ls else none
 |_=>none
def Abd (agg:Bool)(ls:List aZ):Option SV :=
 bif agg then some (.agg ls) else match ls with
  |[l]=>some (.one l)
  |_=>none
def Jaf:CK->Nat
 |.sc (.int _ _)=>0
 |.sc (.bool _)=>1
 |.sc (.str _)=>2
 |_=>3
def Mb7:CK->Bool
 |.sc _=>true
 |_=>false
def Ra5:List CK->Bool
 |[]=>true
 |.sc _::r=>Ra5 r
 |_=>false
structure Put where
 xs:List aO
 moves:List (Nat×Nat×Nat)
 holes:List (Nat×Nat×List (aO×Nat×Nat))
 frz:List Nat
 depth:Nat
def big:Nat:=99
def Wax (mv mvs:Bool)(off:Nat):aZ->RdM Put
 |.sc x=>.ret ⟨[x],[],[],[],big⟩
 | .ex r => do
  match <- rdK (kR r) with
  |some (.root x m ver .live)=>bif mv then .ret ⟨[x],[(off,r,m)],[],[],m⟩ else .ret ⟨[x],[],[],[r],0⟩
  |some (.root x m ver .frozen)=>.ret ⟨[x],[],[],[],0⟩
  |_=>.no
 | .sn deps p nie x => do
  match deps,nie,x with
  |[],true,.c (.rows _ [])=>.ret ⟨[x],[],[],[],big⟩
  | _, _, _ =>
   let s <- Caf (.sn deps p nie x)
   match s.own with
   |some (r,k,m,.path q)=>bif mvs&&Nat.ble (q.length+1) m then .ret ⟨[x],[],[(off,r,q)],[],m-q.length⟩ else .ret ⟨[x],[],[],[r],0⟩
   |_=>.ret ⟨[x],[],[],s.deps.map (·.1),0⟩
 |_=>.no
def xG (mv mvs:Bool):Nat->List aZ->RdM Put
 |_,[]=>.ret ⟨[],[],[],[],big⟩
 | off, l :: ls => do
  let a <- Wax mv mvs off l
  let b <- xG mv mvs (off+1) ls
  .ret ⟨a.xs++b.xs,a.moves++b.moves,a.holes++b.holes,a.frz++b.frz,min a.depth b.depth⟩
def has (l:List Nat)(n:Nat):Bool:=l.any (Nat.beq n)
def meets (a b:List Nat):Bool:=a.any fun x=>has b x
def fO:List Nat->RdM (List (Nat×aW))
 |[]=>.ret []
 | r :: rs => do
  match <- rdK (kR r) with
  | some (.root x m ver .live) => do
   let l <- fO rs
   .ret ((kR r,.root x m ver .frozen)::l)
  |some (.root _ _ _ .frozen)=>fO rs
  |_=>.no
def distinct:List Nat->Bool
 |[]=>true
 |x::r=>!(has r x)&&distinct r
def Qae:Nat->aO->List (aO×Nat×Nat)->aO->List Step×aO
 |_,_,[],y=>([],y)
 | nv, X, (i, sz, off) :: p, y =>
  match p with
  |[]=>([.prim (.set sz off 1) [X,i,y] 1],.v nv)
  | _ =>
   let (l,z):=Qae (nv+1) (.v nv) p y
   let n:=bZ l
   ([.prim (.row sz off [false]) [X,i] 1]++l++[.prim (.set sz off 1) [X,i,z] 1],.v (nv+1+n))
def zA (o:Oper)(g:Option (aO×Bool))(lets:List Step)(v:SV)(upd:List (Nat×aW)):RdM dG :=
 .ret ⟨lets,(match o.dst with|some d=>[(kT d,.slot g v)]|none=>[])++upd⟩
def yZ (o:Oper)(g:Option (aO×Bool))(nv:Nat)(p:aN)(xs:List aO):RdM dG :=
 .ret ⟨[.prim p xs 1],match o.dst with|some d=>[(kT d,.slot none (mkS g (.v nv)))]|none=>[]⟩
def Ebe (o:Oper)(g:Option (aO×Bool))(nv:Nat)(v:SV):RdM dG :=
 match g,v with
 | some _, .one l => match Aae g l with
  |some x=>yZ o g nv .id [x]
  |none=>zA o g [] v []
 |_,_=>zA o g [] v []
def atoms:List aZ->Option (List aO)
 |[]=>some []
 |.sc x::r=>(atoms r).map (x::·)
 |_=>none
def Aaf:List SV->Option (List aZ)
 |[]=>some []
 |.one l::r=>(Aaf r).map (l::·)
 |_=>none
def Ma8 (g:Option (aO×Bool)):List aZ->Option (List aO)
 |[]=>some []
 |l::r=>(Aae g l).bind fun x=>(Ma8 g r).map (x::·)
def tiR (t:TypeId):RdM TI:=tQ (E.ti t)
def setRange {α:Type}(ls:List α)(off:Nat)(vs:List α):List α:=ls.take off++vs++ls.drop (off+vs.length)
def Sao:aZ->Bool
 |.su _ _=>false
 |_=>true
def Hak (nv:Nat)(mv mvs:Bool)(o:Oper)(g:Option (aO×Bool))(ti:TI)(p:aZ)(ls:List aZ):RdM dG:=do
 dD (Nat.beq ls.length ti.size&&o.dst.isNone)
 match p with
 | .px b off => do
  match <- rdK (kB b) with
  | some (.box false bs) => do
   dD (Nat.ble (off+ls.length) bs.length&&noG g&&ls.all Sao)
   .ret ⟨[],[(kB b,.box false (setRange bs off ls))]⟩
  |_=>.no
 | .pe l sz i off => do
  dD (noG g)
  let s <- Caf l
  match s.own with
  | some (r, k, m, .path q) => do
   dD (Nat.ble (q.length+1) m)
   match <- rdK (kR r) with
   | some (.root X m ver .live) => do
    let pu <- xG mv mvs off ls
    let fr <- fO pu.frz
    dD (!(has pu.frz r)&&!(pu.moves.any fun z=>Nat.beq z.2.1 r)&&pu.holes.isEmpty&&distinct (pu.moves.map (·.2.1))&&!(pu.moves.any fun z=>has pu.frz z.2.1))
    let m':=min m (q.length+1+pu.depth)
    let st1:Step:=.prim (.set sz off ti.size) ([s.x,i]++pu.xs) 1
    let (l2,X'):=Qae (nv+1) X q (.v nv)
    .ret ⟨st1::l2,(kR r,.root X' m' (ver+1) .live)::(pu.moves.map fun z=>(kR z.2.1,.root (.c .hole) 0 0 .gone))++fr⟩
   |_=>.no
  |_=>.no
 |_=>.no
def Abb (nv:Nat)(o:Oper)(g:Option (aO×Bool))(ti:TI)(p:aZ):RdM dG:=do
 match p with
 | .px b off => do
  match <- rdK (kB b) with
  | some (.box _ bs) =>
   dD (Nat.ble (off+ti.size) bs.length)
   match Abd ti.agg ((bs.drop off).take ti.size) with
   |some v=>Ebe o g nv v
   |none=>.no
  |_=>.no
 | .pe l sz i off => do
  let s <- Caf l
  match Abd ti.agg (gY s i sz off ti.cells nv) with
  |some (.one (.sc x))=>yZ o g nv (.row sz off [true]) [s.x,i]
  |some v=>zA o g [.prim (.row sz off (ti.cells.map Mb7)) [s.x,i] ti.size] v []
  |none=>.no
 |_=>.no
def Wac (o:Oper)(g:Option (aO×Bool))(fo:Nat):aZ->RdM dG
 |.px b off=>zA o g [] (.one (.px b (off+fo))) []
 |.pe l sz i off=>zA o g [] (.one (.pe l sz i (off+fo))) []
 |_=>.no
def xU (flds:List (Nat×Nat))(ti:Nat->Option TI):List aZ->List (Nat×SV)->Option (List aZ)
 |ls,[]=>some ls
 | ls, (i, v) :: r =>
  match flds[i]? with
  | some (off, t) => match ti t with
   | some f => match nH f.agg v with
    |some vs=>bif Nat.beq vs.length f.size&&Nat.ble (off+f.size) ls.length then xU flds ti (setRange ls off vs) r else none
    |none=>none
   |none=>none
  |none=>none
def Haq (g:Option (aO×Bool))(ty:Nat->TypeId):List (Nat×Operand)->RdM (List (Nat×SV))
 |[]=>.ret []
 | (i, x) :: r => do
  let v <- Ta3 E g (ty i) x
  let l <- Haq g ty r
  .ret ((i,v)::l)
def Gau (ti:TI)(len:Nat):List aZ->List (Nat×SV)->Option (List aZ)
 |ls,[]=>some ls
 | ls, (i, v) :: r =>
  match nH ti.agg v with
  |some vs=>bif Nat.beq vs.length ti.size&&Ubs i len then Gau ti len (setRange ls (i*ti.size) vs) r else none
  |none=>none
def Hbh {α:Type}(l:List α):Nat->List α
 |0=>[]
 |n+1=>l++Hbh l n
def Abc (flatE:Bool)(y:SlR):RdM (Nat×List (Nat×aW)×List Nat) :=
 bif flatE then .ret (big,[],y.deps.map (·.1)) else
 match y.own with
 | some (r, k, m, .path []) =>
  bif Nat.ble 2 m then .ret (m,[(kR r,.root (.c .hole) 0 0 .gone)],[r]) else .ret (1,[],[r])
 | some (r, k, m, _) => do
  let fr <- fO [r]
  .ret (1,fr,[r])
 | none => match y.x with
  |.c (.rows _ [])=>.ret (big,[],[])
  | _ => do
   let fr <- fO (y.deps.map (·.1))
   .ret (1,fr,y.deps.map (·.1))
def Cac (nv nr:Nat)(o:Oper)(ti:TI)(y:SlR)(dy:Nat)(updY:List (Nat×aW))(sx:aO)(m:Nat)(pre:List Step)(upd:List (Nat×aW)):RdM dG :=
 zA o none (pre++[.prim (.app ti.size ti.bytes (Ra5 ti.cells)) [sx,y.x] 1]) (.one (.ex nr))
  ((kR nr,.root (.v (nv+bZ pre)) (bif Ra5 ti.cells then big else min m dy) 0 .live)::upd++updY)
def Pax (nv nr:Nat)(mv mvs:Bool)(o:Oper)(ti:TI)(sl yl:aZ):RdM dG:=do
 let y <- Caf yl
 let flatE:=Ra5 ti.cells
 let (dy,updY,ry) <- Abc flatE y
 match sl with
 |.sn [] _ true (.c (.rows z []))=>Cac nv nr o ti y dy updY (.c (.rows z [])) big [] []
 | _ => do
  let s <- Caf sl
  match s.own with
  | some (r, k, m, q) =>
   dD ((!(has ry r)||flatE)&&Nat.ble 1 m)
   match q with
   |.path []=>Cac nv nr o ti y dy updY s.x m [] [(kR r,.root (.c .hole) 0 0 .gone)]
   |.view=>bif flatE||Nat.beq m 1 then Cac nv nr o ti y dy updY s.x m [] [(kR r,.root (.c .hole) 0 0 .gone)] else .no
   | .path q => do
    dD (Nat.ble (q.length+1) m&&!(has ry r))
    match <- rdK (kR r) with
    | some (.root X m ver .live) =>
     let (l,X'):=Qae nv X q (.c .hole)
     Cac nv nr o ti y dy updY s.x (m-q.length) l [(kR r,.root X' m (ver+1) .live)]
    |_=>.no
   |.no=>.no
   |.suf _ _=>.no
  |none=>.no
def mW:List LS->List aZ->List (Nat×Nat×Nat)->Option (List (Nat×Nat×Nat))
 |[],[],acc=>some acc
 |.px b::ss,.px c off::ls,acc=>mW ss ls ((b,c,off)::acc)
 |_,_,_=>none
def Sa0:List LS->List aZ->Bool
  |[],[]=>true
  | s :: ss, l :: ls =>
    (match s,l with
     |.sc,.sc _=>true
     |.sc,.su _ _=>true
     |.fz _,.ex _=>true
     |.fz _,.sn ..=>true
     |.mu _,.ex _=>true
     |.mu _,.sn ..=>true
     |.ow _,.ex _=>true
     |.ow _,.sn ..=>true
     |.px _,.px _ _=>true
     |.clo f cs,.clo f' ls'=>Nat.beq f f'&&Nat.beq cs.length ls'.length
     |.rp _,.rp _ _ _=>true
     |_,_=>false)&&Sa0 ss ls
  |_,_=>false
def yP:SV->List aZ
 |.one l=>[l]
 |.agg ls=>ls
 |_=>[]
def Rbc:SV->Bool
 |.agg _=>true
 |_=>false
def Xax:List (Bool×List LS)->List SV->Bool
 |[],[]=>true
 |(a,ss)::ps,v::vs=>(a==Rbc v)&&Sa0 ss (yP v)&&Xax ps vs
 |_,_=>false
def Mae (f:Nat)(vs:List SV):List (Nat×Sig)->Option (Nat×Sig)
 |[]=>none
 |(k,s)::r=>bif Nat.beq s.fn f&&Xax s.params vs then some (k,s) else Mae f vs r
inductive RT where
 |nil
 |own (r d:Nat)
 |mu (r d:Nat) (q:List (aO×Nat×Nat)) (X:aO)
 deriving Inhabited
structure Take where
 xs:List aO
 ptrs:List (Nat×Nat×Nat)
 deps:List (Nat×Nat)
 lets:List Step
 rts:List RT
def Take.empty:Take:=⟨[],[],[],[],[]⟩
def Saf (g:Option (aO×Bool))(T:Take)(l:aZ):RdM Take:=do
 let x <- tQ (Aae g l)
 .ret { T with xs:=T.xs++[x] }
def wS (T:Take)(nie:Bool)(l:aZ):RdM Take:=do
 let s <- Caf l
 .ret { T with xs:=T.xs++[s.x],deps:=T.deps++s.deps,lets:=T.lets++(bif nie&&!s.nie then [.prim .ne [s.x] 0] else []) }
def Aab (T:Take)(d:Nat):aZ->RdM Take
 | .ex r => do
  match <- rdK (kR r) with
  | some (.root x m ver .live) => do
   dD (Nat.ble d m)
   .ret { T with xs:=T.xs++[x],rts:=T.rts++[.own r d] }
  |_=>.no
 |.sn [] _ true (.c (.rows z []))=>.ret { T with xs:=T.xs++[.c (.rows z [])],rts:=T.rts++[.nil] }
 |_=>.no
def Na8 (T:Take)(d:Nat)(l:aZ):RdM Take:=do
 let s <- Caf l
 match s.own with
 | some (r, k, m, .path q) => do
  dD (Nat.ble (q.length+d) m)
  match <- rdK (kR r) with
  |some (.root X _ _ .live)=>.ret { T with xs:=T.xs++[s.x],rts:=T.rts++[.mu r d q X] }
  |_=>.no
 |_=>.no
def Kaq (T:Take)(z:Nat):aZ->RdM Take
 | .rp deps sz' x => do
  let ds <- Aa2 deps
  .ret { T with xs:=T.xs++[x],deps:=T.deps++ds }
 |.pn=>.ret { T with xs:=T.xs++[.c (.rows z [])] }
 |_=>.no
def yM (g:Option (aO×Bool))(T:Take):LS->aZ->RdM Take
 |.sc,l=>Saf g T l
 |.fz nie,l=>wS T nie l
 |.mu d,l=>Na8 T d l
 |.ow d,l=>Aab T d l
 |.px b,.px c off=>.ret { T with ptrs:=T.ptrs++[(b,c,off)] }
 | .clo f cs, .clo f' ls =>
  match mW cs ls [] with
  |some l=>bif Nat.beq f f' then .ret { T with ptrs:=T.ptrs++l } else .no
  |none=>.no
 |.rp z,l=>Kaq T z l
 |_,_=>.no
def eG (g:Option (aO×Bool)):Take->List LS->List aZ->RdM Take
 |T,[],[]=>.ret T
 | T, s :: ss, l :: ls => do
  let T <- yM g T s l
  eG g T ss ls
 |_,_,_=>.no
def iE (g:Option (aO×Bool)):Take->List (Bool×List LS)->List SV->RdM Take
 |T,[],[]=>.ret T
 | T, (a, ss) :: ps, v :: vs => do
  let ls <- tQ (nH a v)
  let T <- eG g T ss ls
  iE g T ps vs
 |_,_,_=>.no
def Fam (T:Take):BS->aZ->RdM Take
 |.sc,.sc x=>.ret { T with xs:=T.xs++[x] }
 |.fz nie,l=>wS T nie l
 |.ow d,l=>Aab T d l
 |.ot,l=>bif Sao l then .ret T else .no
 |_,_=>.no
def gF:Take->List (BS×BO)->List aZ->RdM Take
 |T,[],_=>.ret T
 | T, (s, _) :: ss, l :: ls => do
  let T <- Fam T s l
  gF T ss ls
 |_,_::_,[]=>.no
def Rb4:List (BS×BO)->Bool
 |[]=>true
 |(.ow _,_)::_=>false
 |_::r=>Rb4 r
def uS (b:Nat):List (Nat×Nat×Nat)->Option (Nat×Nat)
 |[]=>none
 |(b',c,off)::r=>bif Nat.beq b' b then some (c,off) else uS b r
def iA (ptrs:List (Nat×Nat×Nat)):Take->Nat->List (Bool×List (BS×BO))->RdM Take
 |T,_,[]=>.ret T
 | T, b, (ro, cs) :: r => do
  match uS b ptrs with
  | some (c, off) => do
   match <- rdK (kB c) with
   | some (.box ro' ls) => do
    dD (((ro&&Rb4 cs)||(!ro&&!ro'&&!cs.isEmpty))&&Nat.ble (off+cs.length) ls.length)
    let T <- gF T cs (ls.drop off)
    iA ptrs T (b+1) r
   |_=>.no
  |none=>.no
def kY (w:Bool)(ptrs:List (Nat×Nat×Nat)):Nat->List (Bool×List (BS×BO))->List Nat
 |_,[]=>[]
 |b,(ro,_)::r=>bif ro==w then (match uS b ptrs with | some (c,_)=>c::kY w ptrs (b+1) r | none=>kY w ptrs (b+1) r) else kY w ptrs (b+1) r
def Abp (nbx:Nat)(ptrs:List (Nat×Nat×Nat)):List (Nat×Nat×Nat)->Bool
 |[]=>true
 |(b,c,off)::r=>Ubs b nbx&&(match uS b ptrs with | some (c',off')=>Nat.beq c c'&&Nat.beq off off' | none=>false)&&Abp nbx ptrs r
def dS:List RT->List Nat
 |[]=>[]
 |.nil::r=>dS r
 |.own s _::r=>s::dS r
 |.mu s _ _ _::r=>s::dS r
def Dbj (s:Sig)(T:Take):Bool :=
 let wr:=kY false T.ptrs 0 s.boxes
 Abp s.boxes.length T.ptrs T.ptrs&&distinct (dS T.rts)&&!(T.deps.any fun d=>has (dS T.rts) d.1)&&distinct wr&&!(meets wr (kY true T.ptrs 0 s.boxes))
def LR.n:LR->Nat
 |.bx cs=>cs.length
 |_=>1
def sP:List LR->Nat
 |[]=>0
 |s::ss=>s.n+sP ss
def bxL:List LR->Nat
 |[]=>0
 |.bx _::ss=>1+bxL ss
 |_::ss=>bxL ss
def oL:List (Bool×List LR)->Nat
 |[]=>0
 |(_,ss)::rs=>bxL ss+oL rs
def cZ:List (Bool×List LR)->Nat
 |[]=>0
 |(_,ss)::rs=>sP ss+cZ rs
def mY (deps:List (Nat×Nat))(y nr:Nat):BO->aZ×List (Nat×aW)×Nat
 |.sc=>(.sc (.v y),[],nr)
 |.fz=>(.sn deps .no false (.v y),[],nr)
 |.ow m=>(.ex nr,[(kR nr,.root (.v y) m 0 .live)],nr+1)
 |.dead=>(.dead,[],nr)
def fI (deps:List (Nat×Nat)):Nat->Nat->List BO->List aZ×List (Nat×aW)×Nat
 |_,nr,[]=>([],[],nr)
 | y, nr, s :: ss =>
  let (l,u,nr):=mY deps y nr s
  let (ls,us,nr):=fI deps (y+1) nr ss
  (l::ls,u++us,nr)
def dU (gd:Bool)(deps:List (Nat×Nat))(nb y nr:Nat):LR->aZ×List (Nat×aW)×Nat
 |.sc=>(.sc (.v y),[],nr)
 |.fz=>(.sn deps .no false (.v y),[],nr)
 |.ow m=>bif gd then (.sn deps .no false (.v y),[],nr+1) else (.ex nr,[(kR nr,.root (.v y) m 0 .live)],nr+1)
 |.rp sz=>(.rp deps sz (.v y),[],nr)
 | .bx cs =>
  let (ls,us,nr):=fI deps y nr cs
  (.px nb 0,(kB nb,.box false ls)::us,nr)
def eY (gd:Bool)(deps:List (Nat×Nat))(nb:Nat):Nat->Nat->List LR->List aZ×List (Nat×aW)×Nat
 |_,nr,[]=>([],[],nr)
 | y, nr, s :: ss =>
  let (l,u,nr):=dU gd deps nb y nr s
  let (ls,us,nr):=eY gd deps nb (y+s.n) nr ss
  (l::ls,u++us,nr)
def lV (gd:Bool)(deps:List (Nat×Nat))(nb:Nat):Nat->Nat->List (Bool×List LR)->List (Bool×List aZ)×List (Nat×aW)×Nat
 |_,nr,[]=>([],[],nr)
 | y, nr, (a, s) :: ss =>
  let (l,u,nr):=eY gd deps nb y nr s
  let (ls,us,nr):=lV gd deps nb (y+sP s) nr ss
  ((a,l)::ls,u++us,nr)
def qI (ptrs:List (Nat×Nat×Nat))(deps:List (Nat×Nat)):Nat->Nat->Nat->List (Bool×List (BS×BO))->RdM (List (Nat×aW))
 |_,y,nr,[]=>.ret []
 | b, y, nr, (ro, cs) :: r =>
  bif ro then qI ptrs deps (b+1) y nr r else
  match uS b ptrs with
  | some (c, off) => do
   match <- rdK (kB c) with
   | some (.box false ls) => do
    let (ns,us,nr):=fI deps y nr (cs.map (·.2))
    let rest <- qI ptrs deps (b+1) (y+cs.length) nr r
    .ret ((kB c,.box false (setRange ls off ns))::us++rest)
   |_=>.no
  |none=>.no
def Daj:Nat->Nat->List RT->RdM (List Step×List (Nat×aW))
 |_,_,[]=>.ret ([],[])
 | y, nv, .mu r d q X :: rest => do
  match <- rdK (kR r) with
  | some (.root _ m v .live) => do
   let (l,X'):=Qae nv X q (.v y)
   let (ls,us) <- Daj (y+1) (nv+bZ l) rest
   .ret ((bif Nat.beq (q.length+d) m then [] else [.prim (.dep d) [.v y] 0])++(l++ls),(kR r,.root X' m (v+1) .live)::us)
  |_=>.no
 |y,nv,_::rest=>Daj y nv rest
def jL:List RT->List (Nat×aW)
 |[]=>[]
 |.own r _::rest=>(kR r,.root (.c .hole) 0 0 .gone)::jL rest
 |_::rest=>jL rest
def gP:List (Bool×List (BS×BO))->Nat
 |[]=>0
 |(ro,cs)::r=>(bif ro then 0 else cs.length)+gP r
def uA:Nat->List BO->List Step
 |_,[]=>[]
 |y,.ow m::r=>.prim (.dep m) [.v y] 0::uA (y+1) r
 |y,_::r=>uA (y+1) r
def Xau:Nat->List LR->List Step
 |_,[]=>[]
 |y,.ow m::r=>.prim (.dep m) [.v y] 0::Xau (y+1) r
 |y,.bx cs::r=>uA y cs++Xau (y+cs.length) r
 |y,_::r=>Xau (y+1) r
def Fb5:Nat->List (Bool×List LR)->List Step
 |_,[]=>[]
 |y,(_,ss)::r=>Xau y ss++Fb5 (y+sP ss) r
def Fb6:Nat->List RT->List Step
 |_,[]=>[]
 |y,.mu _ d _ _::r=>.prim (.dep d) [.v y] 0::Fb6 (y+1) r
 |y,_::r=>Fb6 y r
def Cbw:Nat->List (Bool×List (BS×BO))->List Step
 |_,[]=>[]
 |y,(ro,cs)::r=>bif ro then Cbw y r else uA y (cs.map (·.2))++Cbw (y+cs.length) r
def Bai:RT->Bool
 |.mu _ _ _ _=>true
 |_=>false
def oF:List (BS×BO)->List aZ->RdM (List aO)
 |[],_=>.ret []
 | (s, o) :: ss, l :: ls => do
  let x <- (match s,o,l with
   |.sc,.sc,.sc x=>RdM.ret x
   | .fz _, .fz, l => do
    let r <- Caf l
    RdM.ret r.x
   |_,.dead,l=>bif Sao l then .ret (.c .hole) else .no
   |_,_,_=>.no)
  let r <- oF ss ls
  .ret (x::r)
 |_::_,[]=>.no
def kZ (ptrs:List (Nat×Nat×Nat)):Nat->List (Bool×List (BS×BO))->RdM (List aO)
 |_,[]=>.ret []
 | b, (ro, cs) :: r =>
  bif ro then kZ ptrs (b+1) r else
  match uS b ptrs with
  | some (c, off) => do
   match <- rdK (kB c) with
   | some (.box false ls) => do
    let l <- oF cs (ls.drop off)
    let m <- kZ ptrs (b+1) r
    .ret (l++m)
   |_=>.no
  |none=>.no
def Fa3 (g:Option (aO×Bool)):List (Bool×List aZ)->SV
 |[(false,[.sc x])]=>mkS g x
 |[(false,[l])]=>.one l
 |[(true,ls)]=>.agg ls
 |rs=>.tup rs
def Hbg (g:Option (aO×Bool)):SV->Option (aO×Bool)
 |.one (.su _ _)=>none
 |_=>g
def Ib2 (nv nb nr:Nat)(o:Oper)(g:Option (aO×Bool))(f:Nat)(vs:List SV):RdM dG:=do
 match Mae f vs E.sigs with
 |none=>.no
 | some (key, s) => do
  let T <- iE g Take.empty s.params vs
  let T <- iA T.ptrs T 0 s.boxes
  dD (Dbj s T&&Nat.ble (oL s.results) 1&&(noG g||(T.rts.isEmpty&&Nat.beq (oL s.results) 0)))
  let nres:=cZ s.results
  let nmu:=(T.rts.filter Bai).length
  let total:=nres+nmu+gP s.boxes
  let y0:=nv+bZ T.lets
  let (rs,us,nr1):=lV (!noG g) T.deps nb y0 nr s.results
  let bu <- qI T.ptrs T.deps 0 (y0+nres+nmu) nr1 s.boxes
  let chk:=bif T.deps.isEmpty then [] else Fb5 y0 s.results++Fb6 (y0+nres) T.rts++Cbw (y0+nres+nmu) s.boxes
  let (ml,mu) <- Daj (y0+nres) (y0+total) T.rts
  let olds <- (match g with
   |none=>RdM.ret []
   |some _=>kZ T.ptrs 0 s.boxes)
  let v:=Fa3 g rs
  .ret ⟨T.lets++[.call key (T.xs) total olds]++chk++ml,(match o.dst with|some d=>[(kT d,.slot (Hbg g v) v)]|none=>[])++(us++bu++mu++jL T.rts)⟩
def Dah (g:Option (aO×Bool)):List Operand->List TypeId->RdM (List SV)
 |[],_=>.ret []
 | x :: xs, ts => do
  let v <- Ta3 E g (ts.headD 0) x
  let l <- Dah g xs ts.tail
  .ret (v::l)
def Rbo:Option IntKind->Bool
 |some k=>Qbz k .u8
 |none=>false
def Oa4:Operand->Bool
 |.const (.slice none _ _)=>true
 |_=>false
def Ab0:Operand->Bool
 |.const (.pointer none)=>true
 |_=>false
def Qbv (nv:Nat)(o:Oper)(g:Option (aO×Bool))(neg:Bool)(t:TypeId)(x y:Operand):RdM dG:=do
 let a <- Ta3 E g t x
 let b <- Ta3 E g t y
 match a,b with
 | .agg ls, .agg ms => do
  let ti <- tiR E t
  match atoms ls,atoms ms with
  | some xs, some ys => do
   dD (ti.cmp&&Nat.beq xs.length ti.size&&Nat.beq ys.length ti.size)
   let d:=match o.dst with|some d=>[(kT d,aW.slot none (mkS g (.v (bif neg then nv+1 else nv))))]|none=>[]
   .ret ⟨[.prim (.eqs (ti.cells.map Jaf)) (xs++ys) 1]++(bif neg then [.prim .not [.v nv] 1] else []),d⟩
  |_,_=>.no
 | .one l, .one m => do
  let ti <- tiR E t
  match Aae g l,Aae g m with
  | some p, some q => do
   bif ti.isBool then yZ o g nv (.eqb neg) [p,q] else yZ o g nv (.bin (bif neg then .neq else .eql)) [p,q]
  |_,_ =>
  let res (p:aN) (x:aO):RdM dG :=
   .ret ⟨[.prim p [x] 1]++(bif neg then [.prim .not [.v nv] 1] else []),match o.dst with|some d=>[(kT d,aW.slot none (mkS g (.v (bif neg then nv+1 else nv))))]|none=>[]⟩
  bif Oa4 y then do
   dD ti.elem.isSome
   let s <- Caf l
   let r <- res .emp s.x
   .ret (bif s.nie then r else ⟨.prim .ne [s.x] 0::r.lets,r.upd⟩)
  else bif Ab0 y then do
   dD ti.isPtr
   match l with
   | .rp deps sz x => do
    let _ <- Aa2 deps
    res .emp x
   |.pn=>yZ o g nv .id [.c (.bool (!neg))]
   |.px _ _=>yZ o g nv .id [.c (.bool neg)]
   |.pe _ _ _ _=>yZ o g nv .id [.c (.bool neg)]
   |_=>.no
  else .no
 |_,_=>.no
def Na2:List CK->Option (List D)
 |[]=>some []
 |.sc z::r=>(Na2 r).map (z::·)
 |.sl sz::r=>(Na2 r).map (.rows sz []::·)
 |_::_=>none
def Na3 (ei:TI)(lo:Bool)(s:SlR):Pth×Bool :=
 let one (m:Nat):Pth×Bool:=bif Nat.beq m 1||!lo then (.view,false) else bif Ra5 ei.cells then (.view,true) else (.no,false)
 match s.own with
 |some (_,_,m,.path [])=>one m
 |some (_,_,m,.view)=>one m
 |_=>(.no,false)
def Mbg (p:Pth)(sz:Nat)(lo:aO)(s:SlR):Pth :=
 match p,s.own with
 |.no,some (_,_,_,.path [])=>.suf sz lo
 |p,_=>p
def Wad (nv:Nat)(o:Oper)(ei:TI)(l:aZ):RdM dG:=do
 let s <- Caf l
 match s.own with
 | some (r, k, m, .suf sz lo) => do
  dD (Nat.beq sz 1&&Nat.beq ei.size 1&&Nat.ble 1 m)
  match <- rdK (kR r) with
  |some (.root X m' ver .live)=>.ret ⟨[.prim (.clr 1) [X,lo] 1],(match o.dst with | some d=>[(kT d,.slot none .dead)] | none=>[])++[(kR r,.root (.v nv) m' (ver+1) .live)]⟩
  |_=>.no
 |_=>.no
def vT (mv mvs:Bool)(nv nb nr:Nat)(g:Option (aO×Bool))(o:Oper):RdM dG :=
 match o.op with
 |.move x | .assign x=>do Ebe o g nv (<- Ta3 E g o.type x)
 | .pick c a b => do
  let c <- rdA E g 0 c
  let a <- Oap E g (c,true) o.type a
  let b <- Oap E g (c,false) o.type b
  yZ o g nv .pick [c,a,b]
 | .alloc e => do
  let ti <- tiR E e
  dD (noG g)
  zA o g [] (.one (.px nb 0)) [(kB nb,.box false (ti.cells.map iW))]
 | .box e x => do
  let ti <- tiR E e
  let v <- Ta3 E g e x
  match nH ti.agg v with
  | some ls => do
   dD (Nat.beq ls.length ti.size&&noG g&&ls.all Sao)
   zA o g [] (.one (.px nb 0)) [(kB nb,.box false ls)]
  |none=>.no
 | .build t parts => do
  let ti <- tiR E t
  dD ti.agg
  let ps <- Haq E g (fun i=>(ti.flds.getD i (0,0)).2) parts.toList
  match xU ti.flds E.ti (ti.cells.map iW) ps with
  |some ls=>zA o g [] (.agg ls) []
  |none=>.no
 | .buildSlice t len parts => do
  let st <- tiR E t
  let e <- tQ st.elem
  let ti <- tiR E e
  let ps <- Haq E g (fun _=>e) parts.toList
  dD (Nat.ble (len*ti.size) 4096&&Ubs 0 ti.size&&Ubs (len*ti.bytes) 4096)
  match Gau ti len (Hbh (ti.cells.map iW) len) ps with
  | some ls => do
   let pu <- xG mv mvs 0 ls
   dD (noG g||(pu.moves.isEmpty&&pu.holes.isEmpty&&pu.frz.isEmpty))
   let fr <- fO pu.frz
   dD (distinct (pu.moves.map (·.2.1))&&!(pu.moves.any fun z=>has pu.frz z.2.1)&&pu.holes.isEmpty)
   bif noG g then
    zA o g [.prim (.mk ti.size len) pu.xs 1] (.one (.ex nr))
     ((kR nr,.root (.v nv) (min big (pu.depth+1)) 0 .live)::(pu.moves.map fun z=>(kR z.2.1,.root (.c .hole) 0 0 .gone))++fr)
   else zA o g [.prim (.mk ti.size len) pu.xs 1] (.one (.sn [] .no false (.v nv))) []
  |none=>.no
 | .load t a => do
  let ti <- tiR E t
  Abb nv o g ti (<- rdL E g 0 a)
 | .store t a x => do
  let ti <- tiR E t
  let p <- rdL E g 0 a
  let v <- Ta3 E g t x
  match nH ti.agg v with
  |some ls=>Hak nv mv mvs o g ti p ls
  |none=>.no
 | .nilCheck x => do
  match <- rdL E g 0 x with
  | .rp deps sz y => do
   let ds <- Aa2 deps
   zA o g [.prim .ne [y] 0] (.one (.pe (.sn ds .no false y) sz (.c (.int .i64 0)) 0)) []
  |.px b off=>zA o g [] (.one (.px b off)) []
  |.pe l sz i off=>zA o g [] (.one (.pe l sz i off)) []
  |.clo f cs=>zA o g [] (.one (.clo f cs)) []
  |.pn=>zA o g [.prim .ne [.c (.rows 0 [])] 0] (.one (.pe (.sn [] .no false (.c (.rows 0 []))) 0 (.c (.int .i64 0)) 0)) []
  |_=>.no
 |.binOp .eql t x y _=>Qbv E nv o g false t x y
 |.binOp .neq t x y _=>Qbv E nv o g true t x y
 | .binOp op t x y ty => do
  let a <- rdA E g t x
  let b <- rdA E g ty y
  yZ o g nv (.bin op) [a,b]
 | .unOp op _ x => do
  let a <- rdA E g 0 x
  match op with
  |.not=>yZ o g nv .not [a]
  |.neg=>yZ o g nv .neg [a]
  |.xor=>yZ o g nv .inv [a]
  |_=>.no
 | .convert src dst x => do
  let s <- tiR E src
  let d <- tiR E dst
  match d.ik with
  | some k => do
   dD s.ik.isSome
   let a <- rdA E g src x
   yZ o g nv (.conv k) [a]
  | none =>
   bif d.isStr then
    bif s.isStr then do
     let a <- rdA E g src x
     yZ o g nv .sid [a]
    else do
     let e <- tQ s.elem
     let ei <- tiR E e
     dD (Rbo ei.ik)
     let r <- Caf (<- rdL E g src x)
     yZ o g nv .bstr [r.x]
   else .no
 | .makeFunc (.func f) first caps => do
  dD first.isEmpty
  let vs <- Dah E g caps.toList []
  let ls <- tQ (Aaf vs)
  zA o g [] (.one (.clo f ls)) []
 | .makeSlice t l c => do
  let st <- tiR E t
  let e <- tQ st.elem
  let ti <- tiR E e
  dD (noG g)
  let a <- rdA E g 0 l
  let b <- rdA E g 0 c
  dD (a.beq0 b&&Ubs 0 ti.size&&Ubs 0 ti.bytes)
  let zs <- tQ (Na2 ti.cells)
  zA o none [.prim (.make ti.bytes zs) [a] 1] (.one (.ex nr)) [(kR nr,.root (.v nv) big 0 .live)]
 | .slice t x lo hi mx => do
  let ti <- tiR E t
  match mx with
  |some _=>.no
  | none => do
   let l <- rdL E g t x
   let lo' <- (match lo with|some a=>rdA E g 0 a|none=>RdM.ret (.c (.int .i64 0)))
   match l with
   | .sc s => do
    dD (ti.isStr&&(noG g||hi.isSome))
    match hi with
    | some h => do
     let h <- rdA E g 0 h
     yZ o g nv .ssub [s,lo',h]
    | none =>
     .ret ⟨[.prim .slen [s] 1,.prim .ssub [s,lo',.v nv] 1],match o.dst with|some d=>[(kT d,.slot none (mkS g (.v (nv+1))))]|none=>[]⟩
   | l => do
    dD ti.elem.isSome
    let s <- Caf l
    let ei <- tiR E (ti.elem.getD 0)
    let (p,fl):=Na3 ei lo.isSome s
    match hi with
    | some h => do
     let h <- rdA E g 0 h
     match l with
     |.sn _ _ true (.c (.rows z []))=>zA o g [.prim (.sub ei.size fl) [s.x,lo',h] 1] (.one l) []
     |_=>zA o g [.prim (.sub ei.size fl) [s.x,lo',h] 1] (.one (.sn s.deps p false (.v nv))) []
    | none =>
     zA o g [.prim .len [s.x] 1,.prim (.sub ei.size fl) [s.x,lo',.v nv] 1] (.one (.sn s.deps (Mbg p ei.size lo' s) false (.v (nv+1)))) []
 | .fieldAddr t x f => do
  let ti <- tiR E t
  match ti.flds[f]? with
  | some (off, ft) => do
   let fi <- tiR E ft
   dD (Ubs 0 fi.size)
   Wac o g off (<- rdL E g 0 x)
  |none=>.no
 | .field t x f => do
  let ti <- tiR E t
  match ti.flds[f]? with
  | some (off, ft) => do
   let fi <- tiR E ft
   match <- Ta3 E g t x with
   | .agg ls => do
    dD (Nat.ble (off+fi.size) ls.length&&Nat.beq ls.length ti.size)
    match Abd fi.agg ((ls.drop off).take fi.size) with
    |some v=>Ebe o g nv v
    |none=>.no
   |_=>.no
  |none=>.no
 | .indexAddr t x i => do
  let ti <- tiR E t
  let e <- tQ ti.elem
  let ei <- tiR E e
  let l <- rdL E g t x
  let s <- Caf l
  let a <- rdA E g 0 i
  dD (Ubs 0 ei.size)
  zA o g [.prim .inb [s.x,a] 0] (.one (.pe l ei.size a 0)) []
 | .index t x i => do
  let ti <- tiR E t
  dD ti.isStr
  let s <- rdA E g t x
  let a <- rdA E g 0 i
  yZ o g nv .sidx [s,a]
 | .extract x i => do
  match <- Ta3 E g 0 x with
  | .tup vs => match vs[i]? with
   | some (a, ls) => match Abd a ls with
    |some v=>Ebe o g nv v
    |none=>.no
   |none=>.no
  |_=>.no
 | .call { callee := .builtin b, args, argTypes } => do
  match b,args.toList with
  | .len, [x] => do
   let t <- tQ argTypes[0]?
   let ti <- tiR E t
   let l <- rdL E g t x
   match Aae g l with
   | some a => do
    dD ti.isStr
    yZ o g nv .slen [a]
   | none => do
    dD ti.elem.isSome
    let s <- Caf l
    yZ o g nv .len [s.x]
  | .append, [x, y] => do
   let t <- tQ argTypes[0]?
   let ty <- tQ argTypes[1]?
   let ti <- tiR E t
   let e <- tQ ti.elem
   let ei <- tiR E e
   let yi <- tiR E ty
   dD (yi.elem.isSome&&Ubs 0 ei.size&&noG g&&Ubs 0 ei.bytes&&Nat.beq argTypes.size 2)
   Pax nv nr mv mvs o ei (<- rdL E g t x) (<- rdL E g ty y)
  | .clear, [x] => do
   let t <- tQ argTypes[0]?
   let ti <- tiR E t
   let e <- tQ ti.elem
   let ei <- tiR E e
   dD (noG g&&Nat.beq argTypes.size 1)
   Wad nv o ei (<- rdL E g t x)
  | .min, xs => do
   let vs <- Dah E g xs argTypes.toList
   let as <- tQ ((Aaf vs).bind (Ma8 g))
   yZ o g nv .min as
  | .max, xs => do
   let vs <- Dah E g xs argTypes.toList
   let as <- tQ ((Aaf vs).bind (Ma8 g))
   yZ o g nv .max as
  |_,_=>.no
 | .call { callee := .value f, args, argTypes } => do
  match <- rdL E g 0 f with
  | .clo fn caps => do
   let vs <- Dah E g args.toList argTypes.toList
   Ib2 E nv nb nr o g fn (vs++caps.map .one)
  |_=>.no
 |_=>.no
end
end Go.Proofs.YtpgnlmfmlffjcaaGreat.Rf

namespace Go.Proofs.YtpgnlmfmlffjcaaGreat.Rf
set_option linter.unusedVariables false
def nO {α:Type}(n:Nat):Option α:=none
structure St where
 tr:Tr aW
 nv:Nat
 nb:Nat
 nr:Nat
 nt:Nat
 deriving Inhabited
def Ear (nt nb nr k:Nat):Bool :=
 bif Nat.beq (k % 3) 0 then Ubs (k / 3) nt else bif Nat.beq (k % 3) 1 then Ubs (k / 3) nb else Ubs (k / 3) nr
def St.get (s:St)(k:Nat):Option aW:=bif Ear s.nt s.nb s.nr k then s.tr.get k else none
def bI (n:Nat):aO->Bool
 |.v i=>Ubs i n
 |.c _=>true
def Han (n:Nat):Step->Bool
 |.prim _ xs _=>xs.all (bI n)
 |.call _ xs k olds=>xs.all (bI n)&&olds.all (bI n)&&Nat.ble olds.length k
def gU:Nat->List Step->Bool
 |_,[]=>true
 |n,s::r=>Han n s&&gU (n+s.n) r
def vC (n:Nat):Option (aO×Bool)->Bool
 |none=>true
 |some (x,_)=>bI n x
def St.put (s:St)(k:Nat)(c:Option aW):St:={ s with tr:=s.tr.set 16 k c }
def St.puts (s:St):List (Nat×aW)->St
 |[]=>s
 |(k,c)::r=>(s.put k (some c)).puts r
def Pa6 (ops:List Oper)(o:Oper):RdM (Option (aO×Bool)) :=
 match o.guard with
 |none=>.ret none
 | some (j, want) =>
  match (ops[j]?).bind (·.dst) with
  | some d => .rd (kT d) fun
   |some (.slot none (.one (.sc x)))=>.ret (some (x,want))
   |some (.slot none (.one (.su _ x)))=>.ret (some (x,want))
   |_=>.no
  |none=>.no
def dO:Nat:=16
def Ca6 (n nb nr k:Nat):Bool :=
 bif Nat.beq (k % 3) 0 then Ubs (k / 3) n else bif Nat.beq (k % 3) 1 then Nat.ble (k / 3) nb else Ubs (k / 3) (nr+dO)
def Cbe:List (Nat×aW)->Nat->Option aW
 |[],_=>none
 | (k', c) :: r, k => match Cbe r k with
  |some d=>some d
  |none=>bif Nat.beq k' k then some c else none
def RdM.over {α:Type}(u:List (Nat×aW)):RdM α->RdM α
 |.ret a=>.ret a
 |.no=>.no
 | .rd k f => match Cbe u k with
  |some c=>(f (some c)).over u
  |none=>.rd k fun c=>(f c).over u
def Faq:Bool->Op->Option Nat
 |true,.store _ _ (.tmp t)=>some t
 | true, .buildSlice _ _ parts => match parts.toList with
  |[(_,.tmp t)]=>some t
  |_=>none
 |_,_=>none
def Qaj:Bool->Oper->Option Nat
 | true, o => match o.op with
  |.load _ _=>o.dst
  |_=>none
 |false,_=>none
def Oaf (E:Env)(nv nr t:Nat):RdM (Option (List Step×List (Nat×aW))):=do
 match <- rdK (kT t) with
 | some (.slot none (.one (.sn deps (.path (p :: ps)) nie x))) => do
  let s <- Caf (.sn deps (.path (p::ps)) nie x)
  match s.own with
  | some (r, k, m, .path (q :: qs)) =>
   bif Nat.ble (qs.length+2) m&&Ubs t E.ntmps then do
    match <- rdK (kR r) with
    | some (.root X m' ver .live) =>
     let (l,X'):=Qae nv X (q::qs) (.c .hole)
     .ret (some (l,[(kT t,.slot none (.one (.ex nr))),(kR nr,.root s.x (m-(qs.length+1)) 0 .live),(kR r,.root X' m (ver+1) .live)]))
    |_=>.ret none
   else .ret none
  |_=>.ret none
 |_=>.ret none
def Bby (E:Env)(mv mvs:Bool)(nv nb nr:Nat)(g:Option (aO×Bool))(o:Oper):RdM dG :=
 match Faq (mvs&&noG g) o.op with
 | none => match Qaj (mvs && noG g && !mv) o with
  |none=>vT E mv mvs nv nb nr g o
  | some t => do
   let r <- vT E mv mvs nv nb nr g o
   match <- (Oaf E (nv+bZ r.lets) nr t).over r.upd with
   |some (l,u)=>.ret ⟨r.lets++l,r.upd++u⟩
   |none=>.ret r
 | some t => do
  match <- Oaf E nv nr t with
  | some (l, u) => do
   let r <- (vT E mv false (nv+bZ l) nb (nr+1) g o).over u
   .ret ⟨l++r.lets,u++r.upd⟩
  |none=>vT E mv false nv nb nr g o
def pM (E:Env)(ops:List Oper)(mv mvs:Bool)(nv nb nr:Nat)(o:Oper):RdM (Option (aO×Bool)×dG):=do
 let g <- Pa6 ops o
 dD (match o.dst with|some d=>Ubs d E.ntmps|none=>true)
 let r <- Bby E mv mvs nv nb nr g o
 dD (r.upd.all fun x=>Ca6 E.ntmps nb nr x.1)
 .ret (g,r)
structure OpI where
 g:Option (aO×Bool)
 res:dG
 log:List Nat
 nb:Nat
 nr:Nat
 deriving Inhabited
def tH (t:Tr aW)(r:Nat):Nat->Bool
 |0=>true
 |n+1=>(t.get (kR r)).isNone&&tH t (r+1) n
def Fa8 (n:Nat):Pth->Bool
 |.path p=>p.all fun x=>bI n x.1
 |.suf _ x=>bI n x
 |_=>true
mutual
def aZ.inScope (n:Nat):aZ->Bool
 |.sc x=>bI n x
 |.su g x=>bI n x&&bI n g.1
 |.sn _ p _ x=>bI n x&&Fa8 n p
 |.pe l _ i _=>l.inScope n&&bI n i
 |.rp _ _ x=>bI n x
 |.clo _ l=>dH n l
 |_=>true
def dH (n:Nat):List aZ->Bool
 |[]=>true
 |a::r=>a.inScope n&&dH n r
end
def Fap (n:Nat):SV->Bool
 |.dead=>true
 |.one l=>l.inScope n
 |.agg ls=>dH n ls
 |.tup vs=>vs.all fun v=>dH n v.2
def fD (n:Nat):aW->Bool
 |.slot g v=>vC n g&&Fap n v
 |.box _ ls=>dH n ls
 |.root x _ _ _=>bI n x
def Hbn (s:St)(g:Option (aO×Bool))(r:dG):Bool :=
 (s.tr.get (kB s.nb)).isNone&&tH s.tr s.nr dO&&vC s.nv g&&gU s.nv r.lets&&r.upd.all fun x=>fD (s.nv+bZ r.lets) x.2
def Nb9:List (Nat×aW)->Nat->Nat
 |[],n=>n
 |x::r,n=>Nb9 r (bif Nat.beq (x.1 % 3) 2&&Nat.ble n (x.1 / 3) then x.1 / 3+1 else n)
def Xav (draw:Bool)(n:Nat)(u:List (Nat×aW)):Nat:=bif draw then n+dO else Nb9 u n
def Sac (t:Tr aW)(lo:Nat):Nat->Nat
 |0=>lo
 |n+1=>bif (t.get (kR (lo+n))).isNone then Sac t lo n else lo+n+1
def trimS (draw:Bool)(lo:Nat)(s:St):St:=bif draw&&Nat.ble lo s.nr then { s with nr:=Sac s.tr lo (s.nr-lo) } else s
def Rbp (l:List (Nat×Nat))(r i:Nat):Bool:=l.any fun p=>Nat.beq p.1 r&&Nat.beq p.2 i
def Dbm (E:Env)(draw:Bool)(rid:Nat)(ops:List Oper):Nat->List Oper->St->List OpI->Sum (List OpI×St) (Nat×St×List OpI)
 |_,[],s,acc=>.inl (acc.reverse,s)
 | i, o :: os, s, acc =>
  let fl:=Rbp E.nomv rid i
  match (pM E ops (xor (!E.freezeEx) fl) (xor E.moveSn fl) s.nv s.nb s.nr o).run s.get with
  | some ((g, r), log) =>
   bif !(Hbn s g r) then .inr (i,s,acc) else Dbm E draw rid ops (i+1) os { (s.puts r.upd) with nv:=s.nv+bZ r.lets,nb:=s.nb+1,nr:=Xav draw s.nr r.upd } ({ g,res:=r,log,nb:=s.nb,nr:=s.nr }::acc)
  |none=>.inr (i,s,acc)
def Dar (acc:List Nat):List Edge->Nat->Nat
 |[],m=>m
 |e::es,m=>Dar acc es (bif Region.binds .any e then (m ||| 2 ^ e.on) ||| acc.getD e.on 0 else m)
def waits:List Oper->List Nat->List Nat
 |[],acc=>acc
 |o::os,acc=>waits os (acc++[Dar acc o.after.toList 0])
def Gay:List Oper->Nat->Bool
 |[],_=>true
 |o::os,i=>(o.after.toList.all fun e=>!(Region.binds .any e)||Ubs e.on i)&&Gay os (i+1)
def Qau (a:OpI)(k:Nat):Bool:=bif Nat.beq (k % 3) 1 then Nat.beq (k / 3) a.nb else bif Nat.beq (k % 3) 2 then Nat.ble a.nr (k / 3)&&Ubs (k / 3) (a.nr+dO) else false
def wG (a b:OpI):Bool :=
 let wa:=a.res.upd.map (·.1)
 let wb:=b.res.upd.map (·.1)
 !(meets wa b.log)&&!(meets wa wb)&&!(meets a.log wb)&&!(wb.any (Qau a))
def Gao (a:OpI)(i:Nat):List OpI->List Nat->Bool
 |[],_=>true
 |b::bs,w::ws=>(Vbj w i||wG a b)&&Gao a i bs ws
 |_::_,[]=>false
def Aa7:List OpI->List Nat->Nat->Bool
 |[],_,_=>true
 |a::as,ws,i=>Gao a i as ws.tail&&Aa7 as ws.tail (i+1)
def uL (g:Option (aO×Bool))(k:Tm St):List Step->Tm St
 |[]=>k
 |.prim p xs n::r=>.lt g p xs n (uL g k r)
 |.call f xs n olds::r=>.call g f xs n olds (uL g k r)
def Kaw (k:Tm St):List OpI->Tm St
 |[]=>k
 |a::r=>uL a.g (Kaw k r) a.res.lets
def Paw (E:Env)(dbg:Bool)(rid:Nat)(ops:List Oper)(draw:Bool)(s:St):Tm St :=
 match Dbm E draw rid ops 0 ops s [] with
 | .inl (is, s') =>
  bif !draw||(Gay ops 0&&Aa7 is (waits ops []) 0) then Kaw (.leaf .fall [] (trimS draw s.nr s')) is
  else bif dbg then .leaf (.exit (1000000+rid*1000+999)) [] s else .stuck
 |.inr (i,s',is)=>bif dbg then .leaf (.exit (1000000+rid*1000+i)) [] s' else .stuck
def Ebg:Operand->Nat
 |.tmp t=>2 ^ t
 |_=>0
def Hbl (o:Oper):Nat:=o.op.operands.toList.foldl (fun m x=>m ||| Ebg x) 0
def Ebt:List Oper->Nat->Nat
 |[],l=>l
 | o :: os, l =>
  let m:=Ebt os l
  let m:=match o.dst,o.guard with
   |some d,none=>bif Vbj m d then m-2 ^ d else m
   |_,_=>m
  m ||| Hbl o
def Ab9:List (Nat×Nat)->Nat->Nat
 |[],_=>0
 |(i,m)::r,j=>bif Nat.beq i j then m else Ab9 r j
def Nar:Code->List (Nat×Nat)->Nat->Nat->Nat
 |.region _ ops _,_,_,l=>Ebt ops.toList l
 |.seq a b,ex,rb,l=>Nar a ex rb (Nar b ex rb l)
 |.cond c a b,ex,rb,l=>Ebg c ||| Nar a ex rb l ||| Nar b ex rb l
 |.block id b,ex,rb,l=>Nar b ((id,l)::ex) rb l
 |.loop b,ex,rb,_=>Nar b ex rb (Nar b ex rb (Nar b ex rb 0))
 |.exit id,ex,_,_=>Ab9 ex id
 |.ret,_,rb,_=>rb
 |_,_,_,l=>l
inductive Form where
 |sc
 |nil (z:Nat)
 |ex (m:Nat)
 |sn
 |pn
 |rp (z:Nat)
 |keep (l:aZ)
 |alias (i:Nat)
 |dead
 deriving Inhabited
def Oar:List (aO×Nat×Nat)->List (aO×Nat×Nat)->Bool
 |[],[]=>true
 |(a,b,c)::r,(a',b',c')::r'=>a.beq0 a'&&Nat.beq b b'&&Nat.beq c c'&&Oar r r'
 |_,_=>false
def Pth.beq0:Pth->Pth->Bool
 |.no,.no=>true
 |.view,.view=>true
 |.path p,.path q=>Oar p q
 |.suf a x,.suf b y=>Nat.beq a b&&x.beq0 y
 |_,_=>false
def Bau:List (Nat×Nat)->List (Nat×Nat)->Bool
 |[],[]=>true
 |(a,b)::r,(a',b')::r'=>Nat.beq a a'&&Nat.beq b b'&&Bau r r'
 |_,_=>false
mutual
def aZ.beq0:aZ->aZ->Bool
 |.dead,.dead=>true
 |.sc x,.sc y=>x.beq0 y
 |.su g x,.su h y=>g.1.beq0 h.1&&(g.2==h.2)&&x.beq0 y
 |.ex r,.ex r'=>Nat.beq r r'
 |.sn d p n x,.sn d' p' n' x'=>Bau d d'&&p.beq0 p'&&(n==n')&&x.beq0 x'
 |.px b o,.px b' o'=>Nat.beq b b'&&Nat.beq o o'
 |.pe l s i o,.pe l' s' i' o'=>l.beq0 l'&&Nat.beq s s'&&i.beq0 i'&&Nat.beq o o'
 |.rp d s x,.rp d' s' x'=>Bau d d'&&Nat.beq s s'&&x.beq0 x'
 |.pn,.pn=>true
 |.clo f l,.clo f' l'=>Nat.beq f f'&&xL l l'
 |_,_=>false
def xL:List aZ->List aZ->Bool
 |[],[]=>true
 |a::r,b::s=>a.beq0 b&&xL r s
 |_,_=>false
end
def Fa2 (a b:RSt):Bool:=decide (a=b)
def Abm (nv:Nat)(r:Nat):List St->Bool
 |[]=>true
 | s :: rest => match s.get (kR r) with
  | some (.root x m v st) => bI nv x && rest.all fun s' => match s'.get (kR r) with
   |some (.root x' m' v' st')=>x.beq0 x'&&Nat.beq m m'&&Nat.beq v v'&&Fa2 st st'
   |_=>false
  |_=>false
mutual
def Gam:aZ->List Nat
 |.ex r=>[r]
 |.sn d _ _ _=>d.map (·.1)
 |.rp d _ _=>d.map (·.1)
 |.pe l _ _ _=>Gam l
 |.clo _ l=>Lan l
 |_=>[]
def Lan:List aZ->List Nat
 |[]=>[]
 |a::r=>Gam a++Lan r
end
def Fbh (s:St):aZ->Form
 |.sc _=>.sc
 | .ex r => match s.get (kR r) with
  |some (.root _ m _ .live)=>.ex m
  |some (.root _ _ _ .frozen)=>.sn
  |_=>.dead
 |.sn _ _ true (.c (.rows z []))=>.nil z
 | .sn d p _ _ => match p, d with
  | .view, [(r, k)] => match s.get (kR r) with
   |some (.root _ m v .live)=>bif Nat.beq v k then .ex m else .dead
   |some (.root _ _ _ .frozen)=>.sn
   |_=>.dead
  |_,_=>.sn
 |.pn=>.pn
 |.rp _ z _=>.rp z
 |.pe _ z _ o=>bif Nat.beq o 0 then .rp z else .dead
 |_=>.dead
def Qap:Form->Form->Form
 |.sc,.sc=>.sc
 |.nil z,.nil _=>.nil z
 |.nil _,.ex m=>.ex m
 |.ex m,.nil _=>.ex m
 |.ex m,.ex m'=>.ex (min m m')
 |.nil _,.sn=>.sn
 |.sn,.nil _=>.sn
 |.ex _,.sn=>.sn
 |.sn,.ex _=>.sn
 |.sn,.sn=>.sn
 |.pn,.pn=>.pn
 |.pn,.rp z=>.rp z
 |.rp z,.pn=>.rp z
 |.rp z,.rp _=>.rp z
 |_,_=>.dead
def Bah (k j:Nat)(s:St):aZ :=
 match s.get k with
 |some (.slot none v)=>(yP v).getD j .dead
 |some (.box _ ls)=>ls.getD j .dead
 |_=>.dead
def Qbb (nv k j:Nat)(sts:List St):Form :=
 match sts with
 |[]=>.dead
 | s :: rest =>
  let l:=Bah k j s
  bif l.inScope nv&&rest.all (fun s'=>l.beq0 (Bah k j s'))&&(Gam l).all (fun r=>Abm nv r (s::rest)) then .keep l
  else rest.foldl (fun f s'=>Qap f (Fbh s' (Bah k j s'))) (Fbh s l)
def Pb8:Form->Bool
 |.keep _=>true
 |_=>false
structure Pos where
 k:Nat
 j:Nat
 f:Form
 deriving Inhabited
def Dbt:Option aW->Option aW->Bool
 |some (.slot none (.one _)),some (.slot none (.one _))=>true
 |some (.slot none (.agg a)),some (.slot none (.agg b))=>Nat.beq a.length b.length
 |some (.box r a),some (.box r' b)=>(r==r')&&Nat.beq a.length b.length
 |_,_=>false
def Nbl:Option aW->Nat
 |some (.slot none v)=>(yP v).length
 |some (.box _ ls)=>ls.length
 |_=>0
def Mb0 (old:List Pos)(k j:Nat):Option Form:=(old.find? fun p=>Nat.beq p.k k&&Nat.beq p.j j).map (·.f)
def Lbr (s:St)(k j:Nat):Option Nat :=
 match Bah k j s with
 |.ex r=>some r
 |_=>none
def Pb9:Form->Bool
 |.ex _=>true
 |_=>false
def aliasOf (sts:List St)(k j:Nat):List Pos->Nat->Option Nat
 |[],_=>none
 | p :: ps, i =>
  bif Pb9 p.f&&sts.all fun s=>match Lbr s k j,Lbr s p.k p.j with
   |some r,some r'=>Nat.beq r r'
   |_,_=>false
  then some i else aliasOf sts k j ps (i+1)
def Ebi:Form->Form
 |.alias _=>.ex 1000
 |f=>f
def Ebc (nv:Nat)(sts:List St)(old:List Pos)(k:Nat):Nat->Nat->List Pos->List Pos
 |0,_,acc=>acc
 | n + 1, j, acc =>
  let f:=Qbb nv k j sts
  let f:=match Mb0 old k j,f with
   | some f0, .keep l => match sts with
    |s::_=>Qap (Ebi f0) (Fbh s l)
    |[]=>.dead
   |some f0,f=>Qap (Ebi f0) f
   |none,f=>f
  let f:=bif Pb9 f then (match aliasOf sts k j acc 0 with|some i=>.alias i|none=>f) else f
  Ebc nv sts old k n (j+1) (bif Pb8 f then acc else acc++[⟨k,j,f⟩])
def Mb6 (sts:List St)(k:Nat):Bool :=
 match sts with
 |s::rest=>rest.all fun s'=>Dbt (s.get k) (s'.get k)&&(match s.get k with | some (.slot (some _) _)=>false | some (.slot _ (.tup _))=>false | some (.slot _ .dead)=>false | some _=>true | none=>false)
 |[]=>false
def Mb5 (sts:List St)(k:Nat):Bool :=
 match sts with
 |[s]=>Dbt (s.get k) (s.get k)
 |_=>Mb6 sts k
def range (a:Nat):Nat->List Nat
 |0=>[]
 |n+1=>a::range (a+1) n
def Qal (E:Env)(nb:Nat)(live:Nat)(sts:List St):List Nat :=
 ((range E.ntmps E.ngh).filter fun t=>Mb5 sts (kT t)).map kT++((range 0 E.ntmps).filter fun t=>Vbj live t&&Mb5 sts (kT t)).map kT++((range 0 nb).filter fun b=>Mb5 sts (kB b)).map kB
def Uac (nv:Nat)(sts:List St)(old:List Pos):List Nat->List Pos->List Pos
  |[],acc=>acc
  | k :: ks, acc => Uac nv sts old ks (match sts with
     |s::_=>Ebc nv sts old k (Nbl (s.get k)) 0 acc
     |[]=>acc)
def Lbl (nv:Nat)(sts:List St)(old:List Pos)(ks:List Nat):List Pos:=Uac nv sts old ks []
def Mbk (c:aW)(j:Nat)(l:aZ):aW :=
 match c with
 |.slot g (.one _)=>.slot g (match l with | .dead=>.dead | l=>.one l)
 |.slot g (.agg ls)=>.slot g (.agg (ls.set j l))
 |.box ro ls=>.box ro (ls.set j l)
 |c=>c
def oC (nv nr:Nat):List Pos->Nat->St->St
 |[],_,s=>s
 | p :: ps, i, s =>
  let put (l:aZ) (s:St):St:=match s.get p.k with
   |some c=>s.put p.k (some (Mbk c p.j l))
   |none=>s
  match p.f with
  |.sc=>oC nv nr ps (i+1) (put (.sc (.v (nv+i))) s)
  |.ex m=>oC nv nr ps (i+1) ((put (.ex (nr+i)) s).put (kR (nr+i)) (some (.root (.v (nv+i)) m 0 .live)))
  |.sn=>oC nv nr ps (i+1) (put (.sn [] .no false (.v (nv+i))) s)
  |.nil z=>oC nv nr ps (i+1) (put (.sn [] .no true (.v (nv+i))) s)
  |.rp z=>oC nv nr ps (i+1) (put (.rp [] z (.v (nv+i))) s)
  |.pn=>oC nv nr ps (i+1) (put .pn s)
  |.alias a=>oC nv nr ps (i+1) (put (.ex (nr+a)) s)
  |_=>oC nv nr ps (i+1) (put .dead s)
def Hb6 (s:St)(k j:Nat):List Nat :=
 match Bah k j s with
 |.ex r=>[r]
 |.sn [(r,_)] .view _ _=>[r]
 |_=>[]
def Sbk:Form->Bool
 |.sn=>true
 |.rp _=>true
 |_=>false
def Sbl:Form->Bool
 |.ex _=>true
 |.alias _=>true
 |_=>false
def Ta9 (nv:Nat)(plan:List Pos)(sts:List St):List Nat->St->St
 |[],s=>s
 | r :: rs, s =>
  let taken:=plan.any fun p=>Sbl p.f&&sts.any fun s'=>has (Hb6 s' p.k p.j) r
  let froz:=plan.any fun p=>Sbk p.f&&sts.any fun s'=>has (Gam (Bah p.k p.j s')) r
  let sameX:=match sts with
   | s0 :: rest => match s0.get (kR r) with
    | some (.root x m v st) => bI nv x && !(Fa2 st .gone) && rest.all fun s' => match s'.get (kR r) with
     |some (.root x' _ _ st')=>x.beq0 x'&&!(Fa2 st' .gone)
     |_=>false
    |_=>false
   |[]=>false
  let c:Option aW :=
   bif taken then some (.root (.c .hole) 0 0 .gone)
   else bif Abm nv r sts&&!froz then (match sts with|s0::_=>s0.get (kR r)|[]=>none)
   else bif sameX then (match sts with|s0::_=>(match s0.get (kR r) with|some (.root x m v _)=>some (.root x m v .frozen)|c=>c)|[]=>none)
   else some (.root (.c .hole) 0 0 .gone)
  Ta9 nv plan sts rs (s.put (kR r) c)
def Qab (s:St):List Nat->Tr aW->Tr aW
 |[],t=>t
 |k::ks,t=>Qab s ks (t.set 16 k (s.get k))
def template (E:Env)(nv nb nr nr':Nat)(sts:List St)(keys:List Nat)(plan:List Pos):St :=
 match sts with
 |[]=>⟨.nil,nv,nb,nr,0⟩
 | s :: _ =>
  let s1:St:=⟨Qab s keys .nil,nv+plan.length,nb,nr'+plan.length,s.nt⟩
  oC nv nr' plan 0 (Ta9 nv plan sts (range 0 nr) s1)
def Rb3 (j:Nat)(l:aZ):aW->Option aW
 |.slot none (.one _)=>bif Nat.beq j 0 then some (.slot none (.one l)) else none
 |.slot none (.agg ls)=>some (.slot none (.agg (ls.set j l)))
 |.box ro ls=>some (.box ro (ls.set j l))
 |_=>none
def putAt (k j:Nat)(l:aZ)(s:St):St :=
 match (s.get k).bind (Rb3 j l) with
 |some c=>s.put k (some c)
 |none=>s
def Pa5 (E:Env)(p:Pos)(nr i:Nat)(s:St):Option (List Step×St×aO) :=
 let put (l:aZ) (s:St):St:=putAt p.k p.j l s
 let rNew:=nr+i
 match p.f,Bah p.k p.j s with
 |.sc,.sc x=>some ([],s,x)
 | .alias a, .ex r => match s.get (kR r) with
  |some (.root _ _ _ (.fwd r'))=>bif Nat.beq r' (nr+a) then some ([],put (.ex (nr+a)) s,.c .undef) else nO 5001
  |_=>nO 5002
 |.nil z,.sn [] .no true x=>some ([],s,x)
 | .ex m, .ex r => match s.get (kR r) with
  |some (.root x m' v .live)=>bif Nat.ble m m' then some ([],put (.ex rNew) (s.puts [(kR r,.root (.c .hole) 0 0 (.fwd rNew)),(kR rNew,.root x m 0 .live)]),x) else nO 5003
  |_=>nO 5004
 |.ex m,.sn [] _ true (.c (.rows z []))=>some ([],put (.ex rNew) (s.puts [(kR rNew,.root (.c (.rows z [])) m 0 .live)]),.c (.rows z []))
 | .ex m, .sn [(r, k)] .view _ x => match s.get (kR r) with
  |some (.root _ m' v .live)=>bif Nat.ble m m'&&Nat.beq v k then some ([],put (.ex rNew) (s.puts [(kR r,.root (.c .hole) 0 0 .gone),(kR rNew,.root x m 0 .live)]),x) else nO 5005
  |_=>nO 5006
 | .sn, l =>
  match ((do let s <- Caf l;let fr <- fO (s.deps.map (·.1));RdM.ret (s.x,fr):RdM (aO×List (Nat×aW)))).eval s.get with
  |some (x,fr)=>some ([],put (.sn [] .no false x) (s.puts fr),x)
  |none=>nO 5007
 |.rp z,.pn=>some ([],put (.rp [] z (.c (.rows z []))) s,.c (.rows z []))
 | .rp z, .rp deps z' x =>
  match ((do let d <- Aa2 deps;fO (d.map (·.1)):RdM (List (Nat×aW)))).eval s.get with
  |some fr=>some ([],put (.rp [] z x) (s.puts fr),x)
  |none=>nO 5008
 | .rp z, .pe l z' i 0 =>
  match ((do let s <- Caf l;let fr <- fO (s.deps.map (·.1));RdM.ret (s.x,fr):RdM (aO×List (Nat×aW)))).eval s.get with
  |some (x,fr)=>some ([.prim (.one z') [x,i] 1],{ (put (.rp [] z (.v s.nv)) (s.puts fr)) with nv:=s.nv+1 },.v s.nv)
  |none=>nO 5009
 |.pn,.pn=>some ([],s,.c .undef)
 |.dead,_=>some ([],s,.c .undef)
 |_,_=>nO (4000000+1000*p.k+p.j)
def nG (E:Env)(nr:Nat):List Pos->Nat->St->Option (List Step×St×List aO)
 |[],_,s=>some ([],s,[])
 | p :: ps, i, s => do
  let (l,s,x) <- Pa5 E p nr i s
  let (l',s,xs) <- nG E nr ps (i+1) s
  some (l++l',s,x::xs)
def kC (τ:St):List Nat->St->Option St
 |[],s=>some s
 | r :: rs, s =>
  match τ.get (kR r),s.get (kR r) with
  |some (.root _ _ _ .frozen),some (.root x m v .live)=>kC τ rs (s.put (kR r) (some (.root x m v .frozen)))
  |_,_=>kC τ rs s
def San (n:Nat)(xs:List aO):aO->aO
 |.v i=>bif Ubs i n then .v i else xs.getD (i-n) (.c .hole)
 |.c d=>.c d
def Sbg (n:Nat)(xs:List aO):Pth->Pth
 |.path p=>.path (p.map fun x=>(San n xs x.1,x.2))
 |.suf sz lo=>.suf sz (San n xs lo)
 |p=>p
def Abe (nrT nrB r:Nat):Nat:=bif Nat.ble nrT r then nrB+(r-nrT) else r
mutual
def aZ.sub (n:Nat)(xs:List aO)(nrT nrB:Nat):aZ->aZ
 |.sc x=>.sc (San n xs x)
 |.su g x=>.su (San n xs g.1,g.2) (San n xs x)
 |.ex r=>.ex (Abe nrT nrB r)
 |.sn d p e x=>.sn d (Sbg n xs p) e (San n xs x)
 |.pe l s i o=>.pe (l.sub n xs nrT nrB) s (San n xs i) o
 |.rp d s x=>.rp d s (San n xs x)
 |.clo f l=>.clo f (kD n xs nrT nrB l)
 |l=>l
def kD (n:Nat)(xs:List aO)(nrT nrB:Nat):List aZ->List aZ
 |[]=>[]
 |a::r=>a.sub n xs nrT nrB::kD n xs nrT nrB r
end
def Cao (a b:aZ):Bool :=
 match a with
 |.dead=>Sao b
 | .sn d .no false x => match b with
  |.sn d' _ _ x'=>Bau d d'&&x.beq0 x'
  |_=>false
 |a=>a.beq0 b
def gJ:List aZ->List aZ->Bool
 |[],[]=>true
 |a::r,b::s=>Cao a b&&gJ r s
 |_,_=>false
def dP (n:Nat)(xs:List aO)(nrT nrB:Nat):Option aW->Option aW->Bool
 |none,_=>true
 |some (.slot none .dead),_=>true
 |some (.slot none (.one a)),some (.slot none (.one b))=>Cao (a.sub n xs nrT nrB) b
 |some (.slot none (.agg a)),some (.slot none (.agg b))=>gJ (kD n xs nrT nrB a) b
 |some (.box r a),some (.box r' b)=>(r==r')&&gJ (kD n xs nrT nrB a) b
 |some (.root x m v .gone),_=>true
 |some (.root x m v st),some (.root x' m' v' st')=>Fa2 st st'&&Nat.beq m m'&&Nat.beq v v'&&(San n xs x).beq0 x'
 |_,_=>false
def Gap (n:Nat)(xs:List aO)(nrT nrB:Nat)(τ s:St):List Nat->Bool
 |[]=>true
 |k::ks=>dP n xs nrT nrB (τ.get k) (s.get k)&&Gap n xs nrT nrB τ s ks
def Gar (n:Nat)(xs:List aO)(nrT nrB:Nat)(τ s:St):List Nat->Bool
 |[]=>true
 |r::rs=>dP n xs nrT nrB (τ.get (kR r)) (s.get (kR (Abe nrT nrB r)))&&Gar n xs nrT nrB τ s rs
def sV (E:Env)(n:Nat)(xs:List aO)(nr0 nrT nrB len:Nat)(τ s:St):Bool :=
 Gap n xs nrT nrB τ s ((range 0 (E.ntmps+E.ngh)).map kT++(range 0 τ.nb).map kB)&&Gar n xs nrT nrB τ s (range 0 nr0++range nrT len)
def coerce (E:Env)(n nr0 nrT:Nat)(plan:List Pos)(τ:St)(kind:Kind)(s:St):Option (Tm St):=do
 let (ls,s1,xs) <- nG E s.nr plan 0 { s with nr:=s.nr+plan.length }
 let s2 <- kC τ (range 0 nr0) s1
 bif sV E n xs nr0 nrT s.nr plan.length τ s2&&tH s.tr s.nr plan.length&&Nat.ble nr0 s.nr&&gU s.nv ls&&xs.all (bI (s.nv+bZ ls)) then some (uL none (.leaf kind xs s2) ls) else nO 1
def Tm.no {β:Type}(f:Kind->Bool):Tm β->Bool
 |.leaf k _ _=>!(f k)
 |.stuck=>true
 |.lt _ _ _ _ k=>k.no f
 |.call _ _ _ _ _ k=>k.no f
 |.ite _ t e=>t.no f&&e.no f
 |.bind _ t k=>t.no f&&k.no f
 |.loop _ b=>b.no f
def vL:Kind->Bool
 |.fall=>true
 |_=>false
def Vaq (id:Nat):Kind->Bool
 |.fall=>true
 |.exit j=>Nat.beq id j
 |_=>false
def uZ (id:Nat):Kind->Bool
 |.exit j=>Nat.beq id j
 |_=>false
def Qaq (i:Nat):Kind->Bool
 |.yield j=>Nat.beq i j
 |_=>false
def Ab1:Kind->Bool
 |.cont=>true
 |_=>false
def Tm.falls:Tm St->List St
 |.leaf .fall _ s=>[s]
 |.leaf _ _ _=>[]
 |.stuck=>[]
 |.lt _ _ _ _ k=>k.falls
 |.call _ _ _ _ _ k=>k.falls
 |.ite _ t e=>t.falls++e.falls
 |.bind _ _ k=>k.falls
 |.loop _ _=>[]
def Tm.exits (id:Nat):Tm St->List St
 |.leaf (.exit j) _ s=>bif Nat.beq j id then [s] else []
 |.leaf _ _ _=>[]
 |.stuck=>[]
 |.lt _ _ _ _ k=>k.exits id
 |.call _ _ _ _ _ k=>k.exits id
 |.ite _ t e=>t.exits id++e.exits id
 |.bind _ t k=>t.exits id++k.exits id
 |.loop _ b=>b.exits id
def Tm.tailExits (id:Nat):Tm St->List St
 |.leaf (.exit j) _ s=>bif Nat.beq j id then [s] else []
 |.leaf _ _ _=>[]
 |.stuck=>[]
 |.lt _ _ _ _ k=>k.tailExits id
 |.call _ _ _ _ _ k=>k.tailExits id
 |.ite _ t e=>t.tailExits id++e.tailExits id
 |.bind _ t k=>k.tailExits id
 |.loop _ b=>[]
def Tm.graft (f:St->Option (Tm St)):Tm St->Option (Tm St)
 |.leaf .fall _ s=>f s
 |.leaf k xs s=>some (.leaf k xs s)
 |.stuck=>some .stuck
 |.lt g p xs n k=>(k.graft f).map fun k=>.lt g p xs n k
 |.call g c xs n o k=>(k.graft f).map fun k=>.call g c xs n o k
 |.ite c t e=>(t.graft f).bind fun t=>(e.graft f).map fun e=>.ite c t e
 |.bind i t k=>bif t.no vL then (k.graft f).map fun k=>.bind i t k else none
 |.loop i b=>bif b.no vL then some (.loop i b) else none
def Tm.exitFall (id:Nat):Tm St->Option (Tm St)
 |.leaf (.exit j) xs s=>some (bif Nat.beq id j then .leaf .fall [] s else .leaf (.exit j) xs s)
 |.leaf k xs s=>some (.leaf k xs s)
 |.stuck=>some .stuck
 |.lt g p xs n k=>(k.exitFall id).map fun k=>.lt g p xs n k
 |.call g c xs n o k=>(k.exitFall id).map fun k=>.call g c xs n o k
 |.ite c t e=>(t.exitFall id).bind fun t=>(e.exitFall id).map fun e=>.ite c t e
 |.bind i t k=>bif t.no (uZ id) then (k.exitFall id).map fun k=>.bind i t k else none
 |.loop i b=>bif b.no (uZ id) then some (.loop i b) else none
def Tm.turn (out:Kind)(sel:Kind->Bool)(f:St->Option (Tm St)):Tm St->Option (Tm St)
 |.leaf k xs s=>bif sel k then f s else some (.leaf k xs s)
 |.stuck=>some .stuck
 |.lt g p xs n k=>(k.turn out sel f).map fun k=>.lt g p xs n k
 |.call g c xs n o k=>(k.turn out sel f).map fun k=>.call g c xs n o k
 |.ite c t e=>(t.turn out sel f).bind fun t=>(e.turn out sel f).map fun e=>.ite c t e
 | .bind i t k =>
  bif Qaq i out then (bif t.no sel then (k.turn out sel f).map fun k=>.bind i t k else none)
  else (t.turn out sel f).bind fun t=>(k.turn out sel f).map fun k=>.bind i t k
 |.loop i b=>bif Ab1 out then (bif b.no sel then some (.loop i b) else none) else (b.turn out sel f).map fun b=>.loop i b
def Pb1 (l:List St)(n:Nat):Nat:=l.foldl (fun m s=>max m s.nr) n
def Vae (τ:St)(nr0:Nat):List (Nat×Nat)->Bool
 |[]=>true
 | (r, k) :: d => Ubs r nr0 && (match τ.get (kR r) with
  |some (.root _ _ _ .gone)=>true
  |some (.root _ _ _ (.fwd _))=>true
  |some (.root _ _ v _)=>Nat.ble k v
  |_=>false)&&Vae τ nr0 d
mutual
def aZ.wf (τ:St)(nr0:Nat):aZ->Bool
 |.ex r=>(τ.get (kR r)).isSome
 |.sn d _ _ _=>Vae τ nr0 d
 |.px b _=>(τ.get (kB b)).isSome
 |.pe l _ _ _=>l.wf τ nr0
 |.rp d _ _=>Vae τ nr0 d
 |.clo _ l=>tT τ nr0 l
 |_=>true
def tT (τ:St)(nr0:Nat):List aZ->Bool
 |[]=>true
 |a::r=>a.wf τ nr0&&tT τ nr0 r
end
def yD (τ:St)(nr0 k:Nat):Option aW->Bool
 |none=>true
 | some c => fD τ.nv c && (match c with
  |.slot none .dead=>Nat.beq (k % 3) 0
  |.slot none (.one l)=>Nat.beq (k % 3) 0&&l.wf τ nr0
  |.slot none (.agg ls)=>Nat.beq (k % 3) 0&&tT τ nr0 ls
  |.box _ ls=>Nat.beq (k % 3) 1&&tT τ nr0 ls
  |.root _ _ _ (.fwd _)=>false
  |.root _ _ _ _=>Nat.beq (k % 3) 2
  |_=>false)
def Kal (τ:St)(nr0:Nat):List Nat->Bool
 |[]=>true
 |k::ks=>yD τ nr0 k (τ.get k)&&Kal τ nr0 ks
def Abt (τ:St):List Nat->Bool
 |[]=>true
 |k::ks=>(τ.get k).isNone&&Abt τ ks
def Iat (E:Env)(s0:St)(nrT len:Nat)(τ:St):Bool :=
 Nat.beq τ.nv (s0.nv+len)&&Nat.ble E.ntmps τ.nt&&Nat.ble τ.nt (E.ntmps+E.ngh)&&Nat.beq τ.nr (nrT+len)&&Nat.ble s0.nr nrT &&
 Abt τ ((range s0.nr (nrT-s0.nr)).map kR)&&Kal τ s0.nr ((range 0 τ.nt).map kT++(range 0 τ.nb).map kB++((range 0 s0.nr++range nrT len).map kR))
def join (E:Env)(live:Nat)(s0:St)(i:Nat)(sel:Kind->Bool)(ends:List St)(t:Tm St):Option (Tm St×St) :=
 let keys:=Qal E s0.nb live ends
 let plan:=Lbl s0.nv ends [] keys
 let nr':=Pb1 ends s0.nr
 let τ:=template E s0.nv s0.nb s0.nr nr' ends keys plan
 bif Iat E s0 nr' plan.length τ then (t.turn (.yield i) sel (coerce E s0.nv s0.nr nr' plan τ (.yield i))).map fun t=>(t,τ) else nO 6
def Wa1 (a b:List Pos):Bool :=
 match a,b with
 |[],[]=>true
 | p :: ps, q :: qs => Nat.beq p.k q.k && Nat.beq p.j q.j && (match p.f, q.f with
  |.sc,.sc=>true
  |.nil _,.nil _=>true
  |.ex m,.ex m'=>Nat.beq m m'
  |.sn,.sn=>true
  |.pn,.pn=>true
  |.rp _,.rp _=>true
  |.dead,.dead=>true
  |.alias i,.alias j=>Nat.beq i j
  |_,_=>false)&&Wa1 ps qs
 |_,_=>false
def Tav (τ:St)(ends:List St):List Nat->Bool
 |[]=>true
 | r :: rs => (match τ.get (kR r) with
  | some (.root _ m v st) => Fa2 st .gone || ends.all fun s => match s.get (kR r) with
   |some (.root _ m' v' st')=>(Nat.beq m m'&&Nat.beq v v'&&Fa2 st st')||(Fa2 st .frozen&&Fa2 st' .live)
   |_=>false
  |_=>true)&&Tav τ ends rs
def Lak (E:Env)(live:Nat)(s:St)(body:St->Option (Tm St)):Nat->List Pos->List Nat->Nat->List St->Option (Tm St)
 |0,_,_,_,_=>nO 3
 | fuel + 1, plan, keys, nr', seen =>
  let τ:=template E s.nv s.nb s.nr nr' (s::seen) keys plan
  match body τ with
  |none=>none
  | some tb =>
   let ends:=tb.falls
   let keys':=Qal E s.nb live (s::ends)
   let plan':=Lbl s.nv (s::ends) plan keys'
   bif Wa1 plan plan'&&Nat.beq keys.length keys'.length&&Tav τ ends (range 0 s.nr) then do
    let (pre,s1,xs) <- nG E s.nr plan 0 { s with nr:=s.nr+plan.length }
    let s2 <- kC τ (range 0 s.nr) s1
    bif sV E s.nv xs s.nr nr' s.nr plan.length τ s2&&tH s.tr s.nr plan.length&&pre.isEmpty&&Iat E s nr' plan.length τ then do
     let tb <- tb.turn .cont vL (coerce E s.nv s.nr nr' plan τ .cont)
     some (.loop xs tb)
    else nO 2
   else Lak E live s body fuel plan' keys' (Pb1 ends nr') ends
def Fb3:Operand->Option Bool
 |.const (.bool b)=>some b
 |_=>none
def Ua0:Code->Nat
 |.region r _ _=>r
 |.seq a _=>Ua0 a
 |.cond _ a _=>Ua0 a
 |.block _ b=>Ua0 b
 |.loop b=>Ua0 b
 |_=>0
def hintOf:List (Nat×List (Nat×Nat×Nat×Nat)×List Nat×Nat×List Nat)->Nat->Option (List (Nat×Nat×Nat×Nat)×List Nat×Nat×List Nat)
 |[],_=>none
 |(k,h)::r,n=>bif Nat.beq k n then some h else hintOf r n
def Qba (c z:Nat):Form :=
 match c with
 |0=>.sc
 |1=>.nil z
 |2=>.ex z
 |3=>.sn
 |4=>.pn
 |5=>.rp z
 |6=>.alias z
 |_=>.dead
def Lbh (s:St):List Nat->St->St
 |[],t=>t
 | d :: ds, t => Lbh s ds (t.put (kR (d / 3)) (match d % 3 with
  |0=>some (.root (.c .hole) 0 0 .gone)
  |1=>s.get (kR (d / 3))
  | _ => match s.get (kR (d / 3)) with
   |some (.root x m v _)=>some (.root x m v .frozen)
   |c=>c))
def Qai (E:Env)(s:St)(body:St->Option (Tm St))(h:List (Nat×Nat×Nat×Nat)×List Nat×Nat×List Nat):Option (Tm St) :=
 let plan:List Pos:=h.1.map fun p=>⟨p.1,p.2.1,Qba p.2.2.1 p.2.2.2⟩
 let nr':=s.nr+h.2.2.1
 let τ:=oC s.nv nr' plan 0 (Lbh s h.2.2.2 ⟨Qab s h.2.1 .nil,s.nv+plan.length,s.nb,nr'+plan.length,s.nt⟩)
 match body τ with
 |none=>none
 | some tb => do
  let (pre,s1,xs) <- nG E s.nr plan 0 { s with nr:=s.nr+plan.length }
  let s2 <- kC τ (range 0 s.nr) s1
  bif sV E s.nv xs s.nr nr' s.nr plan.length τ s2&&tH s.tr s.nr plan.length&&pre.isEmpty&&Iat E s nr' plan.length τ then do
   let tb <- tb.turn .cont vL (coerce E s.nv s.nr nr' plan τ .cont)
   some (.loop xs tb)
  else nO 2
def sxC (E:Env)(dbg:Bool)(rb:Nat):Code->List (Nat×Nat)->Nat->St->Option (Tm St)
 |.skip,_,_,s=>some (.leaf .fall [] s)
 |.label _,_,_,s=>some (.leaf .fall [] s)
 |.ret,_,_,s=>some (.leaf .ret [] s)
 |.exit id,_,_,s=>some (.leaf (.exit id) [] s)
 |.region rid ops draw,_,_,s=>some (Paw E dbg rid ops.toList draw s)
 | .seq a b, ex, live, s => do
  let mid:=Nar b ex rb live
  let t <- sxC E dbg rb a ex mid s
  bif t.no vL then some t else
  match t.falls with
  |[_]=>t.graft (sxC E dbg rb b ex live)
  | ends => do
   let (t,τ) <- join E mid s 0 vL ends t
   let k <- sxC E dbg rb b ex live τ
   some (.bind 0 t k)
 | .cond c a b, ex, live, s =>
  match Fb3 c with
  |some true=>sxC E dbg rb a ex live s
  |some false=>sxC E dbg rb b ex live s
  |none =>
  match s.get (match c with|.tmp t=>kT t|_=>0),c with
  | some (.slot none (.one (.sc x))), .tmp t => bif !(bI s.nv x && Ubs t E.ntmps) then some .stuck else do
   let t <- sxC E dbg rb a ex live s
   let e <- sxC E dbg rb b ex live s
   some (.ite x t e)
  |_,_=>some .stuck
 | .block id b, ex, live, s => do
  let t <- sxC E dbg rb b ((id,live)::ex) live s
  bif t.no (uZ id) then some t else
  match t.falls,t.exits id,t.tailExits id with
  |[],[_],[_]=>t.exitFall id
  | fs, es, _ => do
   let (t,τ) <- join E live s (id+1) (Vaq id) (fs++es) t
   some (.bind (id+1) t (.leaf .fall [] τ))
 | .loop b, ex, _, s =>
  let live':=Nar (.loop b) ex rb 0
  match hintOf E.hints (Ua0 b) with
  |some h=>Qai E s (sxC E dbg rb b ex live') h
  |none=>Lak E live' s (sxC E dbg rb b ex live') 9 [] (Qal E s.nb live' [s]) s.nr []
 |.scope _,_,_,_=>some .stuck
 |.goto _,_,_,_=>some .stuck
 |.rangeFunc _ _ _ _,_,_,_=>some .stuck
 |.refuse _,_,_,_=>some .stuck
def kV (i nr:Nat):LS->aZ×List (Nat×aW)×Nat×Nat
 |.sc=>(.sc (.v i),[],i+1,nr)
 |.fz nie=>(.sn [] .no nie (.v i),[],i+1,nr)
 |.mu m=>(.ex nr,[(kR nr,.root (.v i) m 0 .live)],i+1,nr+1)
 |.ow m=>(.ex nr,[(kR nr,.root (.v i) m 0 .live)],i+1,nr+1)
 |.px b=>(.px b 0,[],i,nr)
 |.clo f cs=>(.clo f (cs.map fun c=>match c with | .px b=>.px b 0 | _=>.dead),[],i,nr)
 |.rp z=>(.rp [] z (.v i),[],i+1,nr)
def fP (i nr:Nat):List LS->List aZ×List (Nat×aW)×Nat×Nat
 |[]=>([],[],i,nr)
 | s :: ss =>
  let (l,u,i,nr):=kV i nr s
  let (ls,us,i,nr):=fP i nr ss
  (l::ls,u++us,i,nr)
def mR (t i nr:Nat):List (Bool×List LS)->List (Nat×aW)×Nat×Nat
 |[]=>([],i,nr)
 | (a, ss) :: ps =>
  let (ls,u,i,nr):=fP i nr ss
  let (us,i,nr):=mR (t+1) i nr ps
  ((kT t,.slot none (match Abd a ls with|some v=>v|none=>.dead))::u++us,i,nr)
def jQ (i nr:Nat):BS->aZ×List (Nat×aW)×Nat×Nat
 |.sc=>(.sc (.v i),[],i+1,nr)
 |.fz nie=>(.sn [] .no nie (.v i),[],i+1,nr)
 |.ow m=>(.ex nr,[(kR nr,.root (.v i) m 0 .live)],i+1,nr+1)
 |.ot=>(.dead,[],i,nr)
def jN (i nr:Nat):List (BS×BO)->List aZ×List (Nat×aW)×Nat×Nat
 |[]=>([],[],i,nr)
 | (s, _) :: ss =>
  let (l,u,i,nr):=jQ i nr s
  let (ls,us,i,nr):=jN i nr ss
  (l::ls,u++us,i,nr)
def oG (b i nr:Nat):List (Bool×List (BS×BO))->List (Nat×aW)×Nat×Nat
 |[]=>([],i,nr)
 | (ro, cs) :: bs =>
  let (ls,u,i,nr):=jN i nr cs
  let (us,i,nr):=oG (b+1) i nr bs
  ((kB b,.box ro ls)::u++us,i,nr)
def gW (r:Nat):List LS->List Nat
 |[]=>[]
 |.mu _::ss=>r::gW (r+1) ss
 |.ow _::ss=>gW (r+1) ss
 |_::ss=>gW r ss
def xW (t:Nat):List aZ->List (Nat×aW)
 |[]=>[]
 |l::ls=>(kT t,.slot none (.one l))::xW (t+1) ls
def Uav (s:Sig):List aZ:=(gW 0 (s.params.flatMap (·.2))).map aZ.ex++(range 0 s.boxes.length).map fun b=>aZ.px b 0
def sU (s:Sig):Nat:=(Uav s).length
def entry (s:Sig)(ntmps:Nat):St :=
 let (u,i,nr):=mR 0 0 0 s.params
 let (v,i,nr):=oG 0 i nr s.boxes
 (St.puts ⟨.nil,i,s.boxes.length,nr,ntmps+sU s⟩ (u++v++xW ntmps (Uav s)))
structure Fin where
 xs:List aO
 own:List (Nat×Nat×Nat)
 q:Nat
 frz:List Nat
 lets:List Step
 bxs:List Nat
def Dao (F:Fin)(r m:Nat)(x:aO):Fin:={ F with xs:=F.xs++[x],own:=F.own++[(r,2*F.q,m)],q:=F.q+1 }
def Ab7 (F:Fin)(z:Nat):Fin:={ F with xs:=F.xs++[.c (.rows z [])],q:=F.q+1 }
def Ua3 (F:Fin)(m:Nat):aZ->RdM Fin
 |.sn [] _ true (.c (.rows z []))=>.ret (Ab7 F z)
 | .ex r => do
  match <- rdK (kR r) with
  | some (.root x m' v .live) => do
   dD (Nat.ble m m')
   .ret (Dao F r m x)
  |_=>.no
 | .sn [(r, k)] .view _ x => do
  match <- rdK (kR r) with
  | some (.root _ m' v .live) => do
   dD (Nat.ble m m'&&Nat.beq v k)
   .ret (Dao F r m x)
  |_=>.no
 |_=>.no
def Ua5 (F:Fin)(l:aZ):RdM Fin:=do
 let s <- Caf l
 .ret { F with xs:=F.xs++[s.x],frz:=F.frz++s.deps.map (·.1) }
def Mag (nv:Nat)(F:Fin):LR->aZ->RdM Fin
 |.sc,.sc x=>.ret { F with xs:=F.xs++[x] }
 |.fz,l=>Ua5 F l
 |.ow m,l=>Ua3 F m l
 |.rp z,.pn=>.ret { F with xs:=F.xs++[.c (.rows z [])] }
 | .rp z, .rp deps z' x => do
  let d <- Aa2 deps
  .ret { F with xs:=F.xs++[x],frz:=F.frz++d.map (·.1) }
 | .rp z, .pe l z' i 0 => do
  let s <- Caf l
  .ret { F with xs:=F.xs++[.v (nv+bZ F.lets)],frz:=F.frz++s.deps.map (·.1),lets:=F.lets++[.prim (.one z') [s.x,i] 1] }
 |_,_=>.no
def Iac (F:Fin):BO->aZ->RdM Fin
 |.sc,.sc x=>.ret { F with xs:=F.xs++[x] }
 |.fz,l=>Ua5 F l
 |.ow m,l=>Ua3 F m l
 |.dead,l=>bif Sao l then .ret { F with xs:=F.xs++[.c .hole] } else .no
 |_,_=>.no
def lW:Fin->List BO->List aZ->RdM Fin
 |F,[],[]=>.ret F
 | F, s :: ss, l :: ls => do
  let F <- Iac F s l
  lW F ss ls
 |_,_,_=>.no
def kG (nv:Nat):Fin->List LR->List aZ->RdM Fin
 |F,[],[]=>.ret F
 | F, s :: ss, l :: ls => do
  let F <- (match s,l with
   | .bx cs, .px b 0 => do
    match <- rdK (kB b) with
    |some (.box false bs)=>lW { F with bxs:=F.bxs++[b] } cs bs
    |_=>.no
   |s,l=>Mag nv F s l)
  kG nv F ss ls
 |_,_,_=>.no
def vE (E:Env)(nv:Nat):Fin->List (Bool×List LR)->List ResultVar->RdM Fin
 |F,[],[]=>.ret F
 | F, (a, ss) :: rs, .tmp t :: vs => do
  match <- rdK (kT t) with
  | some (.slot none v) => do
   dD (Ubs t E.ntmps)
   let ls <- tQ (nH a v)
   let F <- kG nv F ss ls
   vE E nv F rs vs
  |_=>.no
 | F, (a, ss) :: rs, .cell t ty :: vs => do
  let ti <- tQ (E.ti ty)
  dD ((a==ti.agg)&&Nat.beq ss.length ti.size&&(ti.agg||Nat.beq ti.size 1)&&Ubs t E.ntmps)
  match <- rdK (kT t) with
  | some (.slot none (.one (.px b off))) => do
   match <- rdK (kB b) with
   | some (.box _ ls) => do
    let F <- kG nv F ss ((ls.drop off).take ti.size)
    vE E nv F rs vs
   |_=>.no
  |_=>.no
 |_,_,_=>.no
def fZ:List LS->List Nat
 |[]=>[]
 |.mu m::ss=>m::fZ ss
 |_::ss=>fZ ss
def Jad (t:Nat):Nat->List Nat->Fin->RdM Fin
 |_,[],F=>.ret F
 | j, d :: ds, F => do
  match <- rdK (kT (t+j)) with
  | some (.slot none (.one (.ex r))) => do
   match <- rdK (kR r) with
   | some (.root x m _ .live) => do
    dD (Nat.ble d m)
    Jad t (j+1) ds { F with xs:=F.xs++[x],own:=F.own++[(r,2*j+1,d)] }
   |_=>.no
  |_=>.no
def wE (t:Nat):Fin->Nat->List (Bool×List (BS×BO))->RdM Fin
 |F,_,[]=>.ret F
 | F, b, (ro, cs) :: r => do
  bif ro then wE t F (b+1) r else
  match <- rdK (kT (t+b)) with
  | some (.slot none (.one (.px b' 0))) => do
   dD (Nat.beq b' b)
   match <- rdK (kB b) with
   | some (.box false ls) => do
    let F <- lW F (cs.map (·.2)) ls
    wE t F (b+1) r
   |_=>.no
  |_=>.no
def Lbq (E:Env)(s:Sig)(results:List ResultVar)(nv:Nat):RdM Fin:=do
 let F <- vE E nv ⟨[],[],0,[],[],[]⟩ s.results results
 let ms:=fZ (s.params.flatMap (·.2))
 let F <- Jad E.ntmps 0 ms F
 wE (E.ntmps+ms.length) F 0 s.boxes
def finish (E:Env)(s:Sig)(results:List ResultVar)(st:St):Option (Tm St) :=
 match (Lbq E s results st.nv).eval st.get with
 | some F =>
  bif distinct (F.own.map (·.1))&&!(meets (F.own.map (·.1)) F.frz)&&!(F.bxs.any fun b=>Ubs b s.boxes.length)&&gU st.nv F.lets then
   some (uL none (.leaf .ret F.xs st) F.lets) else none
 |none=>none
def Ib3 (E:Env)(dbg:Bool)(s:Sig)(body:Code)(live:Nat):Option (Tm St) :=
 let e:=entry s E.ntmps
 bif Kal e e.nr ((range 0 e.nt).map kT++(range 0 e.nb).map kB++(range 0 e.nr).map kR) then sxC E dbg live body [] live e else nO 7
def Mbw (l:List ResultVar):Nat:=l.foldl (fun m r=>match r with|.tmp t=>m ||| 2 ^ t|.cell t _=>m ||| 2 ^ t) 0
def Rbs:Kind->Bool
 |.ret=>true
 |.fall=>true
 |_=>false
def Bbz (E:Env)(s:Sig)(fn:Func):Option (Tm Unit) :=
 match fn.body with
 |none=>none
 | some c => bif !(Nat.ble s.params.length fn.ntmps) then none else do
  let E:={ E with ntmps:=fn.ntmps,ngh:=sU s }
  let t <- Ib3 E false s c (Mbw fn.results.toList)
  let t <- t.turn .ret Rbs fun st=>(match finish E s fn.results.toList st with|some t=>some t|none=>some .stuck)
  some t.strip
end Go.Proofs.YtpgnlmfmlffjcaaGreat.Rf

namespace Go.Proofs.YtpgnlmfmlffjcaaGreat.Rf
set_option linter.unusedVariables false
inductive Sc:Value->D->Prop
 |int (k:IntKind) (n:Int):Sc (.int k n) (.int k n)
 |bool (b:Bool):Sc (.bool b) (.bool b)
 |str (l:List UInt8):Sc (.string ⟨l.toArray⟩) (.str l)
inductive Rd (ok:Nat->Prop) (w:World):Value->D->Prop
 |sc {v:Value} {d:D} (h:Sc v d):Rd ok w v d
 |hole (v:Value) (h1:v.oneCell'=true):Rd ok w v .hole
 | rows (A : Option Addr) (a : Addr) (n c sz : Nat) (rs : List (List D)) (vs : Nat -> Nat -> Value)
   (hn:rs.length=n) (hc:n<=c) (hA:n=0\/A=some a) (hsz:∀ r∈rs,r.length=sz)
   (hcell:∀ i r,rs[i]?=some r->∀ j d,r[j]?=some d->ok a.block/\w.cell? (a.add (i*sz+j))=some (vs i j))
   (hrec:∀ i r,rs[i]?=some r->∀ j d,r[j]?=some d->Rd ok w (vs i j) d) :
   Rd ok w (.slice A n c) (.rows sz rs)
inductive Ow where
 |frz
 |slc (r:Nat) (p:List Nat)
 |box (b:Nat)
 |oth
 deriving DecidableEq
inductive Rp (own:Nat->Ow) (w:World) (r:Nat):List Nat->Nat->Value->D->Prop
 |sc {p:List Nat} {m:Nat} {v:Value} {d:D} (h:Sc v d):Rp own w r p m v d
 |hole {p:List Nat} {m:Nat} (v:Value) (h1:v.oneCell'=true):Rp own w r p m v .hole
 |fz {p:List Nat} {v:Value} {d:D} (h:Rd (fun b=>own b=.frz) w v d):Rp own w r p 0 v d
 | sl {p : List Nat} {m : Nat} (A : Option Addr) (a : Addr) (n c sz : Nat) (rs : List (List D)) (vs : Nat -> Nat -> Value)
   (hn:rs.length=n) (hc:n<=c) (hA:A=some a\/(A=none/\c=0)) (hsz:∀ r∈rs,r.length=sz)
   (hown:A=some a->a.spot=none/\own a.block=.slc r p/\∀ k,k<c*sz->∃ u,w.cell? (a.add k)=some u/\w.frozen? (a.add k)=false)
   (hcell:∀ i row,rs[i]?=some row->∀ j d,row[j]?=some d->w.cell? (a.add (i*sz+j))=some (vs i j))
   (hrec:∀ i row,rs[i]?=some row->∀ j d,row[j]?=some d->Rp own w r (p++[i*sz+j]) m (vs i j) d) :
   Rp own w r p (m+1) (.slice A n c) (.rows sz rs)
def Eas (own:Nat->Ow)(w:World)(r:Nat):List Nat->Value->List Nat->Value->Prop
 |_,v,[],u=>u=v
 |q,v,k::p,u=>∃ a n c u',v=.slice (some a) n c/\own a.block=.slc r q/\w.cell? (a.add k)=some u'/\Eas own w r (q++[k]) u' p u
theorem iC {w w':World}{a:Addr}(h:w'.heap[a.block]?=w.heap[a.block]?):w'.cell? a=w.cell? a:=by
 unfold World.cell?;rw[h]
theorem oK {w w':World}{a:Addr}(h:w'.heap[a.block]?=w.heap[a.block]?):w'.frozen? a=w.frozen? a:=by
 unfold World.frozen?;rw[h]
theorem add_block (a:Addr)(k:Nat):(a.add k).block=a.block:=by unfold Addr.add;split<;>rfl
theorem add_add (a:Addr)(j k:Nat):(a.add j).add k=a.add (j+k):=by
 unfold Addr.add
 by_cases hj:j=0<;>by_cases hk:k=0<;>simp_all<;>omega
theorem Rd.mono {ok ok':Nat->Prop}{w w':World}{v:Value}{d:D}(h:Rd ok w v d)
  (hf:∀ b,ok b->ok' b/\w'.heap[b]?=w.heap[b]?):Rd ok' w' v d:=by
 induction h with
 |sc h=>exact .sc h
 |hole v h1=>exact .hole v h1
 | rows A a n c sz rs vs hn hc hA hsz hcell hrec ih =>
  refine .rows A a n c sz rs vs hn hc hA hsz (fun i r hi j d hj=>?_) (fun i r hi j d hj=>ih i r hi j d hj)
  obtain⟨h1,h2⟩:=hcell i r hi j d hj
  obtain⟨h3,h4⟩:=hf _ h1
  exact⟨h3,(iC (w:=w) (w':=w') (by rw[add_block];exact h4)).trans h2⟩
theorem Rp.mono {own own':Nat->Ow}{w w':World}{r r':Nat}{q q':List Nat}{p:List Nat}{m:Nat}{v:Value}{d:D}(h:Rp own w r p m v d)
  (hz:∀ b,own b=.frz->own' b=.frz/\w'.heap[b]?=w.heap[b]?) :
  ∀ s,p=q++s->(∀ b t,own b=.slc r (q++t)->own' b=.slc r' (q'++t)/\w'.heap[b]?=w.heap[b]?)->Rp own' w' r' (q'++s) m v d:=by
 induction h with
 |sc h=>exact fun _ _ _=>.sc h
 |hole v h1=>exact fun _ _ _=>.hole v h1
 |fz h=>exact fun _ _ _=>.fz (h.mono hz)
 | sl A a n c sz rs vs hn hc hA hsz hown hcell hrec ih =>
  rename_i p m
  intro s hp hs
  refine .sl A a n c sz rs vs hn hc hA hsz (fun e=>?_) (fun i row hi j d hj=>?_) (fun i row hi j d hj=>?_)
  ·obtain⟨h1,h2,h3⟩:=hown e
   rw[hp]at h2
   obtain⟨h4,h5⟩:=hs _ _ h2
   refine⟨h1,h4,fun k hk=>?_⟩
   obtain⟨u,hu,hf⟩:=h3 k hk
   exact⟨u,(iC (w:=w) (w':=w') (by rw[add_block];exact h5)).trans hu,(oK (w:=w) (w':=w') (by rw[add_block];exact h5)).trans hf⟩
  ·rcases hA with e|⟨e,e'⟩
   ·obtain⟨h1,h2,h3⟩:=hown e
    rw[hp]at h2
    obtain⟨h4,h5⟩:=hs _ _ h2
    exact (iC (w:=w) (w':=w') (by rw[add_block];exact h5)).trans (hcell i row hi j d hj)
   ·exfalso
    have:i<rs.length:=by
     rcases Tbi i rs.length with h|h
     ·exact h
     ·simp[Ubk h]at hi
    omega
  ·have:=ih i row hi j d hj (s++[i*sz+j]) (by rw[hp,Sb3]) hs
   rwa[<- Sb3]at this
theorem Rp.rd {own:Nat->Ow}{w:World}{r:Nat}{p:List Nat}{m:Nat}{v:Value}{d:D}(h:Rp own w r p m v d) :
  Rd (fun b=>own b=.frz\/∃ q,own b=.slc r q) w v d:=by
 induction h with
 |sc h=>exact .sc h
 |hole v h1=>exact .hole v h1
 |fz h=>exact h.mono fun b hb=>⟨.inl hb,rfl⟩
 | sl A a n c sz rs vs hn hc hA hsz hown hcell hrec ih =>
  refine .rows A a n c sz rs vs hn hc ?_ hsz (fun i row hi j d hj=>?_) ih
  ·rcases hA with e|⟨e,e'⟩
   ·exact .inr e
   ·exact .inl (by omega)
  ·refine⟨?_,hcell i row hi j d hj⟩
   rcases hA with e|⟨e,e'⟩
   ·exact .inr ⟨_,(hown e).2.1⟩
   ·exfalso
    have:i<rs.length:=by
     rcases Tbi i rs.length with h|h
     ·exact h
     ·simp[Ubk h]at hi
    omega
theorem Rp.weaken {own own':Nat->Ow}{w:World}{r:Nat}{p:List Nat}{m:Nat}{v:Value}{d:D}(h:Rp own w r p m v d)
  (hz:∀ b,own b=.frz->own' b=.frz):∀ (m':Nat),m'<=m ->
  (∀ b t,own b=.slc r (p++t)->own' b=(if t.length<m' then .slc r (p++t) else .frz))->Rp own' w r p m' v d:=by
 induction h with
 |sc h=>exact fun _ _ _=>.sc h
 |hole v h1=>exact fun _ _ _=>.hole v h1
 | fz h =>
  intro m' hm hs
  obtain rfl:m'=0:=by omega
  exact .fz (h.mono fun b hb=>⟨hz b hb,rfl⟩)
 | sl A a n c sz rs vs hn hc hA hsz hown hcell hrec ih =>
  rename_i p m
  intro m' hm hs
  cases m' with
  | zero =>
   refine .fz (.rows A a n c sz rs vs hn hc ?_ hsz (fun i row hi j d hj=>?_) (fun i row hi j d hj=>?_))
   ·rcases hA with e|⟨e,e'⟩
    ·exact .inr e
    ·exact .inl (by omega)
   ·refine⟨?_,hcell i row hi j d hj⟩
    rcases hA with e|⟨e,e'⟩
    ·have:=hs a.block [] (by simpa using (hown e).2.1)
     simpa using this
    ·exfalso
     have:i<rs.length:=by
      rcases Tbi i rs.length with h|h
      ·exact h
      ·simp[Ubk h]at hi
     omega
   ·have h1:=ih i row hi j d hj 0 (Nat.zero_le _) (fun b t hb=>by
     have:=hs b ([i*sz+j]++t) (by rw[<- Sb3];exact hb)
     simpa using this)
    generalize vs i j=u at h1
    cases h1 with
    |sc h=>exact .sc h
    |hole _ h1=>exact .hole _ h1
    |fz h=>exact h
  | succ m' =>
   refine .sl A a n c sz rs vs hn hc hA hsz (fun e=>?_) hcell (fun i row hi j d hj=>?_)
   ·obtain⟨h1,h2,h3⟩:=hown e
    refine⟨h1,?_,h3⟩
    have:=hs a.block [] (by simpa using h2)
    simpa using this
   ·refine ih i row hi j d hj m' (by omega) (fun b t hb=>?_)
    have:=hs b ([i*sz+j]++t) (by rw[<- Sb3];exact hb)
    simp only[List.length_append,List.length_singleton]at this
    rw[this,<- Sb3]
    by_cases ht:t.length<m'
    ·rw[if_pos ht,if_pos (by omega)]
    ·rw[if_neg ht,if_neg (by omega)]
theorem Sc.one {v:Value}{d:D}(h:Sc v d):v.oneCell'=true:=by cases h<;>rfl
theorem Rd.one {ok:Nat->Prop}{w:World}{v:Value}{d:D}(h:Rd ok w v d):v.oneCell'=true:=by
 cases h with
 |sc h=>exact h.one
 |hole _ h1=>exact h1
 |rows=>rfl
theorem Rp.one {own:Nat->Ow}{w:World}{r:Nat}{p:List Nat}{m:Nat}{v:Value}{d:D}(h:Rp own w r p m v d):v.oneCell'=true:=by
 cases h with
 |sc h=>exact h.one
 |hole _ h1=>exact h1
 |fz h=>exact h.one
 |sl=>rfl
structure Gh where
 own:Nat->Ow
 hdr:Nat->Value
 bx:Nat->Addr
def uJ (σ:Nat->Option aW)(r k:Nat):Prop:=∃ x m st,σ (kR r)=some (.root x m k st)/\(st=.live\/st=.frozen)
def Hay (σ:Nat->Option aW)(r k m:Nat):Prop:=∃ x,σ (kR r)=some (.root x m k .live)
def nS (σ:Nat->Option aW)(r k:Nat):Prop:=∃ x m ver st,σ (kR r)=some (.root x m ver st)/\(st=.live\/st=.frozen->k<=ver)
def allow (G:Gh)(deps:List (Nat×Nat))(b:Nat):Prop:=G.own b=.frz\/∃ r k p,(r,k)∈deps/\G.own b=.slc r p
def pF (ρ:List D)(x:aO):Nat:=match x.val ρ with
 |.int _ n=>n.toNat
 |_=>0
def bM (ρ:List D)(p:List (aO×Nat×Nat)):List Nat:=p.map fun x=>pF ρ x.1*x.2.1+x.2.2
def Lbz (h v:Value)(sz L:Nat):Prop:=∃ A n c,h=.slice A n c/\L<=n/\v=.slice (if c=L then A else A.map (·.add (L*sz))) (n-L) (c-L)
def Nab (σ:Nat->Option aW)(ρ:List D)(G:Gh)(w:World)(deps:List (Nat×Nat))(v:Value)(d:D):Pth->Prop
 |.no=>True
 |.view=>∀ r k m,deps=[(r,k)]->Hay σ r k m->Rp G.own w r [] m v d
 |.suf sz lo=>∀ r k m,deps=[(r,k)]->Hay σ r k m->Lbz (G.hdr r) v sz (pF ρ lo)
 |.path p=>∀ r k m,deps=[(r,k)]->Hay σ r k m->p.length<=m/\Rp G.own w r (bM ρ p) (m-p.length) v d/\Eas G.own w r [] (G.hdr r) (bM ρ p) v
mutual
def aD (σ:Nat->Option aW)(ρ:List D)(G:Gh)(w:World):aZ->Value->Prop
 |.dead,v=>v.oneCell'=true
 |.sc x,v=>Sc v (x.val ρ)
 |.su g x,v=>(Sc v (x.val ρ)\/(v=undef/\x.val ρ=.undef))/\(gOn ρ (some g)=true->Sc v (x.val ρ))
 |.ex r,v=>v=G.hdr r/\(σ (kR r)).isSome/\v.oneCell'=true
 | .sn deps p nie x, v => (v.oneCell' = true /\ ∀ z ∈ deps, nS σ z.1 z.2) /\ ((∀ z ∈ deps, uJ σ z.1 z.2) ->
   Rd (allow G deps) w v (x.val ρ)/\(nie=true->∀ z,x.val ρ=.rows z []->v=.slice none 0 0)/\Nab σ ρ G w deps v (x.val ρ) p)
 |.px b off,v=>v=.pointer (some ((G.bx b).add off))/\(σ (kB b)).isSome
 |.pe l sz i off,v=>∃ a n c k iv,aD σ ρ G w l (.slice (some a) n c)/\i.val ρ=.int k iv/\0<=iv/\iv.toNat<n/\v=.pointer (some (a.add (iv.toNat*sz+off)))
 | .rp deps sz x, v => (v.oneCell' = true /\ ∀ z ∈ deps, nS σ z.1 z.2) /\ ((∀ z ∈ deps, uJ σ z.1 z.2) ->
   (v=.pointer none/\∃ z,x.val ρ=.rows z []) \/
   ∃ a row,v=.pointer (some a)/\x.val ρ=.rows row.length [row]/\Rd (allow G deps) w (.slice (some a) 1 1) (.rows row.length [row]))
 |.pn,v=>v=.pointer none
 |.clo f caps,v=>∃ vs,v=.func (.func f) #[] vs.toArray/\aK σ ρ G w caps vs
def aK (σ:Nat->Option aW)(ρ:List D)(G:Gh)(w:World):List aZ->List Value->Prop
 |[],vs=>vs=[]
 |l::ls,vs=>∃ u us,vs=u::us/\aD σ ρ G w l u/\aK σ ρ G w ls us
end
def lX (σ:Nat->Option aW)(ρ:List D)(G:Gh)(w:World):List (Bool×List aZ)->List Value->Prop
 |[],us=>us=[]
 |(a,ls)::r,us=>∃ u us' vs,us=u::us'/\aK σ ρ G w ls vs/\(if a=true then u=.agg vs.toArray else vs=[u])/\lX σ ρ G w r us'
def eB (σ:Nat->Option aW)(ρ:List D)(G:Gh)(w:World):SV->Value->Prop
 |.dead,_=>True
 |.one l,v=>aD σ ρ G w l v
 |.agg ls,v=>∃ vs,v=.agg vs.toArray/\aK σ ρ G w ls vs
 |.tup ts,v=>∃ us,v=.tuple us.toArray/\lX σ ρ G w ts us
def Eaq (n:Nat)(a:Act)(gh:Nat->Value)(t:Nat):Value:=if t<n then a.tmps.getD t undef else gh (t-n)
def dJ (σ:Nat->Option aW)(ρ:List D)(G:Gh)(w:World)(r:Nat)(x:aO)(m:Nat):RSt->Prop
 |.live=>Rp G.own w r [] m (G.hdr r) (x.val ρ)
 |.frozen=>Rd (fun b=>G.own b=.frz) w (G.hdr r) (x.val ρ)/\∀ b p,G.own b≠.slc r p
 |.gone=>True
 |.fwd r'=>G.hdr r=G.hdr r'/\(σ (kR r')).isSome
def Pan (σ:Nat->Option aW)(ρ:List D)(G:Gh)(w:World)(b:Nat)(ro:Bool)(ls:List aZ):Prop :=
 (G.bx b).spot=none/\G.own (G.bx b).block=(if ro=true then .oth else .box b) /\
 ∀ j l,ls[j]?=some l->∃ v,w.cell? ((G.bx b).add j)=some v/\w.frozen? ((G.bx b).add j)=false/\aD σ ρ G w l v
structure cB where
 w0:World
 own0:Nat->Ow
 gh:Nat->Value
 rng:Nat->Nat×Nat
structure rH (F:cB) (G:Gh) (w:World):Prop where
 os:w.os=F.w0.os
 tape:w.tape=F.w0.tape
 output:w.output=F.w0.output
 size:F.w0.heap.size<=w.heap.size
 keep:∀ b,b<F.w0.heap.size->F.own0 b=.frz\/F.own0 b=.oth->w.heap[b]?=F.w0.heap[b]?/\G.own b=F.own0 b
 boxes:∀ b j,b<F.w0.heap.size->F.own0 b=.box j->G.own b=.box j/\∃ c0 c1 e fr,F.w0.heap[b]?=some (.cells c0 e fr)/\w.heap[b]?=some (.cells c1 e fr)/\c1.size=c0.size /\
  ∀ k,k<(F.rng j).1\/(F.rng j).2<=k->c1[k]?=c0[k]?
 fresh:∀ b,w.heap.size<=b->G.own b=.frz
def Gbp (n:Nat)(gh:Nat->Value)(σ:Nat->Option aW)(ρ:List D)(G:Gh)(a:Act)(w:World):Nat->aW->Prop
 |k,.slot g v=>∃ t,k=kT t/\(gOn ρ g=true->eB σ ρ G w v (Eaq n a gh t))
 |k,.box ro ls=>∃ b,k=kB b/\Pan σ ρ G w b ro ls
 |k,.root x m ver st=>∃ r,k=kR r/\(σ (kR r)).isSome/\dJ σ ρ G w r x m st
structure R (n:Nat) (F:cB) (σ:Nat->Option aW) (ρ:List D) (a:Act) (w:World) (G:Gh):Prop where
 tmps:a.tmps.size=n
 defers:a.defers=[]
 cont:∀ k c,σ k=some c->Gbp n F.gh σ ρ G a w k c
 frame:rH F G w
 rng:∀ b ls,σ (kB b)=some (.box false ls)->(G.bx b).block<F.w0.heap.size->F.own0 (G.bx b).block=.box b->F.rng b=((G.bx b).off,(G.bx b).off+ls.length)
theorem Pb7 {a b:Nat}(h:kT a=kT b):a=b:=by unfold kT at h;omega
theorem Ia6 {a b:Nat}(h:kB a=kB b):a=b:=by unfold kB at h;omega
theorem iB {a b:Nat}(h:kR a=kR b):a=b:=by unfold kR at h;omega
theorem rO {a b:Nat}:kT a≠kB b:=by unfold kT kB;omega
theorem kU {a b:Nat}:kT a≠kR b:=by unfold kT kR;omega
theorem iX {a b:Nat}:kB a≠kR b:=by unfold kB kR;omega
section
variable {n:Nat} {F:cB} {σ:Nat->Option aW} {ρ:List D} {a:Act} {w:World} {G:Gh}
theorem R.slot (h:R n F σ ρ a w G){t:Nat}{g:Option (aO×Bool)}{v:SV}(hk:σ (kT t)=some (.slot g v))(hg:gOn ρ g=true):eB σ ρ G w v (Eaq n a F.gh t):=by
 obtain⟨t',e,h'⟩:=h.cont _ _ hk
 obtain rfl:=Pb7 e
 exact h' hg
theorem R.box (h:R n F σ ρ a w G){b:Nat}{ro:Bool}{ls:List aZ}(hk:σ (kB b)=some (.box ro ls)):Pan σ ρ G w b ro ls:=by
 obtain⟨t',e,h'⟩:=h.cont _ _ hk
 obtain rfl:=Ia6 e
 exact h'
theorem R.root (h:R n F σ ρ a w G){r:Nat}{x:aO}{m ver:Nat}{st:RSt}(hk:σ (kR r)=some (.root x m ver st)):dJ σ ρ G w r x m st:=by
 obtain⟨t',e,_,h'⟩:=h.cont _ _ hk
 obtain rfl:=iB e
 exact h'
end
structure Fr (σ:Nat->Option aW) (G:Gh) (w:World) (σ':Nat->Option aW) (G':Gh) (w':World):Prop where
 frz:∀ b,G.own b=.frz->b<w.heap.size->G'.own b=.frz/\w'.heap[b]?=w.heap[b]?
 valid:∀ r k,nS σ r k->uJ σ' r k->uJ σ r k
 known:∀ r k,nS σ r k->nS σ' r k
 slc:∀ r k b p,uJ σ r k->uJ σ' r k->G.own b=.slc r p->(G'.own b=.slc r p\/G'.own b=.frz)/\w'.heap[b]?=w.heap[b]?
 live:∀ r k m,nS σ r k->Hay σ' r k m->Hay σ r k m/\∀ b p,G.own b=.slc r p->G'.own b=.slc r p
 hdr:∀ r,(σ (kR r)).isSome->G'.hdr r=G.hdr r
 bx:∀ b,(σ (kB b)).isSome->G'.bx b=G.bx b
 keep:∀ k,(σ k).isSome->(σ' k).isSome
 froz:∀ r x m k,σ (kR r)=some (.root x m k .frozen)->∀ b p,G'.own b=.slc r p->G.own b=.slc r p
theorem nS.some {σ:Nat->Option aW}{r k:Nat}(h:nS σ r k):(σ (kR r)).isSome:=by
 obtain⟨x,m,ver,st,e,_⟩:=h
 rw[e];rfl
theorem uJ.known {σ:Nat->Option aW}{r k:Nat}(h:uJ σ r k):nS σ r k:=by
 obtain⟨x,m,st,e,_⟩:=h
 exact⟨x,m,k,st,e,fun _=>Nat.le_refl _⟩
theorem nS.same {σ σ':Nat->Option aW}(h:∀ r,σ' (kR r)=σ (kR r)){r k:Nat}(hk:nS σ r k):nS σ' r k:=by
 obtain⟨x,m,ver,st,e,h1⟩:=hk
 exact⟨x,m,ver,st,by rw[h];exact e,h1⟩
theorem Hay.valid {σ:Nat->Option aW}{r k m:Nat}(h:Hay σ r k m):uJ σ r k:=by
 obtain⟨x,e⟩:=h
 exact⟨x,m,.live,e,.inl rfl⟩
theorem block_lt {w:World}{a:Addr}{v:Value}(h:w.cell? a=some v):a.block<w.heap.size:=by
 rcases Tbi a.block w.heap.size with h1|h1
 ·exact h1
 ·unfold World.cell? at h
  rw[Array.getElem?_eq_none h1]at h
  cases h
theorem Ma0 {w:World}{a:Addr}{v:Value}(h:w.cell? a=some v):a.block<w.heap.size:=block_lt h
theorem Rd.mono' {ok ok':Nat->Prop}{w w':World}{v:Value}{d:D}(h:Rd ok w v d)
  (hf:∀ b,ok b->b<w.heap.size->ok' b/\w'.heap[b]?=w.heap[b]?):Rd ok' w' v d:=by
 induction h with
 |sc h=>exact .sc h
 |hole v h1=>exact .hole v h1
 | rows A a n c sz rs vs hn hc hA hsz hcell hrec ih =>
  refine .rows A a n c sz rs vs hn hc hA hsz (fun i r hi j d hj=>?_) (fun i r hi j d hj=>ih i r hi j d hj)
  obtain⟨h1,h2⟩:=hcell i r hi j d hj
  have hlt:=Ma0 h2
  rw[add_block]at hlt
  obtain⟨h3,h4⟩:=hf _ h1 hlt
  exact⟨h3,(iC (w:=w) (w':=w') (by rw[add_block];exact h4)).trans h2⟩
theorem Rp.mono' {own own':Nat->Ow}{w w':World}{r r':Nat}{q q':List Nat}{p:List Nat}{m:Nat}{v:Value}{d:D}(h:Rp own w r p m v d)
  (hz:∀ b,own b=.frz->b<w.heap.size->own' b=.frz/\w'.heap[b]?=w.heap[b]?) :
  ∀ s,p=q++s->(∀ b t,own b=.slc r (q++t)->own' b=.slc r' (q'++t)/\w'.heap[b]?=w.heap[b]?)->Rp own' w' r' (q'++s) m v d:=by
 induction h with
 |sc h=>exact fun _ _ _=>.sc h
 |hole v h1=>exact fun _ _ _=>.hole v h1
 |fz h=>exact fun _ _ _=>.fz (h.mono' hz)
 | sl A a n c sz rs vs hn hc hA hsz hown hcell hrec ih =>
  rename_i p m
  intro s hp hs
  refine .sl A a n c sz rs vs hn hc hA hsz (fun e=>?_) (fun i row hi j d hj=>?_) (fun i row hi j d hj=>?_)
  ·obtain⟨h1,h2,h3⟩:=hown e
   rw[hp]at h2
   obtain⟨h4,h5⟩:=hs _ _ h2
   refine⟨h1,h4,fun k hk=>?_⟩
   obtain⟨u,hu,hf⟩:=h3 k hk
   exact⟨u,(iC (w:=w) (w':=w') (by rw[add_block];exact h5)).trans hu,(oK (w:=w) (w':=w') (by rw[add_block];exact h5)).trans hf⟩
  ·rcases hA with e|⟨e,e'⟩
   ·obtain⟨h1,h2,h3⟩:=hown e
    rw[hp]at h2
    obtain⟨h4,h5⟩:=hs _ _ h2
    exact (iC (w:=w) (w':=w') (by rw[add_block];exact h5)).trans (hcell i row hi j d hj)
   ·exfalso
    have:i<rs.length:=by
     rcases Tbi i rs.length with h|h
     ·exact h
     ·simp[Ubk h]at hi
    omega
  ·have:=ih i row hi j d hj (s++[i*sz+j]) (by rw[hp,Sb3]) hs
   rwa[<- Sb3]at this
theorem Eas.mono {own own':Nat->Ow}{w w':World}{r r':Nat}:∀ (p q q':List Nat) (v u:Value),
  (∀ b t,own b=.slc r (q++t)->own' b=.slc r' (q'++t)/\w'.heap[b]?=w.heap[b]?)->Eas own w r q v p u->Eas own' w' r' q' v p u
 |[],_,_,_,_,_,h=>h
 | k :: p, q, q', v, u, hs, h => by
  obtain⟨a,n,c,u',rfl,ho,hc,hn⟩:=h
  obtain⟨h1,h2⟩:=hs a.block [] (by simpa using ho)
  refine⟨a,n,c,u',rfl,by simpa using h1,(iC (w:=w) (w':=w') (by rw[add_block];exact h2)).trans hc,?_⟩
  exact Eas.mono p (q++[k]) (q'++[k]) u' u (fun b t hb=>by
   have:=hs b (k::t) (by simpa using hb)
   simpa using this) hn
section
variable {σ σ':Nat->Option aW} {ρ:List D} {G G':Gh} {w w':World}
theorem Nab.mono (h:Fr σ G w σ' G' w'){deps:List (Nat×Nat)}(hex:∀ z∈deps,nS σ z.1 z.2){v:Value}{d:D}{p:Pth}(hp:Nab σ ρ G w deps v d p):Nab σ' ρ G' w' deps v d p:=by
 cases p with
 |no=>trivial
 | view =>
  intro r k m e hl
  obtain⟨hl',ho⟩:=h.live r k m (hex (r,k) (by simp[e])) hl
  have:=(hp r k m e hl').mono' (q:=[]) (q':=[]) h.frz [] rfl (fun b t hb=>⟨ho b t hb,(h.slc r k b _ hl'.valid hl.valid hb).2⟩)
  simpa using this
 | suf sz lo =>
  intro r k m e hl
  obtain⟨hl',ho⟩:=h.live r k m (hex (r,k) (by simp[e])) hl
  rw[h.hdr r (hex (r,k) (by simp[e])).some]
  exact hp r k m e hl'
 | path p =>
  intro r k m e hl
  obtain⟨hl',ho⟩:=h.live r k m (hex (r,k) (by simp[e])) hl
  obtain⟨h1,h2,h3⟩:=hp r k m e hl'
  have hs:∀ b t,G.own b=.slc r ([]++t)->G'.own b=.slc r ([]++t)/\w'.heap[b]?=w.heap[b]?:=fun b t hb=>⟨ho b t hb,(h.slc r k b _ hl'.valid hl.valid hb).2⟩
  refine⟨h1,?_,?_⟩
  ·have:=h2.mono' (q:=[]) (q':=[]) h.frz _ rfl hs
   rw[List.nil_append]at this
   exact this
  ·rw[h.hdr r (hex (r,k) (by simp[e])).some]
   exact h3.mono _ _ _ _ _ hs
theorem allow.mono (h:Fr σ G w σ' G' w'){deps:List (Nat×Nat)}(hex:∀ z∈deps,nS σ z.1 z.2)(hv:∀ z∈deps,uJ σ' z.1 z.2){b:Nat}(hb:allow G deps b)(hlt:b<w.heap.size) :
  allow G' deps b/\w'.heap[b]?=w.heap[b]?:=by
 rcases hb with hb|⟨r,k,p,hm,hb⟩
 ·exact⟨.inl (h.frz b hb hlt).1,(h.frz b hb hlt).2⟩
 ·have hv':=hv (r,k) hm
  have:=h.slc r k b p (h.valid r k (hex (r,k) hm) hv') hv' hb
  exact⟨this.1.elim (fun e=>.inr ⟨r,k,p,hm,e⟩) .inl,this.2⟩
mutual
theorem aD.mono (h:Fr σ G w σ' G' w'):∀ (l:aZ) (v:Value),aD σ ρ G w l v->aD σ' ρ G' w' l v
 |.dead,_,hl=>by simpa[aD] using hl
 |.sc x,v,hl=>by simpa[aD] using hl
 |.su g x,v,hl=>by simpa[aD] using hl
 | .ex r, v, hl => by
  simp only[aD]at hl ⊢
  exact⟨by rw[h.hdr r hl.2.1];exact hl.1,h.keep _ hl.2.1,hl.2.2⟩
 | .sn deps p nie x, v, hl => by
  simp only[aD]at hl ⊢
  refine⟨⟨hl.1.1,fun z hz=>h.known _ _ (hl.1.2 z hz)⟩,fun hv=>?_⟩
  obtain⟨h1,h2,h3⟩:=hl.2 (fun z hz=>h.valid _ _ (hl.1.2 z hz) (hv z hz))
  exact⟨h1.mono' fun b hb hlt=>allow.mono h hl.1.2 hv hb hlt,h2,h3.mono h hl.1.2⟩
 | .px b off, v, hl => by
  simp only[aD]at hl ⊢
  exact⟨by rw[h.bx b hl.2];exact hl.1,h.keep _ hl.2⟩
 | .pe l sz i off, v, hl => by
  simp only[aD]at hl ⊢
  obtain⟨a,n,c,k,iv,h1,h2⟩:=hl
  exact⟨a,n,c,k,iv,aD.mono h l _ h1,h2⟩
 | .rp deps sz x, v, hl => by
  simp only[aD]at hl ⊢
  refine⟨⟨hl.1.1,fun z hz=>h.known _ _ (hl.1.2 z hz)⟩,fun hv=>?_⟩
  rcases hl.2 (fun z hz=>h.valid _ _ (hl.1.2 z hz) (hv z hz)) with h1|⟨a,row,h1,h2,h3⟩
  ·exact .inl h1
  ·exact .inr ⟨a,row,h1,h2,h3.mono' fun b hb hlt=>allow.mono h hl.1.2 hv hb hlt⟩
 |.pn,v,hl=>by simpa[aD] using hl
 | .clo f caps, v, hl => by
  simp only[aD]at hl ⊢
  obtain⟨vs,h1,h2⟩:=hl
  exact⟨vs,h1,aK.mono h caps vs h2⟩
theorem aK.mono (h:Fr σ G w σ' G' w'):∀ (ls:List aZ) (vs:List Value),aK σ ρ G w ls vs->aK σ' ρ G' w' ls vs
 |[],vs,hl=>by simpa[aK] using hl
 | l :: ls, vs, hl => by
  simp only[aK]at hl ⊢
  obtain⟨u,us,e,h1,h2⟩:=hl
  exact⟨u,us,e,aD.mono h l u h1,aK.mono h ls us h2⟩
end
theorem lX.mono (h:Fr σ G w σ' G' w'):∀ (ts:List (Bool×List aZ)) (us:List Value),lX σ ρ G w ts us->lX σ' ρ G' w' ts us
 |[],_,ht=>ht
 | (a, ls) :: r, us, ht => by
  obtain⟨u,us',vs,e,h1,h2,h3⟩:=ht
  exact⟨u,us',vs,e,aK.mono h ls vs h1,h2,lX.mono h r us' h3⟩
theorem eB.mono (h:Fr σ G w σ' G' w'){v:SV}{u:Value}(hv:eB σ ρ G w v u):eB σ' ρ G' w' v u:=by
 cases v with
 |dead=>trivial
 |one l=>exact aD.mono h l u hv
 |agg ls=>obtain⟨vs,e,h1⟩:=hv;exact⟨vs,e,aK.mono h ls vs h1⟩
 |tup ts=>obtain⟨us,e,h1⟩:=hv;exact⟨us,e,lX.mono h ts us h1⟩
end
def Abk (σ:Nat->Option aW)(k:Nat)(c:aW):Nat->Option aW:=fun j=>if j=k then some c else σ j
def upds (σ:Nat->Option aW):List (Nat×aW)->Nat->Option aW
 |[]=>σ
 |(k,c)::r=>upds (Abk σ k c) r
theorem vQ:∀ (u:List (Nat×aW)) (σ:Nat->Option aW) (k:Nat) (c:aW),upds σ u k=some c->(k,c)∈u\/((∀ c',(k,c')∉u)/\σ k=some c)
 |[],σ,k,c,h=>.inr ⟨by simp,h⟩
 | (k', c') :: r, σ, k, c, h => by
  rcases vQ r (Abk σ k' c') k c h with h1|⟨h1,h2⟩
  ·exact .inl (Tba _ h1)
  ·unfold Abk at h2
   split at h2
   ·rename_i e
    obtain rfl:=Option.some.inj h2
    exact .inl (by rw[e];exact Tbe)
   ·rename_i e
    refine .inr ⟨fun c'' hc=>?_,h2⟩
    rcases List.mem_cons.1 hc with h3|h3
    ·exact e (Prod.mk.inj h3).1
    ·exact h1 _ h3
theorem gZ:∀ (u:List (Nat×aW)) (σ:Nat->Option aW) (k:Nat),(∀ c,(k,c)∉u)->upds σ u k=σ k
 |[],_,_,_=>rfl
 | (k', c') :: r, σ, k, h => by
  rw[upds,gZ r _ k fun c hc=>h c (Tba _ hc)]
  unfold Abk
  rw[if_neg]
  intro e
  exact h c' (by rw[e];exact Tbe)
theorem gD:∀ (u:List (Nat×aW)) (σ:Nat->Option aW) (k:Nat),(σ k).isSome\/(∃ c,(k,c)∈u)->(upds σ u k).isSome
 | [], σ, k, h => by
  rcases h with h|⟨c,hc⟩
  ·exact h
  ·simp at hc
 | (k', c') :: r, σ, k, h => by
  refine gD r _ k ?_
  unfold Abk
  rcases h with h|⟨c,hc⟩
  ·exact .inl (by split<;>simp_all)
  ·rcases List.mem_cons.1 hc with h1|h1
   ·exact .inl (by rw[if_pos (Prod.mk.inj h1).1];rfl)
   ·exact .inr ⟨c,h1⟩
section
variable {n:Nat} {F:cB} {σ:Nat->Option aW} {ρ:List D} {a a':Act} {w w':World} {G G':Gh}
theorem R.upd (h:R n F σ ρ a w G)(u:List (Nat×aW))(hfr:Fr σ G w (upds σ u) G' w')(hsz:a'.tmps.size=n)(hd:a'.defers=[])
  (hF:rH F G' w')
  (htm:∀ t,(∀ c,(kT t,c)∉u)->Eaq n a' F.gh t=Eaq n a F.gh t)
  (hbx:∀ b ro ls,σ (kB b)=some (.box ro ls)->(∀ c,(kB b,c)∉u)->G'.own (G.bx b).block=G.own (G.bx b).block/\w'.heap[(G.bx b).block]?=w.heap[(G.bx b).block]?)
  (hrng:∀ b ls,(kB b,.box false ls)∈u->(G'.bx b).block<F.w0.heap.size->F.own0 (G'.bx b).block=.box b->F.rng b=((G'.bx b).off,(G'.bx b).off+ls.length))
  (hnew:∀ k c,(k,c)∈u->upds σ u k=some c->Gbp n F.gh (upds σ u) ρ G' a' w' k c):R n F (upds σ u) ρ a' w' G':=by
 refine⟨hsz,hd,fun k c hk=>?_,hF,fun b ls hk hb ho=>?_⟩
 ·rcases vQ u σ k c hk with h1|⟨h1,h2⟩
  ·exact hnew k c h1 hk
  ·cases c with
   | slot g v =>
    obtain⟨t,rfl,hv⟩:=h.cont k _ h2
    refine⟨t,rfl,fun hg=>?_⟩
    rw[htm t h1]
    exact (hv hg).mono hfr
   | box ro ls =>
    obtain⟨b,rfl,h3,h4,h5⟩:=h.cont k _ h2
    obtain⟨h6,h7⟩:=hbx b ro ls h2 h1
    have e:G'.bx b=G.bx b:=hfr.bx b (by rw[h2];rfl)
    refine⟨b,rfl,by rw[e];exact h3,by rw[e,h6];exact h4,fun j l hj=>?_⟩
    obtain⟨v,h8,h9,h10⟩:=h5 j l hj
    rw[e]
    exact⟨v,(iC (w:=w) (w':=w') (by rw[add_block];exact h7)).trans h8,(oK (w:=w) (w':=w') (by rw[add_block];exact h7)).trans h9,aD.mono hfr l v h10⟩
   | root x m ver st =>
    obtain⟨r,rfl,h0,h3⟩:=h.cont k _ h2
    refine⟨r,rfl,hfr.keep _ h0,?_⟩
    have e:G'.hdr r=G.hdr r:=hfr.hdr r h0
    cases st with
    | live =>
     have hl':Hay (upds σ u) r ver m:=⟨x,hk⟩
     obtain⟨hl,ho⟩:=hfr.live r ver m ⟨x,m,ver,.live,h2,fun _=>Nat.le_refl _⟩ hl'
     have:=Rp.mono' (q:=[]) (q':=[]) h3 hfr.frz [] rfl (fun b t hb=>⟨ho b t hb,(hfr.slc r ver b _ hl.valid hl'.valid hb).2⟩)
     simp only[dJ]
     rw[e]
     simpa using this
    | frozen =>
     simp only[dJ]
     rw[e]
     exact⟨h3.1.mono' hfr.frz,fun b p hb=>h3.2 b p (hfr.froz r x m ver h2 b p hb)⟩
    |gone=>trivial
    | fwd r' =>
     obtain⟨h4,h5⟩:=h3
     exact⟨by rw[e,hfr.hdr r' h5];exact h4,hfr.keep _ h5⟩
 ·rcases vQ u σ _ _ hk with h1|⟨h1,h2⟩
  ·exact hrng b ls h1 hb ho
  ·have e:G'.bx b=G.bx b:=hfr.bx b (by rw[h2];rfl)
   rw[e]at hb ho ⊢
   exact h.rng b ls h2 hb ho
theorem Fa7 (a:Act)(d:Option Tmp)(v:Value):(a.put d v).tmps.size=a.tmps.size:=by
 cases d<;>simp[Act.put]
theorem put_defers (a:Act)(d:Option Tmp)(v:Value):(a.put d v).defers=a.defers:=by
 cases d<;>simp[Act.put]
theorem Kao (n:Nat)(a:Act)(G:Nat->Value)(d t:Nat)(v:Value)(h:d≠t):Eaq n (a.put (some d) v) G t=Eaq n a G t:=by
 unfold Eaq
 split
 ·simp[Act.put,Tb8,Array.getElem?_setIfInBounds,h]
 ·rfl
theorem uK (n:Nat)(a:Act)(G:Nat->Value)(d:Nat)(v:Value)(h:d<n)(hs:a.tmps.size=n):Eaq n (a.put (some d) v) G d=v:=by
 unfold Eaq
 rw[if_pos h]
 simp[Act.put,Tb8,hs,h]
theorem Fr.same (σ:Nat->Option aW)(G:Gh)(w:World)(u:List (Nat×aW))(hu:∀ k c,(k,c)∈u->∃ t,k=kT t):Fr σ G w (upds σ u) G w:=by
 have hr:∀ r,upds σ u (kR r)=σ (kR r):=fun r=>gZ _ _ _ fun c hc=>by obtain⟨t,e⟩:=hu _ _ hc;exact kU e.symm
 refine⟨fun b h _=>⟨h,rfl⟩,fun r k _ h=>?_,fun r k h=>?_,fun r k b p _ _ h=>⟨.inl h,rfl⟩,fun r k m _ h=>⟨?_,fun b p h=>h⟩,fun _ _=>rfl,fun _ _=>rfl,fun k h=>gD _ _ _ (.inl h),fun _ _ _ _ _ _ _ h=>h⟩
 ·obtain⟨x,m,st,e,h⟩:=h
  exact⟨x,m,st,by rw[<- hr];exact e,h⟩
 ·obtain⟨x,m,ver,st,e,h⟩:=h
  exact⟨x,m,ver,st,by rw[hr];exact e,h⟩
 ·obtain⟨x,e⟩:=h
  exact⟨x,by rw[<- hr];exact e⟩
def fU (o:Oper)(g:Option (aO×Bool))(v:SV):List (Nat×aW):=match o.dst with|some d=>[(kT d,.slot g v)]|none=>[]
theorem R.pure (h:R n F σ ρ a w G)(o:Oper)(hd:∀ d,o.dst=some d->d<n)(g:Option (aO×Bool))(sv:SV)(v:Value)
  (hv:gOn ρ g=true->eB σ ρ G w sv v):R n F (upds σ (fU o g sv)) ρ (a.put o.dst v) w G:=by
 have hfr:Fr σ G w (upds σ (fU o g sv)) G w:=Fr.same _ _ _ _ fun k c hk=>by
  unfold fU at hk
  split at hk
  ·rename_i d e
   simp only[Sb9,Prod.mk.injEq]at hk
   exact⟨d,hk.1⟩
  ·simp at hk
 refine h.upd _ hfr (by rw[Fa7];exact h.tmps) (by rw[put_defers];exact h.defers) h.frame (fun t ht=>?_) (fun _ _ _ _ _=>⟨rfl,rfl⟩) (fun b ls hb=>?_) (fun k c hk hk'=>?_)
 ·unfold fU at ht
  cases e:o.dst with
  |none=>rfl
  | some d =>
   rw[e]at ht
   exact Kao _ _ _ _ _ _ fun e'=>ht _ (by rw[e'];exact List.mem_singleton.2 rfl)
 ·unfold fU at hb
  split at hb
  ·simp only[Sb9,Prod.mk.injEq]at hb
   exact absurd hb.1.symm rO
  ·simp at hb
 ·have hk0:=hk
  unfold fU at hk
  cases e:o.dst with
  |none=>rw[e]at hk;simp at hk
  | some d =>
   rw[e]at hk
   simp only[Sb9,Prod.mk.injEq]at hk
   obtain⟨rfl,rfl⟩:=hk
   refine⟨d,rfl,fun hg=>?_⟩
   rw[uK _ _ _ _ _ (hd d e) h.tmps]
   exact (hv hg).mono hfr
end
end Go.Proofs.YtpgnlmfmlffjcaaGreat.Rf
