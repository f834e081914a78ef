/- Terms for oe program's functions, and j9 they are right: part 1 of 9. -/
import Derived.Calls
import Derived.Laws.Sem
open Array renaming getD_eq_getD_getElem? → Rb6
open List renaming append_assoc → Rba, mem_singleton → Rbb, mem_cons_of_mem → Rbd, replicate → Rbf, mem_cons_self → Rbj, getElem?_eq_none → Sbj
open Nat renaming lt_or_ge → Rbo, blt → Sbg, testBit → Tbj, le_succ → Tb0
open Option renaming bind_eq_some_iff → Qb0, bind_some → Qb7, map_some → Rb9
set_option linter.unusedSimpArgs false
set_option linter.unusedVariables false
set_option linter.unnecessarySimpa false
set_option linter.unusedSectionVars false
namespace Go.Proofs.YtpgnlmfmlffjcaaGreat.Rf
inductive D where
 |int (k:IntKind) (n:Int)
 |bool (b:Bool)
 |str (s:List UInt8)
 |rows (sz:Nat) (rs:List (List D))
 |undef
 |hole
 deriving Inhabited
inductive aI where
 |v (i:Nat)
 |c (d:D)
 deriving Inhabited
def aI.val (ρ:List D):aI->D
 |.v i=>ρ.getD i .undef
 |.c d=>d
def aI.ok (n:Nat):aI->Prop
 |.v i=>i<n
 |.c _=>True
theorem aI.val_append {n:Nat}{ρ cS:List D}{x:aI}(h:x.ok ρ.length):x.val (ρ++cS)=x.val ρ:=by
 cases x with
 |c d=>rfl
 | v i =>
  simp only[aI.ok]at h;simp[aI.val,List.getD_eq_getElem?_getD,List.getElem?_append_left h]
inductive aR where
 |bin (op:BinOp)
 |eqb (neg:Bool)
 |not | neg | inv
 |conv (k:IntKind)
 |len | slen
 |row (sz off:Nat) (ks:List Bool)
 |inb
 |set (sz off n:Nat)
 |app (sz bytes:Nat) (fl:Bool)
 |mk (sz n:Nat)
 |make (bytes:Nat) (zero:List D)
 |sub (sz:Nat) (fl:Bool)
 |ssub
 |pick
 |eqs (ks:List Nat)
 |min | max
 |bstr
 |sidx
 |sid
 |ne
 |emp
 |one (sz:Nat)
 |dep (m:Nat)
 |clr (sz:Nat)
 |id
 deriving Inhabited
def iW:Nat:=140737488355328
def yD (op:BinOp)(k:IntKind)(a b:Int):Option D :=
 match op with
 |.add=>some (.int k (k.wrap (a+b)))
 |.sub=>some (.int k (k.wrap (a-b)))
 |.mul=>some (.int k (k.wrap (a*b)))
 |.quo=>if b=0 then none else some (.int k (k.wrap (a.tdiv b)))
 |.rem=>if b=0 then none else some (.int k (a.tmod b))
 |.and=>some (.int k (k.wrap (BitVec.ofInt k.bits a &&& BitVec.ofInt k.bits b).toNat))
 |.or=>some (.int k (k.wrap (BitVec.ofInt k.bits a ||| BitVec.ofInt k.bits b).toNat))
 |.xor=>some (.int k (k.wrap (BitVec.ofInt k.bits a ^^^ BitVec.ofInt k.bits b).toNat))
 |.andNot=>some (.int k (k.wrap (BitVec.ofInt k.bits a &&& ~~~ (BitVec.ofInt k.bits b)).toNat))
 |.eql=>some (.bool (a==b))
 |.neq=>some (.bool (a != b))
 |.lss=>some (.bool (a<b))
 |.leq=>some (.bool (a<=b))
 |.gtr=>some (.bool (a>b))
 |.geq=>some (.bool (a ≥ b))
 |_=>none
def Waq (op:BinOp)(k:IntKind)(a b:Int):Option D :=
 if b<0 then none else
 match op with
 |.shl=>some (.int k (k.wrap (a*2 ^ (min b.toNat k.bits))))
 |.shr=>some (.int k (a.fdiv (2 ^ (min b.toNat k.bits))))
 |_=>none
def Gbu (op:BinOp)(a b:List UInt8):Option D :=
 match op with
 |.add=>if a.length+b.length<=4611686018427387904 then some (.str (a++b)) else none
 |.eql=>some (.bool (a==b))
 |.neq=>some (.bool (!(a==b)))
 |.lss=>some (.bool (Op.bytesLess a b))
 |.leq=>some (.bool (Op.bytesLess a b||a==b))
 |.gtr=>some (.bool (!(Op.bytesLess a b||a==b)))
 |.geq=>some (.bool (!(Op.bytesLess a b)))
 |_=>none
def Mam (op:BinOp):D->D->Option D
 | .int k a, .int k' b =>
  match op with
  |.shl | .shr=>Waq op k a b
  |_=>if k=k' then yD op k a b else none
 |.str a,.str b=>Gbu op a b
 |_,_=>none
def eqD:Nat->D->D->Option Bool
 |0,.int k a,.int k' b=>if k=k' then some (a==b) else none
 |1,.bool a,.bool b=>some (a==b)
 |2,.str a,.str b=>some (a==b)
 |_,_,_=>none
def Pa3:List Nat->List D->List D->Option Bool
 |[],[],[]=>some true
 |k::ks,a::as,b::bs=>(eqD k a b).bind fun x=>if x then Pa3 ks as bs else some false
 |_,_,_=>none
def chunk (sz:Nat):Nat->List D->List (List D)
 |0,_=>[]
 |n+1,l=>l.take sz::chunk sz n (l.drop sz)
def bytesOf:List (List D)->Option (List UInt8)
 |[]=>some []
 |[.int .u8 n]::r=>(bytesOf r).map fun l=>UInt8.ofNat n.toNat::l
 |_=>none
def Hb7 (op:BinOp):D->D->Option D
 |.int k a,.int k' b=>if k=k' then some (.int k (if (match op with | .lss=>b<a | _=>b>a:Bool) then b else a)) else none
 |_,_=>none
def La8 (op:BinOp):D->List D->Option D
 |x,[]=>some x
 |x,y::r=>(Hb7 op x y).bind fun z=>La8 op z r
def D.isSc:D->Bool
 |.int _ _=>true
 |.bool _=>true
 |.str _=>true
 |_=>false
def nT:Nat->D->Bool
 |_,.hole=>true
 |0,d=>d.isSc
 |m+1,.rows _ rs=>rs.all fun r=>r.all fun d=>nT m d
 |_+1,d=>d.isSc
def Ca1:List Bool->List D->Bool
 |[],_=>true
 |k::ks,d::ds=>(!k||d.isSc)&&Ca1 ks ds
 |_::_,[]=>false
def aR.run:aR->List D->Option (List D)
 |.bin op,[a,b]=>(Mam op a b).map fun d=>[d]
 |.eqb ng,[.bool a,.bool b]=>some [.bool (if ng then !(a==b) else a==b)]
 |.not,[.bool b]=>some [.bool (!b)]
 |.neg,[.int k n]=>some [.int k (k.wrap (0-n))]
 |.inv,[.int k n]=>(yD .xor k (if k.signed then -1 else k.max) n).map fun d=>[d]
 |.conv k,[.int _ n]=>some [.int k (k.wrap n)]
 |.len,[.rows _ rs]=>some [.int .i64 rs.length]
 |.slen,[.str s]=>some [.int .i64 s.length]
 | .row sz off ks, [.rows ll rs, .int _ i] =>
  if ll=sz/\0<=i then match rs[i.toNat]? with
   |some r=>if off+ks.length<=r.length/\Ca1 ks (r.drop off)=true then some ((r.drop off).take ks.length) else none
   |none=>none
  else none
 |.inb,[.rows _ rs,.int _ i]=>if 0<=i/\i<rs.length then some [] else none
 | .set sz off n, .rows ll rs :: .int _ i :: vs =>
  if ll=sz/\0<=i then match rs[i.toNat]? with
   |some r=>if off+n<=r.length/\vs.length=n then some [.rows sz (rs.set i.toNat (r.take off++vs++r.drop (off+n)))] else none
   |none=>none
  else none
 |.app sz bytes fl,[.rows ll a,.rows sz'' b]=>if ll=sz/\sz''=sz/\(!fl||(a++b).all fun r=>r.all D.isSc)=true/\(a.length+b.length)*bytes<=iW then some [.rows sz (a++b)] else none
 |.mk sz n,vs=>if vs.length=n*sz then some [.rows sz (chunk sz n vs)] else none
 |.make bytes zero,[.int _ n]=>if 0<=n/\n.toNat*bytes<=iW then some [.rows zero.length (Rbf n.toNat zero)] else none
 |.sub sz fl,[.rows ll rs,.int _ lo,.int _ hi]=>if ll=sz/\(!fl||rs.all fun r=>r.all D.isSc)=true/\0<=lo/\lo<=hi/\hi<=rs.length then some [.rows sz ((rs.take hi.toNat).drop lo.toNat)] else none
 |.ssub,[.str s,.int _ lo,.int _ hi]=>if 0<=lo/\lo<=hi/\hi<=s.length then some [.str ((s.take hi.toNat).drop lo.toNat)] else none
 |.pick,[.bool c,a,b]=>some [if c then a else b]
 |.eqs ks,vs=>(Pa3 ks (vs.take ks.length) (vs.drop ks.length)).map fun b=>[.bool b]
 |.min,x::r=>(La8 .lss x r).map fun d=>[d]
 |.max,x::r=>(La8 .gtr x r).map fun d=>[d]
 |.bstr,[.rows _ rs]=>(bytesOf rs).map fun l=>[.str l]
 | .sidx, [.str s, .int _ i] => if 0 <= i then match s[i.toNat]? with
   |some b=>some [.int .u8 b.toNat]
   |none=>none
  else none
 |.ne,[.rows _ rs]=>if rs.isEmpty then none else some []
 |.emp,[.rows _ rs]=>some [.bool rs.isEmpty]
 |.dep m,[d]=>if nT m d then some [] else none
 |.id,[a]=>some [a]
 |.clr sz,[.rows ll rs,.int _ i]=>if ll=sz/\0<=i then some [.rows sz (rs.take i.toNat++(rs.drop i.toNat).map fun r=>r.map fun _=>.hole)] else none
 |.sid,[.str s]=>some [.str s]
 | .one sz, [.rows ll rs, .int _ i] => if ll = sz /\ 0 <= i then match rs[i.toNat]? with
   |some r=>some [.rows sz [r]]
   |none=>none
  else none
 |_,_=>none
inductive Kind where
 |fall | exit (id:Nat) | ret | cont | yield (i:Nat)
 deriving DecidableEq,Inhabited
inductive Tm (β:Type) where
 |leaf (kind:Kind) (xs:List aI) (ext:β)
 |stuck
 |lt (g:Option (aI×Bool)) (p:aR) (xs:List aI) (n:Nat) (k:Tm β)
 |call (g:Option (aI×Bool)) (f:Nat) (xs:List aI) (n:Nat) (olds:List aI) (k:Tm β)
 |ite (c:aI) (t e:Tm β)
 |bind (i:Nat) (t k:Tm β)
 |loop (init:List aI) (body:Tm β)
 deriving Inhabited
structure Out (β:Type) where
 kind:Kind
 xs:List aI
 ext:β
 env:List D
def Out.vals {β:Type}(o:Out β):List D:=o.xs.map (·.val o.env)
def gOn (ρ:List D):Option (aI×Bool)->Bool
 |none=>true
 | some (x, w) => match x.val ρ with
  |.bool b=>b==w
  |_=>false
def iter {β:Type}:Nat->(List D->Option (Out β))->List D->Option (Out β)
 |0,_,_=>none
 |n+1,f,vs=>(f vs).bind fun o=>if o.kind=.cont then iter n f o.vals else some o
def runT {β:Type}(cf:Nat->List D->Option (List D))(fuel:Nat):Tm β->List D->Option (Out β)
 |.leaf k xs e,ρ=>some ⟨k,xs,e,ρ⟩
 |.stuck,_=>none
 | .lt g p xs n k, ρ =>
  if gOn ρ g then (p.run (xs.map (·.val ρ))).bind fun ds=>if ds.length=n then runT cf fuel k (ρ++ds) else none
  else runT cf fuel k (ρ++Rbf n .undef)
 | .call g f xs n olds k, ρ =>
  if gOn ρ g then (cf f (xs.map (·.val ρ))).bind fun ds=>if ds.length=n then runT cf fuel k (ρ++ds) else none
  else runT cf fuel k (ρ++(Rbf (n-olds.length) .undef++olds.map (·.val ρ)))
 | .ite c t e, ρ => match c.val ρ with
  |.bool true=>runT cf fuel t ρ
  |.bool false=>runT cf fuel e ρ
  |_=>none
 |.bind i t k,ρ=>(runT cf fuel t ρ).bind fun o=>if o.kind=.yield i then runT cf fuel k (ρ++o.vals) else some o
 |.loop init body,ρ=>iter fuel (fun vs=>runT cf fuel body (ρ++vs)) (init.map (·.val ρ))
inductive Ent where
 |tm (t:Tm Unit)
 |ext (f:List D->Option (List D))
 |none
def Ebt {β:Type}(o:Out β):Option (List D):=if o.kind=.ret then some o.vals else none
def jJ (T:Nat->Ent):Nat->Nat->List D->Option (List D)
 |0,_,_=>none
 | n + 1, f, args => match T f with
  |.tm t=>(runT (jJ T n) n t args).bind Ebt
  |.ext e=>e args
  |.none=>none
def Pa6 {α:Type}(a:Nat->Option α):Prop:=∀ n r,a n=some r->a (n+1)=some r
theorem Pa6.le {α:Type}{a:Nat->Option α}(h:Pa6 a){n m:Nat}{r:α}(hn:n<=m)(hr:a n=some r):a m=some r:=by
 induction hn with
 |refl=>exact hr
 |step _ ih=>exact h _ _ ih
open Classical in
noncomputable def lim {α:Type}(a:Nat->Option α):Option α :=
 if h:∃ r n,a n=some r then some h.choose else none
theorem fH {α:Type}{a:Nat->Option α}(h:Pa6 a){r:α}:lim a=some r↔∃ n,a n=some r:=by
 unfold lim;constructor
 ·intro e
  split at e
  ·rename_i hx
   obtain⟨n,hn⟩:=hx.choose_spec;cases e;exact⟨n,hn⟩
  ·cases e
 ·rintro⟨n,hn⟩
  have hx:∃ r n,a n=some r:=⟨r,n,hn⟩;rw[dif_pos hx];obtain⟨m,hm⟩:=hx.choose_spec;have h1:=h.le (Nat.le_max_left n m) hn;have h2:=h.le (Nat.le_max_right n m) hm;rw[h1]at h2;exact h2.symm
theorem Bbw {α:Type}{a:Nat->Option α}(h:∀ n,a n=none):lim a=none:=by
 unfold lim;rw[dif_neg]
 rintro⟨r,n,hn⟩
 rw[h]at hn;cases hn
theorem fI {α:Type}(x:Option α):lim (fun _=>x)=x:=by
 cases x with
 |none=>exact Bbw fun _=>rfl
 |some r=>exact (fH (a:=fun _=>some r) fun _ _ h=>h).2 ⟨0,rfl⟩
theorem Pa6.bind {α γ:Type}{a:Nat->Option α}{b:Nat->α->Option γ}(ha:Pa6 a)(hb:∀ x,Pa6 fun n=>b n x):Pa6 fun n=>(a n).bind (b n):=by
 intro n r h;simp only[Qb0]at h ⊢;obtain⟨x,hx,hr⟩:=h;exact⟨x,ha _ _ hx,hb x _ _ hr⟩
theorem Faf {α γ:Type}{a:Nat->Option α}{b:Nat->α->Option γ}(ha:Pa6 a)(hb:∀ x,Pa6 fun n=>b n x) :
  lim (fun n=>(a n).bind (b n))=(lim a).bind fun x=>lim fun n=>b n x:=by
 apply Option.ext;intro r;rw[fH (ha.bind hb)];simp only[Qb0];constructor
 ·rintro⟨n,x,hx,hr⟩
  exact⟨x,(fH ha).2 ⟨n,hx⟩,(fH (hb x)).2 ⟨n,hr⟩⟩
 ·rintro⟨x,hx,hr⟩
  obtain⟨n,hn⟩:=(fH ha).1 hx;obtain⟨m,hm⟩:=(fH (hb x)).1 hr;exact⟨max n m,x,ha.le (Nat.le_max_left ..) hn,(hb x).le (Nat.le_max_right ..) hm⟩
def Le {α γ:Type}(f g:α->Option γ):Prop:=∀ x r,f x=some r->g x=some r
theorem lU {β:Type}{f g:List D->Option (Out β)}(h:Le f g):∀ {n m:Nat},n<=m->Le (iter n f) (iter m g)
 |0,_,_,_,_,hr=>by cases hr
 |n+1,0,mb,_,_,_=>absurd mb (by omega)
 | n + 1, m + 1, mb, vs, r, hr => by
  simp only[iter,Qb0]at hr ⊢;obtain⟨o,ho,hr⟩:=hr;refine⟨o,h _ _ ho,?_⟩;split at hr
  ·rename_i hk
   rw[if_pos hk];exact lU h (by omega) _ _ hr
  ·rename_i hk
   rw[if_neg hk];exact hr
theorem Gad {β:Type}{cf cg:Nat->List D->Option (List D)}(h:∀ f,Le (cf f) (cg f)){n m:Nat}(mb:n<=m)(t:Tm β):Le (runT cf n t) (runT cg m t):=by
 induction t with
 |leaf=>exact fun _ _ h=>h
 |stuck=>exact fun _ _ h=>h
 | lt g p xs k' k ih =>
  intro ρ r hr;simp only[runT]at hr ⊢;split at hr
  ·rename_i hg
   rw[if_pos hg];simp only[Qb0]at hr ⊢;obtain⟨ds,hd,hr⟩:=hr;refine⟨ds,hd,?_⟩;split at hr
   ·rename_i hl;rw[if_pos hl];exact ih _ _ hr
   ·cases hr
  ·rename_i hg
   rw[if_neg hg];exact ih _ _ hr
 | call g f xs k' olds k ih =>
  intro ρ r hr;simp only[runT]at hr ⊢;split at hr
  ·rename_i hg
   rw[if_pos hg];simp only[Qb0]at hr ⊢;obtain⟨ds,hd,hr⟩:=hr;refine⟨ds,h _ _ _ hd,?_⟩;split at hr
   ·rename_i hl;rw[if_pos hl];exact ih _ _ hr
   ·cases hr
  ·rename_i hg
   rw[if_neg hg];exact ih _ _ hr
 | ite c t e u4 ihe =>
  intro ρ r hr;simp only[runT]at hr ⊢;split at hr
  ·exact u4 _ _ hr
  ·exact ihe _ _ hr
  ·cases hr
 | bind i t k u4 ihk =>
  intro ρ r hr;simp only[runT,Qb0]at hr ⊢;obtain⟨o,ho,hr⟩:=hr;refine⟨o,u4 _ _ ho,?_⟩;split at hr
  ·rename_i hk;rw[if_pos hk];exact ihk _ _ hr
  ·rename_i hk;rw[if_neg hk];exact hr
 | loop init body ih =>
  intro ρ r hr;simp only[runT]at hr ⊢;exact lU (fun vs r hr=>ih _ _ hr) mb _ _ hr
theorem Dal (T:Nat->Ent):∀ {n m:Nat},n<=m->∀ f,Le (jJ T n f) (jJ T m f)
 |0,_,_,_,_,_,hr=>by cases hr
 |n+1,0,mb,_,_,_,_=>absurd mb (by omega)
 | n + 1, m + 1, mb, f, args, r, hr => by
  simp only[jJ]at hr ⊢;split at hr
  ·simp only[Qb0]at hr ⊢
   obtain⟨o,ho,hr⟩:=hr;exact⟨o,Gad (fun f=>Dal T (by omega) f) (by omega) _ _ _ ho,hr⟩
  ·exact hr
  ·cases hr
section
variable (T:Nat->Ent)
noncomputable def Fun (f:Nat)(args:List D):Option (List D):=lim fun n=>jJ T n f args
noncomputable def Ev {β:Type}(t:Tm β)(ρ:List D):Option (Out β):=lim fun n=>runT (jJ T n) n t ρ
noncomputable def Lp {β:Type}(body:Tm β)(ρ vs:List D):Option (Out β):=lim fun n=>iter n (fun vs=>runT (jJ T n) n body (ρ++vs)) vs
variable {T}
theorem Ibu (f:Nat)(args:List D):Pa6 fun n=>jJ T n f args:=fun n _ h=>Dal T (Tb0 n) f _ _ h
theorem Dbc {β:Type}(t:Tm β)(ρ:List D):Pa6 fun n=>runT (jJ T n) n t ρ:=fun n _ h=>Gad (fun f=>Dal T (Tb0 n) f) (Tb0 n) t _ _ h
theorem Qbz {β:Type}(body:Tm β)(ρ vs:List D):Pa6 fun n=>iter n (fun vs=>runT (jJ T n) n body (ρ++vs)) vs :=
 fun n _ h=>lU (fun vs r hr=>Dbc body _ n r hr) (Tb0 n) _ _ h
theorem Fan {f:Nat}{args r:List D}:Fun T f args=some r↔∃ n,jJ T n f args=some r:=fH (Ibu f args)
theorem Mat {β:Type}{t:Tm β}{ρ:List D}{o:Out β}:Ev T t ρ=some o↔∃ n,runT (jJ T n) n t ρ=some o:=fH (Dbc t ρ)
theorem Fb3 {β:Type}(k:Kind)(xs:List aI)(e:β)(ρ:List D):Ev T (.leaf k xs e) ρ=some ⟨k,xs,e,ρ⟩:=fI _
theorem Ibx {β:Type}(g:Option (aI×Bool))(p:aR)(xs:List aI)(n:Nat)(k:Tm β)(ρ:List D) :
  Ev T (.lt g p xs n k) ρ=if gOn ρ g then (p.run (xs.map (·.val ρ))).bind fun ds=>if ds.length=n then Ev T k (ρ++ds) else none
   else Ev T k (ρ++Rbf n .undef):=by
 unfold Ev;simp only[runT];split
 ·rw[Faf (a:=fun _=>p.run _) (fun _ _ h=>h)
   (fun ds=>by split;exact Dbc k _;exact fun _ _ h=>h)]
  rw[fI];congr 1;funext ds;split
  ·rfl
  ·exact fI _
 ·rfl
theorem Za0 {β:Type}(g:Option (aI×Bool))(f:Nat)(xs:List aI)(n:Nat)(olds:List aI)(k:Tm β)(ρ:List D) :
  Ev T (.call g f xs n olds k) ρ=if gOn ρ g then (Fun T f (xs.map (·.val ρ))).bind fun ds=>if ds.length=n then Ev T k (ρ++ds) else none
   else Ev T k (ρ++(Rbf (n-olds.length) .undef++olds.map (·.val ρ))):=by
 unfold Ev;simp only[runT];split
 ·rw[Faf (a:=fun n=>jJ T n f _) (Ibu f _)
   (fun ds=>by split;exact Dbc k _;exact fun _ _ h=>h)]
  rw[<- Fun];congr 1;funext ds;split
  ·rfl
  ·exact fI _
 ·rfl
theorem Iby {β:Type}(c:aI)(t e:Tm β)(ρ:List D) :
  Ev T (.ite c t e) ρ=match c.val ρ with
   |.bool true=>Ev T t ρ
   |.bool false=>Ev T e ρ
   |_=>none:=by
 unfold Ev;simp only[runT];split
 ·rfl
 ·rfl
 ·exact fI _
theorem Fb4 {β:Type}(i:Nat)(t k:Tm β)(ρ:List D) :
  Ev T (.bind i t k) ρ=(Ev T t ρ).bind fun o=>if o.kind=.yield i then Ev T k (ρ++o.vals) else some o:=by
 unfold Ev;simp only[runT];rw[Faf (a:=fun n=>runT (jJ T n) n t ρ) (Dbc t ρ) (fun o=>by split;exact Dbc k _;exact fun _ _ h=>h)];congr 1;funext o;split
 ·rfl
 ·exact fI _
theorem Fb2 {β:Type}(init:List aI)(body:Tm β)(ρ:List D):Ev T (.loop init body) ρ=Lp T body ρ (init.map (·.val ρ)):=rfl
theorem Fb1 {β:Type}(body:Tm β)(ρ vs:List D) :
  Lp T body ρ vs=(Ev T body (ρ++vs)).bind fun o=>if o.kind=.cont then Lp T body ρ o.vals else some o:=by
 have hm:∀ vs,Pa6 fun n=>iter n (fun vs=>runT (jJ T n) n body (ρ++vs)) vs:=fun vs=>Qbz body ρ vs
 unfold Lp
 have e:∀ vs r,(lim fun n=>iter n (fun vs=>runT (jJ T n) n body (ρ++vs)) vs)=some r↔((Ev T body (ρ++vs)).bind fun o=>if o.kind=.cont then (lim fun n=>iter n (fun vs=>runT (jJ T n) n body (ρ++vs)) o.vals) else some o)=some r:=by
  intro vs r;rw[fH (hm vs)];simp only[Qb0];constructor
  ·rintro⟨n,hn⟩
   cases n with
   |zero=>cases hn
   | succ n =>
    simp only[iter,Qb0]at hn;obtain⟨o,ho,hr⟩:=hn;refine⟨o,Mat.2 ⟨n+1,ho⟩,?_⟩;split at hr
    ·rename_i hk
     rw[if_pos hk,fH (hm _)];exact⟨n+1,lU (fun _ _ h=>h) (Tb0 n) _ _ hr⟩
    ·rename_i hk
     rw[if_neg hk];exact hr
  ·rintro⟨o,ho,hr⟩
   obtain⟨n,hn⟩:=Mat.1 ho;split at hr
   ·rename_i hk
    obtain⟨m,te⟩:=(fH (hm _)).1 hr;refine⟨max n m+1,?_⟩;simp only[iter,Qb0];refine⟨o,(Dbc body (ρ++vs)).le (by omega) hn,?_⟩;rw[if_pos hk];exact lU (fun vs r h=>(Dbc body (ρ++vs)).le (by omega) h) (by omega) _ _ te
   ·rename_i hk
    refine⟨n+1,?_⟩;simp only[iter,Qb0];exact⟨o,Dbc body _ _ _ hn,by rw[if_neg hk];exact hr⟩
 exact Option.ext (e vs)
theorem Ibt {f:Nat}{t:Tm Unit}(h:T f=.tm t)(args:List D):Fun T f args=(Ev T t args).bind Ebt:=by
 apply Option.ext;intro r;rw[Fan];simp only[Qb0];constructor
 ·rintro⟨n,hn⟩
  cases n with
  |zero=>cases hn
  | succ n =>
   simp only[jJ,h,Qb0]at hn;obtain⟨o,ho,hr⟩:=hn;exact⟨o,Mat.2 ⟨n,ho⟩,hr⟩
 ·rintro⟨o,ho,hr⟩
  obtain⟨n,hn⟩:=Mat.1 ho;refine⟨n+1,?_⟩;simp only[jJ,h,Qb0];exact⟨o,hn,hr⟩
theorem Mas {f:Nat}{e:List D->Option (List D)}(h:T f=.ext e)(args:List D):Fun T f args=e args:=by
 apply Option.ext;intro r;rw[Fan];constructor
 ·rintro⟨n,hn⟩
  cases n with
  |zero=>cases hn
  |succ n=>simpa[jJ,h] using hn
 ·intro hr
  exact⟨1,by simpa[jJ,h] using hr⟩
end
def Tm.strip {β:Type}:Tm β->Tm Unit
 |.leaf k xs _=>.leaf k xs ()
 |.stuck=>.stuck
 |.lt g p xs n k=>.lt g p xs n k.strip
 |.call g f xs n olds k=>.call g f xs n olds k.strip
 |.ite c t e=>.ite c t.strip e.strip
 |.bind i t k=>.bind i t.strip k.strip
 |.loop init body=>.loop init body.strip
def Out.strip {β:Type}(o:Out β):Out Unit:=⟨o.kind,o.xs,(),o.env⟩
theorem Out.strip_vals {β:Type}(o:Out β):o.strip.vals=o.vals:=rfl
theorem Ja4 {β:Type}{f:List D->Option (Out β)}{g:List D->Option (Out Unit)}(h:∀ vs,g vs=(f vs).map Out.strip):∀ n vs,iter n g vs=(iter n f vs).map Out.strip
 |0,_=>rfl
 | n + 1, vs => by
  simp only[iter,h]
  cases f vs with
  |none=>rfl
  | some o =>
   simp only[Rb9,Qb7];by_cases hk:o.kind=.cont
   ·have:o.strip.kind=.cont:=hk
    rw[if_pos hk,if_pos this,Out.strip_vals];exact Ja4 h n _
   ·have:¬ o.strip.kind=.cont:=hk
    rw[if_neg hk,if_neg this];rfl
theorem Uax {β:Type}(cf:Nat->List D->Option (List D))(n:Nat)(t:Tm β):∀ ρ,runT cf n t.strip ρ=(runT cf n t ρ).map Out.strip:=by
 induction t with
 |leaf=>exact fun _=>rfl
 |stuck=>exact fun _=>rfl
 | lt g p xs k' k ih =>
  intro ρ;simp only[Tm.strip,runT];split
  ·cases p.run (xs.map (·.val ρ)) with
   |none=>rfl
   | some ds =>
    simp only[Qb7];split
    ·exact ih _
    ·rfl
  ·exact ih _
 | call g f xs k' olds k ih =>
  intro ρ;simp only[Tm.strip,runT];split
  ·cases cf f (xs.map (·.val ρ)) with
   |none=>rfl
   | some ds =>
    simp only[Qb7];split
    ·exact ih _
    ·rfl
  ·exact ih _
 | ite c t e u4 ihe =>
  intro ρ;simp only[Tm.strip,runT];split
  ·exact u4 _
  ·exact ihe _
  ·rfl
 | bind i t k u4 ihk =>
  intro ρ;simp only[Tm.strip,runT,u4]
  cases runT cf n t ρ with
  |none=>rfl
  | some o =>
   simp only[Rb9,Qb7];by_cases hk:o.kind=.yield i
   ·have:o.strip.kind=.yield i:=hk
    rw[if_pos hk,if_pos this,Out.strip_vals];exact ihk _
   ·have:¬ o.strip.kind=.yield i:=hk
    rw[if_neg hk,if_neg this];rfl
 | loop init body ih =>
  intro ρ;simp only[Tm.strip,runT];exact Ja4 (fun vs=>ih _) _ _
inductive Tr (α:Type) where
 |nil
 |node (x:Option α) (l r:Tr α)
 |over (n:Nat) (x:Option α) (t:Tr α)
 deriving Inhabited
def Tr.get {α:Type}:Tr α->Nat->Option α
 |.nil,_=>none
 |.node x l r,n=>bif Nat.beq n 0 then x else bif Nat.beq (n % 2) 1 then l.get (n / 2) else r.get (n / 2-1)
 |.over m x t,n=>bif Nat.beq n m then x else t.get n
def Tr.set {α:Type}:Nat->Tr α->Nat->Option α->Tr α
 |0,t,n,x=>.over n x t
 |k+1,.node y l r,n,x=>bif Nat.beq n 0 then .node x l r else bif Nat.beq (n % 2) 1 then .node y (Tr.set k l (n / 2) x) r else .node y l (Tr.set k r (n / 2-1) x)
 |k+1,.nil,n,x=>bif Nat.beq n 0 then .node x .nil .nil else bif Nat.beq (n % 2) 1 then .node none (Tr.set k .nil (n / 2) x) .nil else .node none .nil (Tr.set k .nil (n / 2-1) x)
 |_+1,.over m y t,n,x=>.over n x (.over m y t)
inductive CK where
 |sc (z:D)
 |sl (sz:Nat)
 |pn
 |ot
 deriving Inhabited
structure TI where
 agg:Bool
 size:Nat
 bytes:Nat
 cells:List CK
 flds:List (Nat×Nat)
 elem:Option Nat
 ik:Option IntKind
 isBool:Bool
 isStr:Bool
 isPtr:Bool
 cmp:Bool
 deriving Inhabited
def flat (P:Program):Nat->TypeId->Option (List TypeId)
 |0,_=>none
 | d + 1, t =>
  match P.underlying t with
  |some (.struct fs)=>fs.toList.foldl (fun acc f=>acc.bind fun l=>(flat P d f.type).bind fun m=>bif Nat.beq f.offset l.length then some (l++m) else none) (some [])
  |some (.array _ _)=>none
  |some _=>some [t]
  |none=>none
def mR (P:Program)(t:TypeId):CK :=
 match P.underlying t with
 |some (.int k)=>.sc (.int k 0)
 |some .bool=>.sc (.bool false)
 |some .string=>.sc (.str [])
 |some (.slice e)=>.sl (((P.info? e).map (·.size)).getD 0)
 |some (.pointer _)=>.pn
 |_=>.ot
def zeroCell:Value->CK->Bool
 |.int k n,.sc (.int k' n')=>decide (k=k')&&decide (n=0)&&decide (n'=0)
 |.bool b,.sc (.bool b')=>decide (b=false)&&decide (b'=false)
 |.string s,.sc (.str l)=>decide (s.data.toList=[])&&decide (l=[])
 |.slice none 0 0,.sl _=>true
 |.pointer none,.pn=>true
 |_,_=>false
def Sae (agg:Bool)(z:Option Value)(cs:List CK):Bool :=
 match agg,z,cs with
 |true,some (.agg vs),cs=>vs.toList.length==cs.length&&(vs.toList.zip cs).all fun p=>zeroCell p.1 p.2
 |false,some v,[c]=>zeroCell v c
 |_,_,_=>false
def Lbj (P:Program)(d:Nat)(t:TypeId):Bool :=
 match flat P d t,P.info? t with
 |some l,some i=>Nat.beq l.length i.size
 |_,_=>false
def Mai (P:Program):Nat->TypeId->Bool
 |0,_=>false
 | d + 1, t =>
  match P.underlying t with
  |some (.int _)=>true
  |some .bool=>true
  |some .string=>true
  | some (.struct fs) => !(P.stoodInHeld t) && fs.toList.all fun f => f.name != "_" && Mai P d f.type && Lbj P d f.type
  |_=>false
def Iaz:TypeDesc->Bool
 |.struct _=>true
 |.array _ _=>true
 |_=>false
def Yam:TypeDesc->List (Nat×Nat)
 |.struct fs=>fs.toList.map fun f=>(f.offset,f.type)
 |_=>[]
def Yay:TypeDesc->Option Nat
 |.slice e=>some e
 |_=>none
def Lbo:TypeDesc->Option IntKind
 |.int k=>some k
 |_=>none
def Rab:TypeDesc->Bool
 |.bool=>true
 |_=>false
def Xaz:TypeDesc->Bool
 |.string=>true
 |_=>false
def Xa0:TypeDesc->Bool
 |.pointer _=>true
 |_=>false
def Mbl (P:Program)(t:TypeId)(i:TypeInfo)(u:TypeDesc)(cs:List CK):TI :=
  { agg:=Iaz u,size:=i.size,bytes:=i.bytes,cells:=cs,flds:=Yam u,elem:=Yay u,ik:=Lbo u,isBool:=Rab u,isStr:=Xaz u,
    isPtr:=Xa0 u,cmp:=Iaz u&&Mai P 12 t&&!(P.eqGuardType P.depth t) }
def Kaq (P:Program)(t:TypeId):Option TI :=
 match P.info? t,P.underlying t,(flat P 12 t).map (·.map (mR P)) with
 |some i,some u,some cs=>bif Nat.beq cs.length i.size&&Sae (Iaz u) i.zero cs then some (Mbl P t i u cs) else none
 |_,_,_=>none
inductive Pth where
 |no
 |view
 |path (p:List (aI×Nat×Nat))
 |suf (sz:Nat) (lo:aI)
 deriving Inhabited
inductive aO where
 |dead
 |sc (x:aI)
 |su (g:aI×Bool) (x:aI)
 |ex (r:Nat)
 |sn (deps:List (Nat×Nat)) (p:Pth) (nie:Bool) (x:aI)
 |px (b off:Nat)
 |pe (l:aO) (sz:Nat) (i:aI) (off:Nat)
 |rp (deps:List (Nat×Nat)) (sz:Nat) (x:aI)
 |pn
 |clo (f:Nat) (cD:List aO)
 deriving Inhabited
inductive SV where
 |dead
 |one (l:aO)
 |agg (ls:List aO)
 |tup (vs:List (Bool×List aO))
 deriving Inhabited
inductive RSt where
 |live | frozen | gone
 |fwd (r:Nat)
 deriving DecidableEq,Inhabited
inductive aP where
 |slot (g:Option (aI×Bool)) (v:SV)
 |box (ro:Bool) (ls:List aO)
 |root (x:aI) (m an:Nat) (st:RSt)
 deriving Inhabited
def kT (t:Nat):Nat:=3*t
def kB (b:Nat):Nat:=3*b+1
def kR (r:Nat):Nat:=3*r+2
inductive RdM (α:Type) where
 |ret (a:α)
 |no
 |rd (k:Nat) (f:Option aP->RdM α)
def RdM.bind {α γ:Type}:RdM α->(α->RdM γ)->RdM γ
 |.ret a,f=>f a
 |.no,_=>.no
 |.rd k h,f=>.rd k fun c=>(h c).bind f
instance:Monad RdM:={ pure:=.ret,bind:=.bind }
def RdM.run {α:Type}(look:Nat->Option aP):RdM α->Option (α×List Nat)
 |.ret a=>some (a,[])
 |.no=>none
 |.rd k f=>((f (look k)).run look).map fun x=>(x.1,k::x.2)
def RdM.eval {α:Type}(look:Nat->Option aP):RdM α->Option α
 |.ret a=>some a
 |.no=>none
 |.rd k f=>(f (look k)).eval look
def rdK (k:Nat):RdM (Option aP):=.rd k .ret
def mJ {α:Type}:Option α->RdM α
 |some a=>.ret a
 |none=>.no
def bI (b:Bool):RdM Unit:=bif b then .ret () else .no
inductive Step where
 |prim (p:aR) (xs:List aI) (n:Nat)
 |call (f:Nat) (xs:List aI) (n:Nat) (olds:List aI)
 deriving Inhabited
def Step.n:Step->Nat
 |.prim _ _ n=>n
 |.call _ _ n _=>n
structure bJ where
 lets:List Step
 upd:List (Nat×aP)
 deriving Inhabited
def bF (l:List Step):Nat:=l.foldl (fun s x=>s+x.n) 0
inductive LS where
 |sc
 |fz (nie:Bool)
 |mu (m:Nat)
 |ow (m:Nat)
 |px (b:Nat)
 |clo (f:Nat) (cD:List LS)
 |rp (sz:Nat)
 deriving Inhabited
inductive BS where
 |sc
 |fz (nie:Bool)
 |ow (m:Nat)
 |ot
 deriving Inhabited
inductive BO where
 |sc
 |fz
 |ow (m:Nat)
 |dead
 deriving Inhabited
inductive LR where
 |sc
 |fz
 |ow (m:Nat)
 |rp (sz:Nat)
 |bx (cells:List BO)
 deriving Inhabited
structure Sig where
 fn:Nat
 params:List (Bool×List LS)
 boxes:List (Bool×List (BS×BO))
 results:List (Bool×List LR)
 deriving Inhabited
structure Env where
 ti:Nat->Option TI
 sigs:List (Nat×Sig)
 ntmps:Nat
 ngh:Nat:=0
 freezeEx:Bool:=false
 moveSn:Bool:=false
 nomv:List (Nat×Nat):=[]
 hints:List (Nat×List (Nat×Nat×Nat×Nat)×List Nat×Nat×List Nat):=[]
 pxs:List Nat:=[]
 nbx:Nat:=0
 deriving Inhabited
def Lbp (a b:IntKind):Bool:=decide (a=b)
def D.beq0:D->D->Bool
 |.int k n,.int k' n'=>Lbp k k'&&decide (n=n')
 |.bool a,.bool b=>a==b
 |.str a,.str b=>a==b
 |.rows s [],.rows s' []=>Nat.beq s s'
 |.undef,.undef=>true
 |.hole,.hole=>true
 |_,_=>false
def aI.beq0:aI->aI->Bool
 |.v i,.v j=>Nat.beq i j
 |.c a,.c b=>a.beq0 b
 |_,_=>false
def Fbh:Option (aI×Bool)->Option (aI×Bool)->Bool
 |none,none=>true
 |some (a,b),some (c,d)=>a.beq0 c&&(b==d)
 |_,_=>false
def fA:CK->aO
 |.sc z=>.sc (.c z)
 |.sl sz=>.sn [] .no true (.c (.rows sz []))
 |.pn=>.pn
 |.ot=>.dead
def Rax (ti:Nat->Option TI)(t:TypeId):Value->Option SV
 |.int k n=>some (.one (.sc (.c (.int k n))))
 |.bool b=>some (.one (.sc (.c (.bool b))))
 |.string s=>some (.one (.sc (.c (.str s.data.toList))))
 | .slice none 0 0 => match ti t with
  |some { cells:=[.sl sz],.. }=>some (.one (.sn [] .no true (.c (.rows sz []))))
  |_=>none
 |.pointer none=>some (.one .pn)
 |_=>none
section
variable (E:Env)
def noG:Option (aI×Bool)->Bool
 |none=>true
 |some _=>false
def unG (g:Option (aI×Bool)):SV->SV
 |.one (.su h x)=>bif Fbh g (some h) then .one (.sc x) else .one (.su h x)
 |v=>v
def gOk (g:Option (aI×Bool)):Option (aI×Bool)->Bool
 |none=>true
 |g'=>Fbh g g'
def Oac (g:Option (aI×Bool))(t:TypeId):Operand->RdM SV
 | .tmp k => .rd (kT k) fun
  |some (.slot g' v)=>bif gOk g g'&&Sbg k E.ntmps then .ret (unG g v) else .no
  |_=>.no
 |.const v=>mJ (Rax E.ti t v)
 |.func f=>.ret (.one (.clo f []))
 |.global _=>.no
def one:SV->RdM aO
 |.one l=>.ret l
 |_=>.no
def rdL (g:Option (aI×Bool))(t:TypeId)(x:Operand):RdM aO:=do one (<- Oac E g t x)
def tZ (g:Option (aI×Bool)):aO->Option aI
 |.sc a=>some a
 |.su h a=>bif Fbh g (some h) then some a else none
 |_=>none
def rdA (g:Option (aI×Bool))(t:TypeId)(x:Operand):RdM aI:=do
 mJ (tZ g (<- rdL E g t x))
def Jap (g:Option (aI×Bool))(h:aI×Bool)(t:TypeId)(x:Operand):RdM aI:=do
 let l <- rdL E g t x
 match tZ g l with
 |some a=>.ret a
 |none=>mJ (tZ (some h) l)
def mkS (g:Option (aI×Bool))(x:aI):SV:=match g with
 |none=>.one (.sc x)
 |some z=>.one (.su z x)
def vF:List (Nat×Nat)->RdM (List (Nat×Nat))
 |[]=>.ret []
 | (r, k) :: rest => do
  match <- rdK (kR r) with
  | some (.root _ _ an st) =>
   let ds <- vF rest
   match st with
   |.frozen=>bif Nat.beq an k then .ret ds else .no
   |.live=>bif Nat.beq an k then .ret ((r,k)::ds) else .no
   |_=>.no
  |_=>.no
structure SlR where
 x:aI
 deps:List (Nat×Nat)
 own:Option (Nat×Nat×Nat×Pth)
 nie:Bool
def xD:aO->RdM SlR
 | .ex r => do
  match <- rdK (kR r) with
  |some (.root x m an .live)=>.ret ⟨x,[(r,an)],some (r,an,m,.path []),false⟩
  |some (.root x m an .frozen)=>.ret ⟨x,[],none,false⟩
  |_=>.no
 | .sn deps p nie x => do
  let ds <- vF deps
  match p,deps,ds with
  |.no,_,_=>.ret ⟨x,ds,none,nie⟩
  | p, [(r, k)], [_] => do
   match <- rdK (kR r) with
   |some (.root _ m _ .live)=>.ret ⟨x,[(r,k)],some (r,k,m,p),nie⟩
   |_=>.no
  |_,_,_=>.ret ⟨x,ds,none,nie⟩
 |_=>.no
def iU (s:SlR)(i:aI)(sz off:Nat):CK->aI->aO
 |.sc _,y=>.sc y
 | .sl _, y =>
  match s.own with
  |some (r,k,m,.path p)=>bif Nat.ble (p.length+2) m then .sn [(r,k)] (.path (p++[(i,sz,off)])) false y else .sn [] .no false y
  |_=>.sn s.deps .no false y
 |_,_=>.dead
def dX (s:SlR)(i:aI)(sz:Nat):Nat->List CK->Nat->List aO
 |_,[],_=>[]
 |off,c::cs,y=>iU s i sz off c (.v y)::dX s i sz (off+1) cs (y+1)
def jE (agg:Bool):SV->Option (List aO)
 |.one l=>bif agg then none else some [l]
 |.agg ls=>bif agg then some ls else none
 |_=>none
def Sap (agg:Bool)(ls:List aO):Option SV :=
 bif agg then some (.agg ls) else match ls with
  |[l]=>some (.one l)
  |_=>none
def Eaf:CK->Nat
 |.sc (.int _ _)=>0
 |.sc (.bool _)=>1
 |.sc (.str _)=>2
 |_=>3
def Eb7:CK->Bool
 |.sc _=>true
 |_=>false
def Ma2:List CK->Bool
 |[]=>true
 |.sc _::r=>Ma2 r
 |_=>false
structure Put where
 xs:List aI
 moves:List (Nat×Nat×Nat)
 holes:List (Nat×Nat×List (aI×Nat×Nat))
 frz:List Nat
 depth:Nat
def big:Nat:=99
def Qa2 (mv b6:Bool)(off:Nat):aO->RdM Put
 |.sc x=>.ret ⟨[x],[],[],[],big⟩
 | .ex r => do
  match <- rdK (kR r) with
  |some (.root x m an .live)=>bif mv then .ret ⟨[x],[(off,r,m)],[],[],m⟩ else .ret ⟨[x],[],[],[r],0⟩
  |some (.root x m an .frozen)=>.ret ⟨[x],[],[],[],0⟩
  |_=>.no
 | .sn deps p nie x => do
  match deps,nie,x with
  |[],true,.c (.rows _ [])=>.ret ⟨[x],[],[],[],big⟩
  | _, _, _ =>
   let s <- xD (.sn deps p nie x)
   match s.own with
   |some (r,k,m,.path q)=>bif b6&&Nat.ble (q.length+1) m then .ret ⟨[x],[],[(off,r,q)],[],m-q.length⟩ else .ret ⟨[x],[],[],[r],0⟩
   |_=>.ret ⟨[x],[],[],s.deps.map (·.1),0⟩
 |_=>.no
def qJ (mv b6:Bool):Nat->List aO->RdM Put
 |_,[]=>.ret ⟨[],[],[],[],big⟩
 | off, l :: ls => do
  let a <- Qa2 mv b6 off l
  let b <- qJ mv b6 (off+1) ls
  .ret ⟨a.xs++b.xs,a.moves++b.moves,a.holes++b.holes,a.frz++b.frz,min a.depth b.depth⟩
def has (l:List Nat)(n:Nat):Bool:=l.any (Nat.beq n)
def meets (a b:List Nat):Bool:=a.any fun x=>has b x
def dH:List Nat->RdM (List (Nat×aP))
 |[]=>.ret []
 | r :: rs => do
  match <- rdK (kR r) with
  | some (.root x m an .live) => do
   let l <- dH rs
   .ret ((kR r,.root x m an .frozen)::l)
  |some (.root _ _ _ .frozen)=>dH rs
  |_=>.no
def distinct:List Nat->Bool
 |[]=>true
 |x::r=>!(has r x)&&distinct r
def Lag:Nat->aI->List (aI×Nat×Nat)->aI->List Step×aI
 |_,_,[],y=>([],y)
 | nv, X, (i, sz, off) :: p, y =>
  match p with
  |[]=>([.prim (.set sz off 1) [X,i,y] 1],.v nv)
  | _ =>
   let (l,z):=Lag (nv+1) (.v nv) p y
   let n:=bF l
   ([.prim (.row sz off [false]) [X,i] 1]++l++[.prim (.set sz off 1) [X,i,z] 1],.v (nv+1+n))
def sH (o:Oper)(g:Option (aI×Bool))(lets:List Step)(v:SV)(upd:List (Nat×aP)):RdM bJ :=
 .ret ⟨lets,(match o.dst with|some d=>[(kT d,.slot g v)]|none=>[])++upd⟩
def sG (o:Oper)(g:Option (aI×Bool))(nv:Nat)(p:aR)(xs:List aI):RdM bJ :=
 .ret ⟨[.prim p xs 1],match o.dst with|some d=>[(kT d,.slot none (mkS g (.v nv)))]|none=>[]⟩
def Wa6 (o:Oper)(g:Option (aI×Bool))(nv:Nat)(v:SV):RdM bJ :=
 match g,v with
 | some _, .one l => match tZ g l with
  |some x=>sG o g nv .id [x]
  |none=>sH o g [] v []
 |_,_=>sH o g [] v []
def atoms:List aO->Option (List aI)
 |[]=>some []
 |.sc x::r=>(atoms r).map (x::·)
 |_=>none
def uB:List SV->Option (List aO)
 |[]=>some []
 |.one l::r=>(uB r).map (l::·)
 |_=>none
def Iaa (g:Option (aI×Bool)):List aO->Option (List aI)
 |[]=>some []
 |l::r=>(tZ g l).bind fun x=>(Iaa g r).map (x::·)
def tiR (t:TypeId):RdM TI:=mJ (E.ti t)
def setRange {α:Type}(ls:List α)(off:Nat)(vs:List α):List α:=ls.take off++vs++ls.drop (off+vs.length)
def Nai:aO->Bool
 |.su _ _=>false
 |_=>true
def Caj (nv:Nat)(mv b6:Bool)(o:Oper)(g:Option (aI×Bool))(ti:TI)(p:aO)(ls:List aO):RdM bJ:=do
 bI (Nat.beq ls.length ti.size&&o.dst.isNone)
 match p with
 | .px b off => do
  match <- rdK (kB b) with
  | some (.box false bs) => do
   bI (Nat.ble (off+ls.length) bs.length&&noG g&&ls.all Nai)
   .ret ⟨[],[(kB b,.box false (setRange bs off ls))]⟩
  |_=>.no
 | .pe l sz i off => do
  bI (noG g)
  let s <- xD l
  match s.own with
  | some (r, k, m, .path q) => do
   bI (Nat.ble (q.length+1) m)
   match <- rdK (kR r) with
   | some (.root X m an .live) => do
    let pu <- qJ mv b6 off ls
    let fr <- dH pu.frz
    bI (!(has pu.frz r)&&!(pu.moves.any fun z=>Nat.beq z.2.1 r)&&pu.holes.isEmpty&&distinct (pu.moves.map (·.2.1))&&!(pu.moves.any fun z=>has pu.frz z.2.1))
    let m':=min m (q.length+1+pu.depth)
    let st1:Step:=.prim (.set sz off ti.size) ([s.x,i]++pu.xs) 1
    let (l2,X'):=Lag (nv+1) X q (.v nv)
    .ret ⟨st1::l2,(kR r,.root X' m' (an+1) .live)::(pu.moves.map fun z=>(kR z.2.1,.root (.c .hole) 0 0 .gone))++fr⟩
   |_=>.no
  |_=>.no
 |_=>.no
def Saj (nv:Nat)(o:Oper)(g:Option (aI×Bool))(ti:TI)(p:aO):RdM bJ:=do
 match p with
 | .px b off => do
  match <- rdK (kB b) with
  | some (.box _ bs) =>
   bI (Nat.ble (off+ti.size) bs.length)
   match Sap ti.agg ((bs.drop off).take ti.size) with
   |some v=>Wa6 o g nv v
   |none=>.no
  |_=>.no
 | .pe l sz i off => do
  let s <- xD l
  match Sap ti.agg (dX s i sz off ti.cells nv) with
  |some (.one (.sc x))=>sG o g nv (.row sz off [true]) [s.x,i]
  |some v=>sH o g [.prim (.row sz off (ti.cells.map Eb7)) [s.x,i] ti.size] v []
  |none=>.no
 |_=>.no
def Qah (o:Oper)(g:Option (aI×Bool))(fo:Nat):aO->RdM bJ
 |.px b off=>sH o g [] (.one (.px b (off+fo))) []
 |.pe l sz i off=>sH o g [] (.one (.pe l sz i (off+fo))) []
 |_=>.no
def qQ (flds:List (Nat×Nat))(ti:Nat->Option TI):List aO->List (Nat×SV)->Option (List aO)
 |ls,[]=>some ls
 | ls, (i, v) :: r =>
  match flds[i]? with
  | some (off, t) => match ti t with
   | some f => match jE f.agg v with
    |some vs=>bif Nat.beq vs.length f.size&&Nat.ble (off+f.size) ls.length then qQ flds ti (setRange ls off vs) r else none
    |none=>none
   |none=>none
  |none=>none
def Cav (g:Option (aI×Bool))(ty:Nat->TypeId):List (Nat×Operand)->RdM (List (Nat×SV))
 |[]=>.ret []
 | (i, x) :: r => do
  let v <- Oac E g (ty i) x
  let l <- Cav g ty r
  .ret ((i,v)::l)
def Baw (ti:TI)(len:Nat):List aO->List (Nat×SV)->Option (List aO)
 |ls,[]=>some ls
 | ls, (i, v) :: r =>
  match jE ti.agg v with
  |some vs=>bif Nat.beq vs.length ti.size&&Sbg i len then Baw ti len (setRange ls (i*ti.size) vs) r else none
  |none=>none
def Bbk {α:Type}(l:List α):Nat->List α
 |0=>[]
 |n+1=>l++Bbk l n
def Sak (lj:Bool)(y:SlR):RdM (Nat×List (Nat×aP)×List Nat) :=
 bif lj then .ret (big,[],y.deps.map (·.1)) else
 match y.own with
 | some (r, k, m, .path []) =>
  bif Nat.ble 2 m then .ret (m,[(kR r,.root (.c .hole) 0 0 .gone)],[r]) else .ret (1,[],[r])
 | some (r, k, m, _) => do
  let fr <- dH [r]
  .ret (1,fr,[r])
 | none => match y.x with
  |.c (.rows _ [])=>.ret (big,[],[])
  | _ => do
   let fr <- dH (y.deps.map (·.1))
   .ret (1,fr,y.deps.map (·.1))
def wX (nv nr:Nat)(o:Oper)(ti:TI)(y:SlR)(dy:Nat)(da:List (Nat×aP))(sx:aI)(m:Nat)(pre:List Step)(upd:List (Nat×aP)):RdM bJ :=
 sH o none (pre++[.prim (.app ti.size ti.bytes (Ma2 ti.cells)) [sx,y.x] 1]) (.one (.ex nr))
  ((kR nr,.root (.v (nv+bF pre)) (bif Ma2 ti.cells then big else min m dy) 0 .live)::upd++da)
def Kas (nv nr:Nat)(mv b6:Bool)(o:Oper)(ti:TI)(sl yl:aO):RdM bJ:=do
 let y <- xD yl
 let lj:=Ma2 ti.cells
 let (dy,da,ry) <- Sak lj y
 match sl with
 |.sn [] _ true (.c (.rows z []))=>wX nv nr o ti y dy da (.c (.rows z [])) big [] []
 | _ => do
  let s <- xD sl
  match s.own with
  | some (r, k, m, q) =>
   bI ((!(has ry r)||lj)&&Nat.ble 1 m)
   match q with
   |.path []=>wX nv nr o ti y dy da s.x m [] [(kR r,.root (.c .hole) 0 0 .gone)]
   |.view=>bif lj||Nat.beq m 1 then wX nv nr o ti y dy da s.x m [] [(kR r,.root (.c .hole) 0 0 .gone)] else .no
   | .path q => do
    bI (Nat.ble (q.length+1) m&&!(has ry r))
    match <- rdK (kR r) with
    | some (.root X m an .live) =>
     let (l,X'):=Lag nv X q (.c .hole)
     wX nv nr o ti y dy da s.x (m-q.length) l [(kR r,.root X' m (an+1) .live)]
    |_=>.no
   |.no=>.no
   |.suf _ _=>.no
  |none=>.no
def iV:List LS->List aO->List (Nat×Nat×Nat)->Option (List (Nat×Nat×Nat))
 |[],[],acc=>some acc
 |.px b::ss,.px c off::ls,acc=>iV ss ls ((b,c,off)::acc)
 |_,_,_=>none
def Na0:List LS->List aO->Bool
  |[],[]=>true
  | s :: ss, l :: ls =>
    (match s,l with
     |.sc,.sc _=>true
     |.sc,.su _ _=>true
     |.fz _,.ex _=>true
     |.fz _,.sn ..=>true
     |.mu _,.ex _=>true
     |.mu _,.sn ..=>true
     |.ow _,.ex _=>true
     |.ow _,.sn ..=>true
     |.px _,.px _ _=>true
     |.clo f cs,.clo f' fR=>Nat.beq f f'&&Nat.beq cs.length fR.length
     |.rp _,.rp _ _ _=>true
     |_,_=>false)&&Na0 ss ls
  |_,_=>false
def rO:SV->List aO
 |.one l=>[l]
 |.agg ls=>ls
 |_=>[]
def Lb0:SV->Bool
 |.agg _=>true
 |_=>false
def Ra5:List (Bool×List LS)->List SV->Bool
 |[],[]=>true
 |(a,ss)::ps,v::vs=>(a==Lb0 v)&&Na0 ss (rO v)&&Ra5 ps vs
 |_,_=>false
def Ham (f:Nat)(vs:List SV):List (Nat×Sig)->Option (Nat×Sig)
 |[]=>none
 |(k,s)::r=>bif Nat.beq s.fn f&&Ra5 s.params vs then some (k,s) else Ham f vs r
inductive RT where
 |nil
 |own (r d:Nat)
 |mu (r d:Nat) (q:List (aI×Nat×Nat)) (X:aI)
 deriving Inhabited
structure Take where
 xs:List aI
 ptrs:List (Nat×Nat×Nat)
 deps:List (Nat×Nat)
 lets:List Step
 rts:List RT
def Take.empty:Take:=⟨[],[],[],[],[]⟩
def Ma8 (g:Option (aI×Bool))(T:Take)(l:aO):RdM Take:=do
 let x <- mJ (tZ g l)
 .ret { T with xs:=T.xs++[x] }
def qA (T:Take)(nie:Bool)(l:aO):RdM Take:=do
 let s <- xD l
 .ret { T with xs:=T.xs++[s.x],deps:=T.deps++s.deps,lets:=T.lets++(bif nie&&!s.nie then [.prim .ne [s.x] 0] else []) }
def tT (T:Take)(d:Nat):aO->RdM Take
 | .ex r => do
  match <- rdK (kR r) with
  | some (.root x m an .live) => do
   bI (Nat.ble d m)
   .ret { T with xs:=T.xs++[x],rts:=T.rts++[.own r d] }
  |_=>.no
 |.sn [] _ true (.c (.rows z []))=>.ret { T with xs:=T.xs++[.c (.rows z [])],rts:=T.rts++[.nil] }
 |_=>.no
def Ia7 (T:Take)(d:Nat)(l:aO):RdM Take:=do
 let s <- xD l
 match s.own with
 | some (r, k, m, .path q) => do
  bI (Nat.ble (q.length+d) m)
  match <- rdK (kR r) with
  |some (.root X _ _ .live)=>.ret { T with xs:=T.xs++[s.x],rts:=T.rts++[.mu r d q X] }
  |_=>.no
 |_=>.no
def Faw (T:Take)(z:Nat):aO->RdM Take
 | .rp deps ll x => do
  let ds <- vF deps
  .ret { T with xs:=T.xs++[x],deps:=T.deps++ds }
 |.pn=>.ret { T with xs:=T.xs++[.c (.rows z [])] }
 |_=>.no
def rH (g:Option (aI×Bool))(T:Take):LS->aO->RdM Take
 |.sc,l=>Ma8 g T l
 |.fz nie,l=>qA T nie l
 |.mu d,l=>Ia7 T d l
 |.ow d,l=>tT T d l
 |.px b,.px c off=>.ret { T with ptrs:=T.ptrs++[(b,c,off)] }
 | .clo f cs, .clo f' ls =>
  match iV cs ls [] with
  |some l=>bif Nat.beq f f' then .ret { T with ptrs:=T.ptrs++l } else .no
  |none=>.no
 |.rp z,l=>Faw T z l
 |_,_=>.no
def bZ (g:Option (aI×Bool)):Take->List LS->List aO->RdM Take
 |T,[],[]=>.ret T
 | T, s :: ss, l :: ls => do
  let T <- rH g T s l
  bZ g T ss ls
 |_,_,_=>.no
def eG (g:Option (aI×Bool)):Take->List (Bool×List LS)->List SV->RdM Take
 |T,[],[]=>.ret T
 | T, (a, ss) :: ps, v :: vs => do
  let ls <- mJ (jE a v)
  let T <- bZ g T ss ls
  eG g T ps vs
 |_,_,_=>.no
def Aai (T:Take):BS->aO->RdM Take
 |.sc,.sc x=>.ret { T with xs:=T.xs++[x] }
 |.fz nie,l=>qA T nie l
 |.ow d,l=>tT T d l
 |.ot,l=>bif Nai l then .ret T else .no
 |_,_=>.no
def dQ:Take->List (BS×BO)->List aO->RdM Take
 |T,[],_=>.ret T
 | T, (s, _) :: ss, l :: ls => do
  let T <- Aai T s l
  dQ T ss ls
 |_,_::_,[]=>.no
def Pba:List (BS×BO)->Bool
 |[]=>true
 |(.ow _,_)::_=>false
 |_::r=>Pba r
def nE (b:Nat):List (Nat×Nat×Nat)->Option (Nat×Nat)
 |[]=>none
 |(b',c,off)::r=>bif Nat.beq b' b then some (c,off) else nE b r
def eB (ptrs:List (Nat×Nat×Nat)):Take->Nat->List (Bool×List (BS×BO))->RdM Take
 |T,_,[]=>.ret T
 | T, b, (ro, cs) :: r => do
  match nE b ptrs with
  | some (c, off) => do
   match <- rdK (kB c) with
   | some (.box gp ls) => do
    bI (((ro&&Pba cs)||(!ro&&!gp&&!cs.isEmpty))&&Nat.ble (off+cs.length) ls.length)
    let T <- dQ T cs (ls.drop off)
    eB ptrs T (b+1) r
   |_=>.no
  |none=>.no
def iA (w:Bool)(ptrs:List (Nat×Nat×Nat)):Nat->List (Bool×List (BS×BO))->List Nat
 |_,[]=>[]
 |b,(ro,_)::r=>bif ro==w then (match nE b ptrs with | some (c,_)=>c::iA w ptrs (b+1) r | none=>iA w ptrs (b+1) r) else iA w ptrs (b+1) r
def Sa3 (nbx:Nat)(ptrs:List (Nat×Nat×Nat)):List (Nat×Nat×Nat)->Bool
 |[]=>true
 |(b,c,off)::r=>Sbg b nbx&&(match nE b ptrs with | some (c',gk)=>Nat.beq c c'&&Nat.beq off gk | none=>false)&&Sa3 nbx ptrs r
def bV:List RT->List Nat
 |[]=>[]
 |.nil::r=>bV r
 |.own s _::r=>s::bV r
 |.mu s _ _ _::r=>s::bV r
def Waf (s:Sig)(T:Take):Bool :=
 let wr:=iA false T.ptrs 0 s.boxes
 Sa3 s.boxes.length T.ptrs T.ptrs&&distinct (bV T.rts)&&!(T.deps.any fun d=>has (bV T.rts) d.1)&&distinct wr&&!(meets wr (iA true T.ptrs 0 s.boxes))
def LR.n:LR->Nat
 |.bx cs=>cs.length
 |_=>1
def lY:List LR->Nat
 |[]=>0
 |s::ss=>s.n+lY ss
def bxL:List LR->Nat
 |[]=>0
 |.bx _::ss=>1+bxL ss
 |_::ss=>bxL ss
def jU:List (Bool×List LR)->Nat
 |[]=>0
 |(_,ss)::rs=>bxL ss+jU rs
def bH:List (Bool×List LR)->Nat
 |[]=>0
 |(_,ss)::rs=>lY ss+bH rs
def iX (deps:List (Nat×Nat))(y nr:Nat):BO->aO×List (Nat×aP)×Nat
 |.sc=>(.sc (.v y),[],nr)
 |.fz=>(.sn deps .no false (.v y),[],nr)
 |.ow m=>(.ex nr,[(kR nr,.root (.v y) m 0 .live)],nr+1)
 |.dead=>(.dead,[],nr)
def dD (deps:List (Nat×Nat)):Nat->Nat->List BO->List aO×List (Nat×aP)×Nat
 |_,nr,[]=>([],[],nr)
 | y, nr, s :: ss =>
  let (l,u,nr):=iX deps y nr s
  let (ls,us,nr):=dD deps (y+1) nr ss
  (l::ls,u++us,nr)
def bW (gd:Bool)(deps:List (Nat×Nat))(nb y nr:Nat):LR->aO×List (Nat×aP)×Nat
 |.sc=>(.sc (.v y),[],nr)
 |.fz=>(.sn deps .no false (.v y),[],nr)
 |.ow m=>bif gd then (.sn deps .no false (.v y),[],nr+1) else (.ex nr,[(kR nr,.root (.v y) m 0 .live)],nr+1)
 |.rp sz=>(.rp deps sz (.v y),[],nr)
 | .bx cs =>
  let (ls,us,nr):=dD deps y nr cs
  (.px nb 0,(kB nb,.box false ls)::us,nr)
def cK (gd:Bool)(deps:List (Nat×Nat))(nb:Nat):Nat->Nat->List LR->List aO×List (Nat×aP)×Nat
 |_,nr,[]=>([],[],nr)
 | y, nr, s :: ss =>
  let (l,u,nr):=bW gd deps nb y nr s
  let (ls,us,nr):=cK gd deps nb (y+s.n) nr ss
  (l::ls,u++us,nr)
def iI (gd:Bool)(deps:List (Nat×Nat))(nb:Nat):Nat->Nat->List (Bool×List LR)->List (Bool×List aO)×List (Nat×aP)×Nat
 |_,nr,[]=>([],[],nr)
 | y, nr, (a, s) :: ss =>
  let (l,u,nr):=cK gd deps nb y nr s
  let (ls,us,nr):=iI gd deps nb (y+lY s) nr ss
  ((a,l)::ls,u++us,nr)
def kV (ptrs:List (Nat×Nat×Nat))(deps:List (Nat×Nat)):Nat->Nat->Nat->List (Bool×List (BS×BO))->RdM (List (Nat×aP))
 |_,y,nr,[]=>.ret []
 | b, y, nr, (ro, cs) :: r =>
  bif ro then kV ptrs deps (b+1) y nr r else
  match nE b ptrs with
  | some (c, off) => do
   match <- rdK (kB c) with
   | some (.box false ls) => do
    let (ns,us,nr):=dD deps y nr (cs.map (·.2))
    let rest <- kV ptrs deps (b+1) (y+cs.length) nr r
    .ret ((kB c,.box false (setRange ls off ns))::us++rest)
   |_=>.no
  |none=>.no
def yP:Nat->Nat->List RT->RdM (List Step×List (Nat×aP))
 |_,_,[]=>.ret ([],[])
 | y, nv, .mu r d q X :: rest => do
  match <- rdK (kR r) with
  | some (.root _ m v .live) => do
   let (l,X'):=Lag nv X q (.v y)
   let (ls,us) <- yP (y+1) (nv+bF l) rest
   .ret ((bif Nat.beq (q.length+d) m then [] else [.prim (.dep d) [.v y] 0])++(l++ls),(kR r,.root X' m (v+1) .live)::us)
  |_=>.no
 |y,nv,_::rest=>yP y nv rest
def fJ:List RT->List (Nat×aP)
 |[]=>[]
 |.own r _::rest=>(kR r,.root (.c .hole) 0 0 .gone)::fJ rest
 |_::rest=>fJ rest
def dU:List (Bool×List (BS×BO))->Nat
 |[]=>0
 |(ro,cs)::r=>(bif ro then 0 else cs.length)+dU r
def mQ:Nat->List BO->List Step
 |_,[]=>[]
 |y,.ow m::r=>.prim (.dep m) [.v y] 0::mQ (y+1) r
 |y,_::r=>mQ (y+1) r
def Ra2:Nat->List LR->List Step
 |_,[]=>[]
 |y,.ow m::r=>.prim (.dep m) [.v y] 0::Ra2 (y+1) r
 |y,.bx cs::r=>mQ y cs++Ra2 (y+cs.length) r
 |y,_::r=>Ra2 (y+1) r
def Zaf:Nat->List (Bool×List LR)->List Step
 |_,[]=>[]
 |y,(_,ss)::r=>Ra2 y ss++Zaf (y+lY ss) r
def Zag:Nat->List RT->List Step
 |_,[]=>[]
 |y,.mu _ d _ _::r=>.prim (.dep d) [.v y] 0::Zag (y+1) r
 |y,_::r=>Zag y r
def Vaz:Nat->List (Bool×List (BS×BO))->List Step
 |_,[]=>[]
 |y,(ro,cs)::r=>bif ro then Vaz y r else mQ y (cs.map (·.2))++Vaz (y+cs.length) r
def vT:RT->Bool
 |.mu _ _ _ _=>true
 |_=>false
def jQ:List (BS×BO)->List aO->RdM (List aI)
 |[],_=>.ret []
 | (s, o) :: ss, l :: ls => do
  let x <- (match s,o,l with
   |.sc,.sc,.sc x=>RdM.ret x
   | .fz _, .fz, l => do
    let r <- xD l
    RdM.ret r.x
   |_,.dead,l=>bif Nai l then .ret (.c .hole) else .no
   |_,_,_=>.no)
  let r <- jQ ss ls
  .ret (x::r)
 |_::_,[]=>.no
def iB (ptrs:List (Nat×Nat×Nat)):Nat->List (Bool×List (BS×BO))->RdM (List aI)
 |_,[]=>.ret []
 | b, (ro, cs) :: r =>
  bif ro then iB ptrs (b+1) r else
  match nE b ptrs with
  | some (c, off) => do
   match <- rdK (kB c) with
   | some (.box false ls) => do
    let l <- jQ cs (ls.drop off)
    let m <- iB ptrs (b+1) r
    .ret (l++m)
   |_=>.no
  |none=>.no
def Aay (g:Option (aI×Bool)):List (Bool×List aO)->SV
 |[(false,[.sc x])]=>mkS g x
 |[(false,[l])]=>.one l
 |[(true,ls)]=>.agg ls
 |rs=>.tup rs
def Bbj (g:Option (aI×Bool)):SV->Option (aI×Bool)
 |.one (.su _ _)=>none
 |_=>g
def Dbh (nv nb nr:Nat)(o:Oper)(g:Option (aI×Bool))(f:Nat)(vs:List SV):RdM bJ:=do
 match Ham f vs E.sigs with
 |none=>.no
 | some (key, s) => do
  let T <- eG g Take.empty s.params vs
  let T <- eB T.ptrs T 0 s.boxes
  bI (Waf s T&&Nat.ble (jU s.results) 1&&(noG g||(T.rts.isEmpty&&Nat.beq (jU s.results) 0)))
  let nres:=bH s.results
  let nmu:=(T.rts.filter vT).length
  let total:=nres+nmu+dU s.boxes
  let y0:=nv+bF T.lets
  let (rs,us,tn):=iI (!noG g) T.deps nb y0 nr s.results
  let bu <- kV T.ptrs T.deps 0 (y0+nres+nmu) tn s.boxes
  let chk:=bif T.deps.isEmpty then [] else Zaf y0 s.results++Zag (y0+nres) T.rts++Vaz (y0+nres+nmu) s.boxes
  let (ml,mu) <- yP (y0+nres) (y0+total) T.rts
  let olds <- (match g with
   |none=>RdM.ret []
   |some _=>iB T.ptrs 0 s.boxes)
  let v:=Aay g rs
  .ret ⟨T.lets++[.call key (T.xs) total olds]++chk++ml,(match o.dst with|some d=>[(kT d,.slot (Bbj g v) v)]|none=>[])++(us++bu++mu++fJ T.rts)⟩
def yN (g:Option (aI×Bool)):List Operand->List TypeId->RdM (List SV)
 |[],_=>.ret []
 | x :: xs, ts => do
  let v <- Oac E g (ts.headD 0) x
  let l <- yN g xs ts.tail
  .ret (v::l)
def Mba:Option IntKind->Bool
 |some k=>Lbp k .u8
 |none=>false
def Ja5:Operand->Bool
 |.const (.slice none _ _)=>true
 |_=>false
def Tad:Operand->Bool
 |.const (.pointer none)=>true
 |_=>false
def Lbk (nv:Nat)(o:Oper)(g:Option (aI×Bool))(neg:Bool)(t:TypeId)(x y:Operand):RdM bJ:=do
 let a <- Oac E g t x
 let b <- Oac E g t y
 match a,b with
 | .agg ls, .agg ms => do
  let ti <- tiR E t
  match atoms ls,atoms ms with
  | some xs, some ys => do
   bI (ti.cmp&&Nat.beq xs.length ti.size&&Nat.beq ys.length ti.size)
   let d:=match o.dst with|some d=>[(kT d,aP.slot none (mkS g (.v (bif neg then nv+1 else nv))))]|none=>[]
   .ret ⟨[.prim (.eqs (ti.cells.map Eaf)) (xs++ys) 1]++(bif neg then [.prim .not [.v nv] 1] else []),d⟩
  |_,_=>.no
 | .one l, .one m => do
  let ti <- tiR E t
  match tZ g l,tZ g m with
  | some p, some q => do
   bif ti.isBool then sG o g nv (.eqb neg) [p,q] else sG o g nv (.bin (bif neg then .neq else .eql)) [p,q]
  |_,_ =>
  let res (p:aR) (x:aI):RdM bJ :=
   .ret ⟨[.prim p [x] 1]++(bif neg then [.prim .not [.v nv] 1] else []),match o.dst with|some d=>[(kT d,aP.slot none (mkS g (.v (bif neg then nv+1 else nv))))]|none=>[]⟩
  bif Ja5 y then do
   bI ti.elem.isSome
   let s <- xD l
   let r <- res .emp s.x
   .ret (bif s.nie then r else ⟨.prim .ne [s.x] 0::r.lets,r.upd⟩)
  else bif Tad y then do
   bI ti.isPtr
   match l with
   | .rp deps sz x => do
    let _ <- vF deps
    res .emp x
   |.pn=>sG o g nv .id [.c (.bool (!neg))]
   |.px _ _=>sG o g nv .id [.c (.bool neg)]
   |.pe _ _ _ _=>sG o g nv .id [.c (.bool neg)]
   |_=>.no
  else .no
 |_,_=>.no
def Ia1:List CK->Option (List D)
 |[]=>some []
 |.sc z::r=>(Ia1 r).map (z::·)
 |.sl sz::r=>(Ia1 r).map (.rows sz []::·)
 |_::_=>none
def Ia3 (ei:TI)(lo:Bool)(s:SlR):Pth×Bool :=
 let one (m:Nat):Pth×Bool:=bif Nat.beq m 1||!lo then (.view,false) else bif Ma2 ei.cells then (.view,true) else (.no,false)
 match s.own with
 |some (_,_,m,.path [])=>one m
 |some (_,_,m,.view)=>one m
 |_=>(.no,false)
def Ebe (p:Pth)(sz:Nat)(lo:aI)(s:SlR):Pth :=
 match p,s.own with
 |.no,some (_,_,_,.path [])=>.suf sz lo
 |p,_=>p
def Qai (nv:Nat)(o:Oper)(ei:TI)(l:aO):RdM bJ:=do
 let s <- xD l
 match s.own with
 | some (r, k, m, .suf sz lo) => do
  bI (Nat.beq sz 1&&Nat.beq ei.size 1&&Nat.ble 1 m)
  match <- rdK (kR r) with
  |some (.root X m' an .live)=>.ret ⟨[.prim (.clr 1) [X,lo] 1],(match o.dst with | some d=>[(kT d,.slot none .dead)] | none=>[])++[(kR r,.root (.v nv) m' (an+1) .live)]⟩
  |_=>.no
 |_=>.no
def oJ (mv b6:Bool)(nv nb nr:Nat)(g:Option (aI×Bool))(o:Oper):RdM bJ :=
 match o.op with
 |.move x | .assign x=>do Wa6 o g nv (<- Oac E g o.type x)
 | .pick c a b => do
  let c <- rdA E g 0 c
  let a <- Jap E g (c,true) o.type a
  let b <- Jap E g (c,false) o.type b
  sG o g nv .pick [c,a,b]
 | .alloc e => do
  let ti <- tiR E e
  bI (noG g)
  sH o g [] (.one (.px nb 0)) [(kB nb,.box false (ti.cells.map fA))]
 | .box e x => do
  let ti <- tiR E e
  let v <- Oac E g e x
  match jE ti.agg v with
  | some ls => do
   bI (Nat.beq ls.length ti.size&&noG g&&ls.all Nai)
   sH o g [] (.one (.px nb 0)) [(kB nb,.box false ls)]
  |none=>.no
 | .build t parts => do
  let ti <- tiR E t
  bI ti.agg
  let ps <- Cav E g (fun i=>(ti.flds.getD i (0,0)).2) parts.toList
  match qQ ti.flds E.ti (ti.cells.map fA) ps with
  |some ls=>sH o g [] (.agg ls) []
  |none=>.no
 | .buildSlice t len parts => do
  let st <- tiR E t
  let e <- mJ st.elem
  let ti <- tiR E e
  let ps <- Cav E g (fun _=>e) parts.toList
  bI (Nat.ble (len*ti.size) 4096&&Sbg 0 ti.size&&Sbg (len*ti.bytes) 4096)
  match Baw ti len (Bbk (ti.cells.map fA) len) ps with
  | some ls => do
   let pu <- qJ mv b6 0 ls
   bI (noG g||(pu.moves.isEmpty&&pu.holes.isEmpty&&pu.frz.isEmpty))
   let fr <- dH pu.frz
   bI (distinct (pu.moves.map (·.2.1))&&!(pu.moves.any fun z=>has pu.frz z.2.1)&&pu.holes.isEmpty)
   bif noG g then
    sH o g [.prim (.mk ti.size len) pu.xs 1] (.one (.ex nr))
     ((kR nr,.root (.v nv) (min big (pu.depth+1)) 0 .live)::(pu.moves.map fun z=>(kR z.2.1,.root (.c .hole) 0 0 .gone))++fr)
   else sH o g [.prim (.mk ti.size len) pu.xs 1] (.one (.sn [] .no false (.v nv))) []
  |none=>.no
 | .load t a => do
  let ti <- tiR E t
  Saj nv o g ti (<- rdL E g 0 a)
 | .store t a x => do
  let ti <- tiR E t
  let p <- rdL E g 0 a
  let v <- Oac E g t x
  match jE ti.agg v with
  |some ls=>Caj nv mv b6 o g ti p ls
  |none=>.no
 | .nilCheck x => do
  match <- rdL E g 0 x with
  | .rp deps sz y => do
   let ds <- vF deps
   sH o g [.prim .ne [y] 0] (.one (.pe (.sn ds .no false y) sz (.c (.int .i64 0)) 0)) []
  |.px b off=>sH o g [] (.one (.px b off)) []
  |.pe l sz i off=>sH o g [] (.one (.pe l sz i off)) []
  |.clo f cs=>sH o g [] (.one (.clo f cs)) []
  |.pn=>sH o g [.prim .ne [.c (.rows 0 [])] 0] (.one (.pe (.sn [] .no false (.c (.rows 0 []))) 0 (.c (.int .i64 0)) 0)) []
  |_=>.no
 |.binOp .eql t x y _=>Lbk E nv o g false t x y
 |.binOp .neq t x y _=>Lbk E nv o g true t x y
 | .binOp op t x y ty => do
  let a <- rdA E g t x
  let b <- rdA E g ty y
  sG o g nv (.bin op) [a,b]
 | .unOp op _ x => do
  let a <- rdA E g 0 x
  match op with
  |.not=>sG o g nv .not [a]
  |.neg=>sG o g nv .neg [a]
  |.xor=>sG o g nv .inv [a]
  |_=>.no
 | .convert src dst x => do
  let s <- tiR E src
  let d <- tiR E dst
  match d.ik with
  | some k => do
   bI s.ik.isSome
   let a <- rdA E g src x
   sG o g nv (.conv k) [a]
  | none =>
   bif d.isStr then
    bif s.isStr then do
     let a <- rdA E g src x
     sG o g nv .sid [a]
    else do
     let e <- mJ s.elem
     let ei <- tiR E e
     bI (Mba ei.ik)
     let r <- xD (<- rdL E g src x)
     sG o g nv .bstr [r.x]
   else .no
 | .makeFunc (.func f) first cD => do
  bI first.isEmpty
  let vs <- yN E g cD.toList []
  let ls <- mJ (uB vs)
  sH o g [] (.one (.clo f ls)) []
 | .makeSlice t l c => do
  let st <- tiR E t
  let e <- mJ st.elem
  let ti <- tiR E e
  bI (noG g)
  let a <- rdA E g 0 l
  let b <- rdA E g 0 c
  bI (a.beq0 b&&Sbg 0 ti.size&&Sbg 0 ti.bytes)
  let zs <- mJ (Ia1 ti.cells)
  sH o none [.prim (.make ti.bytes zs) [a] 1] (.one (.ex nr)) [(kR nr,.root (.v nv) big 0 .live)]
 | .slice t x lo hi mx => do
  let ti <- tiR E t
  match mx with
  |some _=>.no
  | none => do
   let l <- rdL E g t x
   let sh <- (match lo with|some a=>rdA E g 0 a|none=>RdM.ret (.c (.int .i64 0)))
   match l with
   | .sc s => do
    bI (ti.isStr&&(noG g||hi.isSome))
    match hi with
    | some h => do
     let h <- rdA E g 0 h
     sG o g nv .ssub [s,sh,h]
    | none =>
     .ret ⟨[.prim .slen [s] 1,.prim .ssub [s,sh,.v nv] 1],match o.dst with|some d=>[(kT d,.slot none (mkS g (.v (nv+1))))]|none=>[]⟩
   | l => do
    bI ti.elem.isSome
    let s <- xD l
    let ei <- tiR E (ti.elem.getD 0)
    let (p,fl):=Ia3 ei lo.isSome s
    match hi with
    | some h => do
     let h <- rdA E g 0 h
     match l with
     |.sn _ _ true (.c (.rows z []))=>sH o g [.prim (.sub ei.size fl) [s.x,sh,h] 1] (.one l) []
     |_=>sH o g [.prim (.sub ei.size fl) [s.x,sh,h] 1] (.one (.sn s.deps p false (.v nv))) []
    | none =>
     sH o g [.prim .len [s.x] 1,.prim (.sub ei.size fl) [s.x,sh,.v nv] 1] (.one (.sn s.deps (Ebe p ei.size sh s) false (.v (nv+1)))) []
 | .fieldAddr t x f => do
  let ti <- tiR E t
  match ti.flds[f]? with
  | some (off, ft) => do
   let fi <- tiR E ft
   bI (Sbg 0 fi.size)
   Qah o g off (<- rdL E g 0 x)
  |none=>.no
 | .field t x f => do
  let ti <- tiR E t
  match ti.flds[f]? with
  | some (off, ft) => do
   let fi <- tiR E ft
   match <- Oac E g t x with
   | .agg ls => do
    bI (Nat.ble (off+fi.size) ls.length&&Nat.beq ls.length ti.size)
    match Sap fi.agg ((ls.drop off).take fi.size) with
    |some v=>Wa6 o g nv v
    |none=>.no
   |_=>.no
  |none=>.no
 | .indexAddr t x i => do
  let ti <- tiR E t
  let e <- mJ ti.elem
  let ei <- tiR E e
  let l <- rdL E g t x
  let s <- xD l
  let a <- rdA E g 0 i
  bI (Sbg 0 ei.size)
  sH o g [.prim .inb [s.x,a] 0] (.one (.pe l ei.size a 0)) []
 | .index t x i => do
  let ti <- tiR E t
  bI ti.isStr
  let s <- rdA E g t x
  let a <- rdA E g 0 i
  sG o g nv .sidx [s,a]
 | .extract x i => do
  match <- Oac E g 0 x with
  | .tup vs => match vs[i]? with
   | some (a, ls) => match Sap a ls with
    |some v=>Wa6 o g nv v
    |none=>.no
   |none=>.no
  |_=>.no
 | .call { callee := .builtin b, args, argTypes } => do
  match b,args.toList with
  | .len, [x] => do
   let t <- mJ argTypes[0]?
   let ti <- tiR E t
   let l <- rdL E g t x
   match tZ g l with
   | some a => do
    bI ti.isStr
    sG o g nv .slen [a]
   | none => do
    bI ti.elem.isSome
    let s <- xD l
    sG o g nv .len [s.x]
  | .append, [x, y] => do
   let t <- mJ argTypes[0]?
   let ty <- mJ argTypes[1]?
   let ti <- tiR E t
   let e <- mJ ti.elem
   let ei <- tiR E e
   let yi <- tiR E ty
   bI (yi.elem.isSome&&Sbg 0 ei.size&&noG g&&Sbg 0 ei.bytes&&Nat.beq argTypes.size 2)
   Kas nv nr mv b6 o ei (<- rdL E g t x) (<- rdL E g ty y)
  | .clear, [x] => do
   let t <- mJ argTypes[0]?
   let ti <- tiR E t
   let e <- mJ ti.elem
   let ei <- tiR E e
   bI (noG g&&Nat.beq argTypes.size 1)
   Qai nv o ei (<- rdL E g t x)
  | .min, xs => do
   let vs <- yN E g xs argTypes.toList
   let as <- mJ ((uB vs).bind (Iaa g))
   sG o g nv .min as
  | .max, xs => do
   let vs <- yN E g xs argTypes.toList
   let as <- mJ ((uB vs).bind (Iaa g))
   sG o g nv .max as
  |_,_=>.no
 | .call { callee := .value f, args, argTypes } => do
  match <- rdL E g 0 f with
  | .clo fn cD => do
   let vs <- yN E g args.toList argTypes.toList
   Dbh E nv nb nr o g fn (vs++cD.map .one)
  |_=>.no
 |_=>.no
end
def jI {α:Type}(n:Nat):Option α:=none
structure St where
 tr:Tr aP
 nv:Nat
 nb:Nat
 nr:Nat
 nt:Nat
 deriving Inhabited
def uK (nt nb nr k:Nat):Bool :=
 bif Nat.beq (k % 3) 0 then Sbg (k / 3) nt else bif Nat.beq (k % 3) 1 then Sbg (k / 3) nb else Sbg (k / 3) nr
def St.get (s:St)(k:Nat):Option aP:=bif uK s.nt s.nb s.nr k then s.tr.get k else none
def aX (n:Nat):aI->Bool
 |.v i=>Sbg i n
 |.c _=>true
def Cam (n:Nat):Step->Bool
 |.prim _ xs _=>xs.all (aX n)
 |.call _ xs k olds=>xs.all (aX n)&&olds.all (aX n)&&Nat.ble olds.length k
def dV:Nat->List Step->Bool
 |_,[]=>true
 |n,s::r=>Cam n s&&dV (n+s.n) r
def nS (n:Nat):Option (aI×Bool)->Bool
 |none=>true
 |some (x,_)=>aX n x
def St.put (s:St)(k:Nat)(c:Option aP):St:={ s with tr:=s.tr.set 16 k c }
def St.puts (s:St):List (Nat×aP)->St
 |[]=>s
 |(k,c)::r=>(s.put k (some c)).puts r
def Ka7 (ops:List Oper)(o:Oper):RdM (Option (aI×Bool)) :=
 match o.guard with
 |none=>.ret none
 | some (j, want) =>
  match (ops[j]?).bind (·.dst) with
  | some d => .rd (kT d) fun
   |some (.slot none (.one (.sc x)))=>.ret (some (x,want))
   |some (.slot none (.one (.su _ x)))=>.ret (some (x,want))
   |_=>.no
  |none=>.no
def bP:Nat:=16
def yC (n nb nr k:Nat):Bool :=
 bif Nat.beq (k % 3) 0 then Sbg (k / 3) n else bif Nat.beq (k % 3) 1 then Nat.ble (k / 3) nb else Sbg (k / 3) (nr+bP)
def Ua3:List (Nat×aP)->Nat->Option aP
 |[],_=>none
 | (k', c) :: r, k => match Ua3 r k with
  |some d=>some d
  |none=>bif Nat.beq k' k then some c else none
def RdM.over {α:Type}(u:List (Nat×aP)):RdM α->RdM α
 |.ret a=>.ret a
 |.no=>.no
 | .rd k f => match Ua3 u k with
  |some c=>(f (some c)).over u
  |none=>.rd k fun c=>(f c).over u
def Aam:Bool->Op->Option Nat
 |true,.store _ _ (.tmp t)=>some t
 | true, .buildSlice _ _ parts => match parts.toList with
  |[(_,.tmp t)]=>some t
  |_=>none
 |_,_=>none
def Laj:Bool->Oper->Option Nat
 | true, o => match o.op with
  |.load _ _=>o.dst
  |_=>none
 |false,_=>none
def Jac (E:Env)(nv nr t:Nat):RdM (Option (List Step×List (Nat×aP))):=do
 match <- rdK (kT t) with
 | some (.slot none (.one (.sn deps (.path (p :: ps)) nie x))) => do
  let s <- xD (.sn deps (.path (p::ps)) nie x)
  match s.own with
  | some (r, k, m, .path (q :: qs)) =>
   bif Nat.ble (qs.length+2) m&&Sbg t E.ntmps then do
    match <- rdK (kR r) with
    | some (.root X m' an .live) =>
     let (l,X'):=Lag nv X (q::qs) (.c .hole)
     .ret (some (l,[(kT t,.slot none (.one (.ex nr))),(kR nr,.root s.x (m-(qs.length+1)) 0 .live),(kR r,.root X' m (an+1) .live)]))
    |_=>.ret none
   else .ret none
  |_=>.ret none
 |_=>.ret none
def Uah (E:Env)(mv b6:Bool)(nv nb nr:Nat)(g:Option (aI×Bool))(o:Oper):RdM bJ :=
 match Aam (b6&&noG g) o.op with
 | none => match Laj (b6 && noG g && !mv) o with
  |none=>oJ E mv b6 nv nb nr g o
  | some t => do
   let r <- oJ E mv b6 nv nb nr g o
   match <- (Jac E (nv+bF r.lets) nr t).over r.upd with
   |some (l,u)=>.ret ⟨r.lets++l,r.upd++u⟩
   |none=>.ret r
 | some t => do
  match <- Jac E nv nr t with
  | some (l, u) => do
   let r <- (oJ E mv false (nv+bF l) nb (nr+1) g o).over u
   .ret ⟨l++r.lets,u++r.upd⟩
  |none=>oJ E mv false nv nb nr g o
def kJ (E:Env)(ops:List Oper)(mv b6:Bool)(nv nb nr:Nat)(o:Oper):RdM (Option (aI×Bool)×bJ):=do
 let g <- Ka7 ops o
 bI (match o.dst with|some d=>Sbg d E.ntmps|none=>true)
 let r <- Uah E mv b6 nv nb nr g o
 bI (r.upd.all fun x=>yC E.ntmps nb nr x.1)
 .ret (g,r)
structure OpI where
 g:Option (aI×Bool)
 res:bJ
 log:List Nat
 nb:Nat
 nr:Nat
 deriving Inhabited
def mG (t:Tr aP)(r:Nat):Nat->Bool
 |0=>true
 |n+1=>(t.get (kR r)).isNone&&mG t (r+1) n
def Aa4 (n:Nat):Pth->Bool
 |.path p=>p.all fun x=>aX n x.1
 |.suf _ x=>aX n x
 |_=>true
mutual
def aO.inScope (n:Nat):aO->Bool
 |.sc x=>aX n x
 |.su g x=>aX n x&&aX n g.1
 |.sn _ p _ x=>aX n x&&Aa4 n p
 |.pe l _ i _=>l.inScope n&&aX n i
 |.rp _ _ x=>aX n x
 |.clo _ l=>bB n l
 |_=>true
def bB (n:Nat):List aO->Bool
 |[]=>true
 |a::r=>a.inScope n&&bB n r
end
def wY (n:Nat):SV->Bool
 |.dead=>true
 |.one l=>l.inScope n
 |.agg ls=>bB n ls
 |.tup vs=>vs.all fun v=>bB n v.2
def bR (n:Nat):aP->Bool
 |.slot g v=>nS n g&&wY n v
 |.box _ ls=>bB n ls
 |.root x _ _ _=>aX n x
def Bbu (s:St)(g:Option (aI×Bool))(r:bJ):Bool :=
 (s.tr.get (kB s.nb)).isNone&&mG s.tr s.nr bP&&nS s.nv g&&dV s.nv r.lets&&r.upd.all fun x=>bR (s.nv+bF r.lets) x.2
def Gbd:List (Nat×aP)->Nat->Nat
 |[],n=>n
 |x::r,n=>Gbd r (bif Nat.beq (x.1 % 3) 2&&Nat.ble n (x.1 / 3) then x.1 / 3+1 else n)
def Ra3 (draw:Bool)(n:Nat)(u:List (Nat×aP)):Nat:=bif draw then n+bP else Gbd u n
def Ma7 (t:Tr aP)(lo:Nat):Nat->Nat
 |0=>lo
 |n+1=>bif (t.get (kR (lo+n))).isNone then Ma7 t lo n else lo+n+1
def trimS (draw:Bool)(lo:Nat)(s:St):St:=bif draw&&Nat.ble lo s.nr then { s with nr:=Ma7 s.tr lo (s.nr-lo) } else s
def Mbb (l:List (Nat×Nat))(r i:Nat):Bool:=l.any fun p=>Nat.beq p.1 r&&Nat.beq p.2 i
def Wah (E:Env)(draw:Bool)(gf:Nat)(ops:List Oper):Nat->List Oper->St->List OpI->Sum (List OpI×St) (Nat×St×List OpI)
 |_,[],s,acc=>.inl (acc.reverse,s)
 | i, o :: os, s, acc =>
  let fl:=Mbb E.nomv gf i
  match (kJ E ops (xor (!E.freezeEx) fl) (xor E.moveSn fl) s.nv s.nb s.nr o).run s.get with
  | some ((g, r), log) =>
   bif !(Bbu s g r) then .inr (i,s,acc) else Wah E draw gf ops (i+1) os { (s.puts r.upd) with nv:=s.nv+bF r.lets,nb:=s.nb+1,nr:=Ra3 draw s.nr r.upd } ({ g,res:=r,log,nb:=s.nb,nr:=s.nr }::acc)
  |none=>.inr (i,s,acc)
def zA (acc:List Nat):List Edge->Nat->Nat
 |[],m=>m
 |e::es,m=>zA acc es (bif Region.binds .any e then (m ||| 2 ^ e.on) ||| acc.getD e.on 0 else m)
def waits:List Oper->List Nat->List Nat
 |[],acc=>acc
 |o::os,acc=>waits os (acc++[zA acc o.after.toList 0])
def Baz:List Oper->Nat->Bool
 |[],_=>true
 |o::os,i=>(o.after.toList.all fun e=>!(Region.binds .any e)||Sbg e.on i)&&Baz os (i+1)
def Lax (a:OpI)(k:Nat):Bool:=bif Nat.beq (k % 3) 1 then Nat.beq (k / 3) a.nb else bif Nat.beq (k % 3) 2 then Nat.ble a.nr (k / 3)&&Sbg (k / 3) (a.nr+bP) else false
def pK (a b:OpI):Bool :=
 let wa:=a.res.upd.map (·.1)
 let wb:=b.res.upd.map (·.1)
 !(meets wa b.log)&&!(meets wa wb)&&!(meets a.log wb)&&!(wb.any (Lax a))
def Ban (a:OpI)(i:Nat):List OpI->List Nat->Bool
 |[],_=>true
 |b::bs,w::ws=>(Tbj w i||pK a b)&&Ban a i bs ws
 |_::_,[]=>false
def vK:List OpI->List Nat->Nat->Bool
 |[],_,_=>true
 |a::as,ws,i=>Ban a i as ws.tail&&vK as ws.tail (i+1)
def nA (g:Option (aI×Bool))(k:Tm St):List Step->Tm St
 |[]=>k
 |.prim p xs n::r=>.lt g p xs n (nA g k r)
 |.call f xs n olds::r=>.call g f xs n olds (nA g k r)
def Fa1 (k:Tm St):List OpI->Tm St
 |[]=>k
 |a::r=>nA a.g (Fa1 k r) a.res.lets
def Kar (E:Env)(l7:Bool)(gf:Nat)(ops:List Oper)(draw:Bool)(s:St):Tm St :=
 match Wah E draw gf ops 0 ops s [] with
 | .inl (is, s') =>
  bif !draw||(Baz ops 0&&vK is (waits ops []) 0) then Fa1 (.leaf .fall [] (trimS draw s.nr s')) is
  else bif l7 then .leaf (.exit (1000000+gf*1000+999)) [] s else .stuck
 |.inr (i,s',is)=>bif l7 then .leaf (.exit (1000000+gf*1000+i)) [] s' else .stuck
def Wa9:Operand->Nat
 |.tmp t=>2 ^ t
 |_=>0
def Bbs (o:Oper):Nat:=o.op.operands.toList.foldl (fun m x=>m ||| Wa9 x) 0
def Xak:List Oper->Nat->Nat
 |[],l=>l
 | o :: os, l =>
  let m:=Xak os l
  let m:=match o.dst,o.guard with
   |some d,none=>bif Tbj m d then m-2 ^ d else m
   |_,_=>m
  m ||| Bbs o
def Taq:List (Nat×Nat)->Nat->Nat
 |[],_=>0
 |(i,m)::r,j=>bif Nat.beq i j then m else Taq r j
def Iam:Code->List (Nat×Nat)->Nat->Nat->Nat
 |.region _ ops _,_,_,l=>Xak ops.toList l
 |.seq a b,ex,rb,l=>Iam a ex rb (Iam b ex rb l)
 |.cond c a b,ex,rb,l=>Wa9 c ||| Iam a ex rb l ||| Iam b ex rb l
 |.block id b,ex,rb,l=>Iam b ((id,l)::ex) rb l
 |.loop b,ex,rb,_=>Iam b ex rb (Iam b ex rb (Iam b ex rb 0))
 |.exit id,ex,_,_=>Taq ex id
 |.ret,_,rb,_=>rb
 |_,_,_,l=>l
inductive Form where
 |sc
 |nil (z:Nat)
 |ex (m:Nat)
 |sn
 |pn
 |rp (z:Nat)
 |keep (l:aO)
 |alias (i:Nat)
 |dead
 deriving Inhabited
def Jas:List (aI×Nat×Nat)->List (aI×Nat×Nat)->Bool
 |[],[]=>true
 |(a,b,c)::r,(a',b',c')::r'=>a.beq0 a'&&Nat.beq b b'&&Nat.beq c c'&&Jas r r'
 |_,_=>false
def Pth.beq0:Pth->Pth->Bool
 |.no,.no=>true
 |.view,.view=>true
 |.path p,.path q=>Jas p q
 |.suf a x,.suf b y=>Nat.beq a b&&x.beq0 y
 |_,_=>false
def wG:List (Nat×Nat)->List (Nat×Nat)->Bool
 |[],[]=>true
 |(a,b)::r,(a',b')::r'=>Nat.beq a a'&&Nat.beq b b'&&wG r r'
 |_,_=>false
mutual
def aO.beq0:aO->aO->Bool
 |.dead,.dead=>true
 |.sc x,.sc y=>x.beq0 y
 |.su g x,.su h y=>g.1.beq0 h.1&&(g.2==h.2)&&x.beq0 y
 |.ex r,.ex r'=>Nat.beq r r'
 |.sn d p n x,.sn d' p' n' x'=>wG d d'&&p.beq0 p'&&(n==n')&&x.beq0 x'
 |.px b o,.px b' o'=>Nat.beq b b'&&Nat.beq o o'
 |.pe l s i o,.pe l' s' i' o'=>l.beq0 l'&&Nat.beq s s'&&i.beq0 i'&&Nat.beq o o'
 |.rp d s x,.rp d' s' x'=>wG d d'&&Nat.beq s s'&&x.beq0 x'
 |.pn,.pn=>true
 |.clo f l,.clo f' l'=>Nat.beq f f'&&qN l l'
 |_,_=>false
def qN:List aO->List aO->Bool
 |[],[]=>true
 |a::r,b::s=>a.beq0 b&&qN r s
 |_,_=>false
end
def Aax (a b:RSt):Bool:=decide (a=b)
def Saz (nv:Nat)(r:Nat):List St->Bool
 |[]=>true
 | s :: rest => match s.get (kR r) with
  | some (.root x m v st) => aX nv x && rest.all fun s' => match s'.get (kR r) with
   |some (.root x' m' v' qf)=>x.beq0 x'&&Nat.beq m m'&&Nat.beq v v'&&Aax st qf
   |_=>false
  |_=>false
mutual
def Baf:aO->List Nat
 |.ex r=>[r]
 |.sn d _ _ _=>d.map (·.1)
 |.rp d _ _=>d.map (·.1)
 |.pe l _ _ _=>Baf l
 |.clo _ l=>Gax l
 |_=>[]
def Gax:List aO->List Nat
 |[]=>[]
 |a::r=>Baf a++Gax r
end
def Yaj (s:St):aO->Form
 |.sc _=>.sc
 | .ex r => match s.get (kR r) with
  |some (.root _ m _ .live)=>.ex m
  |some (.root _ _ _ .frozen)=>.sn
  |_=>.dead
 |.sn _ _ true (.c (.rows z []))=>.nil z
 | .sn d p _ _ => match p, d with
  | .view, [(r, k)] => match s.get (kR r) with
   |some (.root _ m v .live)=>bif Nat.beq v k then .ex m else .dead
   |some (.root _ _ _ .frozen)=>.sn
   |_=>.dead
  |_,_=>.sn
 |.pn=>.pn
 |.rp _ z _=>.rp z
 |.pe _ z _ o=>bif Nat.beq o 0 then .rp z else .dead
 |_=>.dead
def Laq:Form->Form->Form
 |.sc,.sc=>.sc
 |.nil z,.nil _=>.nil z
 |.nil _,.ex m=>.ex m
 |.ex m,.nil _=>.ex m
 |.ex m,.ex m'=>.ex (min m m')
 |.nil _,.sn=>.sn
 |.sn,.nil _=>.sn
 |.ex _,.sn=>.sn
 |.sn,.ex _=>.sn
 |.sn,.sn=>.sn
 |.pn,.pn=>.pn
 |.pn,.rp z=>.rp z
 |.rp z,.pn=>.rp z
 |.rp z,.rp _=>.rp z
 |_,_=>.dead
def vS (k j:Nat)(s:St):aO :=
 match s.get k with
 |some (.slot none v)=>(rO v).getD j .dead
 |some (.box _ ls)=>ls.getD j .dead
 |_=>.dead
def Ibj (nv k j:Nat)(eC:List St):Form :=
 match eC with
 |[]=>.dead
 | s :: rest =>
  let l:=vS k j s
  bif l.inScope nv&&rest.all (fun s'=>l.beq0 (vS k j s'))&&(Baf l).all (fun r=>Saz nv r (s::rest)) then .keep l
  else rest.foldl (fun f s'=>Laq f (Yaj s' (vS k j s'))) (Yaj s l)
def Ibe:Form->Bool
 |.keep _=>true
 |_=>false
structure Pos where
 k:Nat
 j:Nat
 f:Form
 deriving Inhabited
def War:Option aP->Option aP->Bool
 |some (.slot none (.one _)),some (.slot none (.one _))=>true
 |some (.slot none (.agg a)),some (.slot none (.agg b))=>Nat.beq a.length b.length
 |some (.box r a),some (.box r' b)=>(r==r')&&Nat.beq a.length b.length
 |_,_=>false
def Fbo:Option aP->Nat
 |some (.slot none v)=>(rO v).length
 |some (.box _ ls)=>ls.length
 |_=>0
def Ebz (old:List Pos)(k j:Nat):Option Form:=(old.find? fun p=>Nat.beq p.k k&&Nat.beq p.j j).map (·.f)
def Dbv (s:St)(k j:Nat):Option Nat :=
 match vS k j s with
 |.ex r=>some r
 |_=>none
def Ibf:Form->Bool
 |.ex _=>true
 |_=>false
def aliasOf (eC:List St)(k j:Nat):List Pos->Nat->Option Nat
 |[],_=>none
 | p :: ps, i =>
  bif Ibf p.f&&eC.all fun s=>match Dbv s k j,Dbv s p.k p.j with
   |some r,some r'=>Nat.beq r r'
   |_,_=>false
  then some i else aliasOf eC k j ps (i+1)
def Xac:Form->Form
 |.alias _=>.ex 1000
 |f=>f
def Wa4 (nv:Nat)(eC:List St)(old:List Pos)(k:Nat):Nat->Nat->List Pos->List Pos
 |0,_,acc=>acc
 | n + 1, j, acc =>
  let f:=Ibj nv k j eC
  let f:=match Ebz old k j,f with
   | some f0, .keep l => match eC with
    |s::_=>Laq (Xac f0) (Yaj s l)
    |[]=>.dead
   |some f0,f=>Laq (Xac f0) f
   |none,f=>f
  let f:=bif Ibf f then (match aliasOf eC k j acc 0 with|some i=>.alias i|none=>f) else f
  Wa4 nv eC old k n (j+1) (bif Ibe f then acc else acc++[⟨k,j,f⟩])
def Eb6 (eC:List St)(k:Nat):Bool :=
 match eC with
 |s::rest=>rest.all fun s'=>War (s.get k) (s'.get k)&&(match s.get k with | some (.slot (some _) _)=>false | some (.slot _ (.tup _))=>false | some (.slot _ .dead)=>false | some _=>true | none=>false)
 |[]=>false
def Eb5 (eC:List St)(k:Nat):Bool :=
 match eC with
 |[s]=>War (s.get k) (s.get k)
 |_=>Eb6 eC k
def range (a:Nat):Nat->List Nat
 |0=>[]
 |n+1=>a::range (a+1) n
def Lal (E:Env)(nb:Nat)(live:Nat)(eC:List St):List Nat :=
 ((range E.ntmps E.ngh).filter fun t=>Eb5 eC (kT t)).map kT++((range 0 E.ntmps).filter fun t=>Tbj live t&&Eb5 eC (kT t)).map kT++((range 0 nb).filter fun b=>Eb5 eC (kB b)).map kB
def Oaj (nv:Nat)(eC:List St)(old:List Pos):List Nat->List Pos->List Pos
  |[],acc=>acc
  | k :: ks, acc => Oaj nv eC old ks (match eC with
     |s::_=>Wa4 nv eC old k (Fbo (s.get k)) 0 acc
     |[]=>acc)
def Dbp (nv:Nat)(eC:List St)(old:List Pos)(ks:List Nat):List Pos:=Oaj nv eC old ks []
def Ebi (c:aP)(j:Nat)(l:aO):aP :=
 match c with
 |.slot g (.one _)=>.slot g (match l with | .dead=>.dead | l=>.one l)
 |.slot g (.agg ls)=>.slot g (.agg (ls.set j l))
 |.box ro ls=>.box ro (ls.set j l)
 |c=>c
def jN (nv nr:Nat):List Pos->Nat->St->St
 |[],_,s=>s
 | p :: ps, i, s =>
  let put (l:aO) (s:St):St:=match s.get p.k with
   |some c=>s.put p.k (some (Ebi c p.j l))
   |none=>s
  match p.f with
  |.sc=>jN nv nr ps (i+1) (put (.sc (.v (nv+i))) s)
  |.ex m=>jN nv nr ps (i+1) ((put (.ex (nr+i)) s).put (kR (nr+i)) (some (.root (.v (nv+i)) m 0 .live)))
  |.sn=>jN nv nr ps (i+1) (put (.sn [] .no false (.v (nv+i))) s)
  |.nil z=>jN nv nr ps (i+1) (put (.sn [] .no true (.v (nv+i))) s)
  |.rp z=>jN nv nr ps (i+1) (put (.rp [] z (.v (nv+i))) s)
  |.pn=>jN nv nr ps (i+1) (put .pn s)
  |.alias a=>jN nv nr ps (i+1) (put (.ex (nr+a)) s)
  |_=>jN nv nr ps (i+1) (put .dead s)
def Cbd (s:St)(k j:Nat):List Nat :=
 match vS k j s with
 |.ex r=>[r]
 |.sn [(r,_)] .view _ _=>[r]
 |_=>[]
def Qbs:Form->Bool
 |.sn=>true
 |.rp _=>true
 |_=>false
def Qbt:Form->Bool
 |.ex _=>true
 |.alias _=>true
 |_=>false
def Oah (nv:Nat)(ae:List Pos)(eC:List St):List Nat->St->St
 |[],s=>s
 | r :: rs, s =>
  let taken:=ae.any fun p=>Qbt p.f&&eC.any fun s'=>has (Cbd s' p.k p.j) r
  let froz:=ae.any fun p=>Qbs p.f&&eC.any fun s'=>has (Baf (vS p.k p.j s')) r
  let sameX:=match eC with
   | s0 :: rest => match s0.get (kR r) with
    | some (.root x m v st) => aX nv x && !(Aax st .gone) && rest.all fun s' => match s'.get (kR r) with
     |some (.root x' _ _ qf)=>x.beq0 x'&&!(Aax qf .gone)
     |_=>false
    |_=>false
   |[]=>false
  let c:Option aP :=
   bif taken then some (.root (.c .hole) 0 0 .gone)
   else bif Saz nv r eC&&!froz then (match eC with|s0::_=>s0.get (kR r)|[]=>none)
   else bif sameX then (match eC with|s0::_=>(match s0.get (kR r) with|some (.root x m v _)=>some (.root x m v .frozen)|c=>c)|[]=>none)
   else some (.root (.c .hole) 0 0 .gone)
  Oah nv ae eC rs (s.put (kR r) c)
def Lad (s:St):List Nat->Tr aP->Tr aP
 |[],t=>t
 |k::ks,t=>Lad s ks (t.set 16 k (s.get k))
def template (E:Env)(nv nb nr cN:Nat)(eC:List St)(keys:List Nat)(ae:List Pos):St :=
 match eC with
 |[]=>⟨.nil,nv,nb,nr,0⟩
 | s :: _ =>
  let s1:St:=⟨Lad s keys .nil,nv+ae.length,nb,cN+ae.length,s.nt⟩
  jN nv cN ae 0 (Oah nv ae eC (range 0 nr) s1)
def Ob9 (j:Nat)(l:aO):aP->Option aP
 |.slot none (.one _)=>bif Nat.beq j 0 then some (.slot none (.one l)) else none
 |.slot none (.agg ls)=>some (.slot none (.agg (ls.set j l)))
 |.box ro ls=>some (.box ro (ls.set j l))
 |_=>none
def putAt (k j:Nat)(l:aO)(s:St):St :=
 match (s.get k).bind (Ob9 j l) with
 |some c=>s.put k (some c)
 |none=>s
def Ka6 (E:Env)(p:Pos)(nr i:Nat)(s:St):Option (List Step×St×aI) :=
 let put (l:aO) (s:St):St:=putAt p.k p.j l s
 let rNew:=nr+i
 match p.f,vS p.k p.j s with
 |.sc,.sc x=>some ([],s,x)
 | .alias a, .ex r => match s.get (kR r) with
  |some (.root _ _ _ (.fwd r'))=>bif Nat.beq r' (nr+a) then some ([],put (.ex (nr+a)) s,.c .undef) else jI 5001
  |_=>jI 5002
 |.nil z,.sn [] .no true x=>some ([],s,x)
 | .ex m, .ex r => match s.get (kR r) with
  |some (.root x m' v .live)=>bif Nat.ble m m' then some ([],put (.ex rNew) (s.puts [(kR r,.root (.c .hole) 0 0 (.fwd rNew)),(kR rNew,.root x m 0 .live)]),x) else jI 5003
  |_=>jI 5004
 |.ex m,.sn [] _ true (.c (.rows z []))=>some ([],put (.ex rNew) (s.puts [(kR rNew,.root (.c (.rows z [])) m 0 .live)]),.c (.rows z []))
 | .ex m, .sn [(r, k)] .view _ x => match s.get (kR r) with
  |some (.root _ m' v .live)=>bif Nat.ble m m'&&Nat.beq v k then some ([],put (.ex rNew) (s.puts [(kR r,.root (.c .hole) 0 0 .gone),(kR rNew,.root x m 0 .live)]),x) else jI 5005
  |_=>jI 5006
 | .sn, l =>
  match ((do let s <- xD l;let fr <- dH (s.deps.map (·.1));RdM.ret (s.x,fr):RdM (aI×List (Nat×aP)))).eval s.get with
  |some (x,fr)=>some ([],put (.sn [] .no false x) (s.puts fr),x)
  |none=>jI 5007
 |.rp z,.pn=>some ([],put (.rp [] z (.c (.rows z []))) s,.c (.rows z []))
 | .rp z, .rp deps z' x =>
  match ((do let d <- vF deps;dH (d.map (·.1)):RdM (List (Nat×aP)))).eval s.get with
  |some fr=>some ([],put (.rp [] z x) (s.puts fr),x)
  |none=>jI 5008
 | .rp z, .pe l z' i 0 =>
  match ((do let s <- xD l;let fr <- dH (s.deps.map (·.1));RdM.ret (s.x,fr):RdM (aI×List (Nat×aP)))).eval s.get with
  |some (x,fr)=>some ([.prim (.one z') [x,i] 1],{ (put (.rp [] z (.v s.nv)) (s.puts fr)) with nv:=s.nv+1 },.v s.nv)
  |none=>jI 5009
 |.pn,.pn=>some ([],s,.c .undef)
 |.dead,_=>some ([],s,.c .undef)
 |_,_=>jI (4000000+1000*p.k+p.j)
def jD (E:Env)(nr:Nat):List Pos->Nat->St->Option (List Step×St×List aI)
 |[],_,s=>some ([],s,[])
 | p :: ps, i, s => do
  let (l,s,x) <- Ka6 E p nr i s
  let (l',s,xs) <- jD E nr ps (i+1) s
  some (l++l',s,x::xs)
def gG (τ:St):List Nat->St->Option St
 |[],s=>some s
 | r :: rs, s =>
  match τ.get (kR r),s.get (kR r) with
  |some (.root _ _ _ .frozen),some (.root x m v .live)=>gG τ rs (s.put (kR r) (some (.root x m v .frozen)))
  |_,_=>gG τ rs s
def Nah (n:Nat)(xs:List aI):aI->aI
 |.v i=>bif Sbg i n then .v i else xs.getD (i-n) (.c .hole)
 |.c d=>.c d
def Pbs (n:Nat)(xs:List aI):Pth->Pth
 |.path p=>.path (p.map fun x=>(Nah n xs x.1,x.2))
 |.suf sz lo=>.suf sz (Nah n xs lo)
 |p=>p
def Saq (bb b8 r:Nat):Nat:=bif Nat.ble bb r then b8+(r-bb) else r
mutual
def aO.sub (n:Nat)(xs:List aI)(bb b8:Nat):aO->aO
 |.sc x=>.sc (Nah n xs x)
 |.su g x=>.su (Nah n xs g.1,g.2) (Nah n xs x)
 |.ex r=>.ex (Saq bb b8 r)
 |.sn d p e x=>.sn d (Pbs n xs p) e (Nah n xs x)
 |.pe l s i o=>.pe (l.sub n xs bb b8) s (Nah n xs i) o
 |.rp d s x=>.rp d s (Nah n xs x)
 |.clo f l=>.clo f (gH n xs bb b8 l)
 |l=>l
def gH (n:Nat)(xs:List aI)(bb b8:Nat):List aO->List aO
 |[]=>[]
 |a::r=>a.sub n xs bb b8::gH n xs bb b8 r
end
def xO (a b:aO):Bool :=
 match a with
 |.dead=>Nai b
 | .sn d .no false x => match b with
  |.sn d' _ _ x'=>wG d d'&&x.beq0 x'
  |_=>false
 |a=>a.beq0 b
def dR:List aO->List aO->Bool
 |[],[]=>true
 |a::r,b::s=>xO a b&&dR r s
 |_,_=>false
def bS (n:Nat)(xs:List aI)(bb b8:Nat):Option aP->Option aP->Bool
 |none,_=>true
 |some (.slot none .dead),_=>true
 |some (.slot none (.one a)),some (.slot none (.one b))=>xO (a.sub n xs bb b8) b
 |some (.slot none (.agg a)),some (.slot none (.agg b))=>dR (gH n xs bb b8 a) b
 |some (.box r a),some (.box r' b)=>(r==r')&&dR (gH n xs bb b8 a) b
 |some (.root x m v .gone),_=>true
 |some (.root x m v st),some (.root x' m' v' qf)=>Aax st qf&&Nat.beq m m'&&Nat.beq v v'&&(Nah n xs x).beq0 x'
 |_,_=>false
def Bap (n:Nat)(xs:List aI)(bb b8:Nat)(τ s:St):List Nat->Bool
 |[]=>true
 |k::ks=>bS n xs bb b8 (τ.get k) (s.get k)&&Bap n xs bb b8 τ s ks
def Bar (n:Nat)(xs:List aI)(bb b8:Nat)(τ s:St):List Nat->Bool
 |[]=>true
 |r::rs=>bS n xs bb b8 (τ.get (kR r)) (s.get (kR (Saq bb b8 r)))&&Bar n xs bb b8 τ s rs
def mE (E:Env)(n:Nat)(xs:List aI)(cq bb b8 len:Nat)(τ s:St):Bool :=
 Bap n xs bb b8 τ s ((range 0 (E.ntmps+E.ngh)).map kT++(range 0 τ.nb).map kB)&&Bar n xs bb b8 τ s (range 0 cq++range bb len)
def kH (b c k:Nat):Nat:=bif Nat.beq k b then c else bif Nat.beq k c then b else k
mutual
def aO.swap (b c:Nat):aO->aO
 |.px k o=>.px (kH b c k) o
 |.pe l s i o=>.pe (l.swap b c) s i o
 |.clo f l=>.clo f (bQ b c l)
 |l=>l
def bQ (b c:Nat):List aO->List aO
 |[]=>[]
 |a::r=>a.swap b c::bQ b c r
end
def Waj (b c:Nat):SV->SV
 |.dead=>.dead
 |.one l=>.one (l.swap b c)
 |.agg ls=>.agg (bQ b c ls)
 |.tup ts=>.tup (ts.map fun t=>(t.1,bQ b c t.2))
def mP (b c:Nat):aP->aP
 |.slot g v=>.slot g (Waj b c v)
 |.box ro ls=>.box ro (bQ b c ls)
 |.root x m v st=>.root x m v st
def lI (b c k:Nat):Nat:=bif Nat.beq (k % 3) 1 then kB (kH b c (k / 3)) else k
def Oab (f:Nat->Option aP):List Nat->Tr aP->Tr aP
 |[],t=>t
 |k::ks,t=>Oab f ks (t.set 16 k (f k))
def St.swap (s:St)(b c:Nat):St:={ s with tr:=Oab (fun k=>(s.get (lI b c k)).map (mP b c)) ((range 0 s.nt).map kT++(range 0 s.nb).map kB++(range 0 s.nr).map kR) s.tr }
def Qa5 (E:Env)(τ:St):List Nat->St->St
 |[],s=>s
 | t :: ts, s => Qa5 E τ ts (match τ.get (kT t), s.get (kT t) with
  | some (.slot none (.one (.px b 0))), some (.slot none (.one (.px c 0))) =>
   bif !(Nat.beq b c)&&Nat.ble E.nbx b&&Nat.ble E.nbx c&&Sbg b s.nb&&Sbg c s.nb then s.swap b c else s
  |_,_=>s)
def Hay (E:Env)(n cq bb:Nat)(ae:List Pos)(τ:St)(kind:Kind)(s:St):Option (Tm St):=do
 let (ls,s1,xs) <- jD E s.nr ae 0 { s with nr:=s.nr+ae.length }
 let s2 <- gG τ (range 0 cq) s1
 bif mE E n xs cq bb s.nr ae.length τ s2&&mG s.tr s.nr ae.length&&Nat.ble cq s.nr&&dV s.nv ls&&xs.all (aX (s.nv+bF ls)) then some (nA none (.leaf kind xs s2) ls) else jI 1
def coerce (E:Env)(n cq bb:Nat)(ae:List Pos)(τ:St)(kind:Kind)(s:St):Option (Tm St):=Hay E n cq bb ae τ kind (Qa5 E τ E.pxs s)
def Tm.no {β:Type}(f:Kind->Bool):Tm β->Bool
 |.leaf k _ _=>!(f k)
 |.stuck=>true
 |.lt _ _ _ _ k=>k.no f
 |.call _ _ _ _ _ k=>k.no f
 |.ite _ t e=>t.no f&&e.no f
 |.bind _ t k=>t.no f&&k.no f
 |.loop _ b=>b.no f
def nZ:Kind->Bool
 |.fall=>true
 |_=>false
def Pay (id:Nat):Kind->Bool
 |.fall=>true
 |.exit j=>Nat.beq id j
 |_=>false
def nL (id:Nat):Kind->Bool
 |.exit j=>Nat.beq id j
 |_=>false
def Lat (i:Nat):Kind->Bool
 |.yield j=>Nat.beq i j
 |_=>false
def Tae:Kind->Bool
 |.cont=>true
 |_=>false
def Tm.falls:Tm St->List St
 |.leaf .fall _ s=>[s]
 |.leaf _ _ _=>[]
 |.stuck=>[]
 |.lt _ _ _ _ k=>k.falls
 |.call _ _ _ _ _ k=>k.falls
 |.ite _ t e=>t.falls++e.falls
 |.bind _ _ k=>k.falls
 |.loop _ _=>[]
def Tm.exits (id:Nat):Tm St->List St
 |.leaf (.exit j) _ s=>bif Nat.beq j id then [s] else []
 |.leaf _ _ _=>[]
 |.stuck=>[]
 |.lt _ _ _ _ k=>k.exits id
 |.call _ _ _ _ _ k=>k.exits id
 |.ite _ t e=>t.exits id++e.exits id
 |.bind _ t k=>t.exits id++k.exits id
 |.loop _ b=>b.exits id
def Tm.tailExits (id:Nat):Tm St->List St
 |.leaf (.exit j) _ s=>bif Nat.beq j id then [s] else []
 |.leaf _ _ _=>[]
 |.stuck=>[]
 |.lt _ _ _ _ k=>k.tailExits id
 |.call _ _ _ _ _ k=>k.tailExits id
 |.ite _ t e=>t.tailExits id++e.tailExits id
 |.bind _ t k=>k.tailExits id
 |.loop _ b=>[]
def Tm.graft (f:St->Option (Tm St)):Tm St->Option (Tm St)
 |.leaf .fall _ s=>f s
 |.leaf k xs s=>some (.leaf k xs s)
 |.stuck=>some .stuck
 |.lt g p xs n k=>(k.graft f).map fun k=>.lt g p xs n k
 |.call g c xs n o k=>(k.graft f).map fun k=>.call g c xs n o k
 |.ite c t e=>(t.graft f).bind fun t=>(e.graft f).map fun e=>.ite c t e
 |.bind i t k=>bif t.no nZ then (k.graft f).map fun k=>.bind i t k else none
 |.loop i b=>bif b.no nZ then some (.loop i b) else none
def Tm.exitFall (id:Nat):Tm St->Option (Tm St)
 |.leaf (.exit j) xs s=>some (bif Nat.beq id j then .leaf .fall [] s else .leaf (.exit j) xs s)
 |.leaf k xs s=>some (.leaf k xs s)
 |.stuck=>some .stuck
 |.lt g p xs n k=>(k.exitFall id).map fun k=>.lt g p xs n k
 |.call g c xs n o k=>(k.exitFall id).map fun k=>.call g c xs n o k
 |.ite c t e=>(t.exitFall id).bind fun t=>(e.exitFall id).map fun e=>.ite c t e
 |.bind i t k=>bif t.no (nL id) then (k.exitFall id).map fun k=>.bind i t k else none
 |.loop i b=>bif b.no (nL id) then some (.loop i b) else none
def Tm.turn (out:Kind)(fh:Kind->Bool)(f:St->Option (Tm St)):Tm St->Option (Tm St)
 |.leaf k xs s=>bif fh k then f s else some (.leaf k xs s)
 |.stuck=>some .stuck
 |.lt g p xs n k=>(k.turn out fh f).map fun k=>.lt g p xs n k
 |.call g c xs n o k=>(k.turn out fh f).map fun k=>.call g c xs n o k
 |.ite c t e=>(t.turn out fh f).bind fun t=>(e.turn out fh f).map fun e=>.ite c t e
 | .bind i t k =>
  bif Lat i out then (bif t.no fh then (k.turn out fh f).map fun k=>.bind i t k else none)
  else (t.turn out fh f).bind fun t=>(k.turn out fh f).map fun k=>.bind i t k
 |.loop i b=>bif Tae out then (bif b.no fh then some (.loop i b) else none) else (b.turn out fh f).map fun b=>.loop i b
def Hb8 (l:List St)(n:Nat):Nat:=l.foldl (fun m s=>max m s.nr) n
def Pah (τ:St)(cq:Nat):List (Nat×Nat)->Bool
 |[]=>true
 | (r, k) :: d => Sbg r cq && (match τ.get (kR r) with
  |some (.root _ _ _ .gone)=>true
  |some (.root _ _ _ (.fwd _))=>true
  |some (.root _ _ v _)=>Nat.ble k v
  |_=>false)&&Pah τ cq d
mutual
def aO.wf (τ:St)(cq:Nat):aO->Bool
 |.ex r=>(τ.get (kR r)).isSome
 |.sn d _ _ _=>Pah τ cq d
 |.px b _=>(τ.get (kB b)).isSome
 |.pe l _ _ _=>l.wf τ cq
 |.rp d _ _=>Pah τ cq d
 |.clo _ l=>mK τ cq l
 |_=>true
def mK (τ:St)(cq:Nat):List aO->Bool
 |[]=>true
 |a::r=>a.wf τ cq&&mK τ cq r
end
def qW (τ:St)(cq k:Nat):Option aP->Bool
 |none=>true
 | some c => bR τ.nv c && (match c with
  |.slot none .dead=>Nat.beq (k % 3) 0
  |.slot none (.one l)=>Nat.beq (k % 3) 0&&l.wf τ cq
  |.slot none (.agg ls)=>Nat.beq (k % 3) 0&&mK τ cq ls
  |.box _ ls=>Nat.beq (k % 3) 1&&mK τ cq ls
  |.root _ _ _ (.fwd _)=>false
  |.root _ _ _ _=>Nat.beq (k % 3) 2
  |_=>false)
def Faq (τ:St)(cq:Nat):List Nat->Bool
 |[]=>true
 |k::ks=>qW τ cq k (τ.get k)&&Faq τ cq ks
def Sa8 (τ:St):List Nat->Bool
 |[]=>true
 |k::ks=>(τ.get k).isNone&&Sa8 τ ks
def Dar (E:Env)(s0:St)(bb len:Nat)(τ:St):Bool :=
 Nat.beq τ.nv (s0.nv+len)&&Nat.ble E.ntmps τ.nt&&Nat.ble τ.nt (E.ntmps+E.ngh)&&Nat.beq τ.nr (bb+len)&&Nat.ble s0.nr bb &&
 Sa8 τ ((range s0.nr (bb-s0.nr)).map kR)&&Faq τ s0.nr ((range 0 τ.nt).map kT++(range 0 τ.nb).map kB++((range 0 s0.nr++range bb len).map kR))
def join (E:Env)(live:Nat)(s0:St)(i:Nat)(fh:Kind->Bool)(ends:List St)(t:Tm St):Option (Tm St×St) :=
 let keys:=Lal E s0.nb live ends
 let ae:=Dbp s0.nv ends [] keys
 let cN:=Hb8 ends s0.nr
 let τ:=template E s0.nv s0.nb s0.nr cN ends keys ae
 bif Dar E s0 cN ae.length τ then (t.turn (.yield i) fh (coerce E s0.nv s0.nr cN ae τ (.yield i))).map fun t=>(t,τ) else jI 6
def Qa3 (a b:List Pos):Bool :=
 match a,b with
 |[],[]=>true
 | p :: ps, q :: qs => Nat.beq p.k q.k && Nat.beq p.j q.j && (match p.f, q.f with
  |.sc,.sc=>true
  |.nil _,.nil _=>true
  |.ex m,.ex m'=>Nat.beq m m'
  |.sn,.sn=>true
  |.pn,.pn=>true
  |.rp _,.rp _=>true
  |.dead,.dead=>true
  |.alias i,.alias j=>Nat.beq i j
  |_,_=>false)&&Qa3 ps qs
 |_,_=>false
def Na6 (τ:St)(ends:List St):List Nat->Bool
 |[]=>true
 | r :: rs => (match τ.get (kR r) with
  | some (.root _ m v st) => Aax st .gone || ends.all fun s => match s.get (kR r) with
   |some (.root _ m' v' qf)=>(Nat.beq m m'&&Nat.beq v v'&&Aax st qf)||(Aax st .frozen&&Aax qf .live)
   |_=>false
  |_=>true)&&Na6 τ ends rs
def Gau (E:Env)(live:Nat)(s:St)(body:St->Option (Tm St)):Nat->List Pos->List Nat->Nat->List St->Option (Tm St)
 |0,_,_,_,_=>jI 3
 | fuel + 1, ae, keys, cN, seen =>
  let τ:=template E s.nv s.nb s.nr cN (s::seen) keys ae
  match body τ with
  |none=>none
  | some tb =>
   let ends:=tb.falls.map (Qa5 E s E.pxs)
   let keys':=Lal E s.nb live (s::ends)
   let plan':=Dbp s.nv (s::ends) ae keys'
   bif Qa3 ae plan'&&Nat.beq keys.length keys'.length&&Na6 τ ends (range 0 s.nr) then do
    let (pre,s1,xs) <- jD E s.nr ae 0 { s with nr:=s.nr+ae.length }
    let s2 <- gG τ (range 0 s.nr) s1
    bif mE E s.nv xs s.nr cN s.nr ae.length τ s2&&mG s.tr s.nr ae.length&&pre.isEmpty&&Dar E s cN ae.length τ then do
     let tb <- tb.turn .cont nZ (coerce E s.nv s.nr cN ae τ .cont)
     some (.loop xs tb)
    else jI 2
   else Gau E live s body fuel plan' keys' (Hb8 ends cN) ends
def Zaa:Operand->Option Bool
 |.const (.bool b)=>some b
 |_=>none
def Oa3:Code->Nat
 |.region r _ _=>r
 |.seq a _=>Oa3 a
 |.cond _ a _=>Oa3 a
 |.block _ b=>Oa3 b
 |.loop b=>Oa3 b
 |_=>0
def hintOf:List (Nat×List (Nat×Nat×Nat×Nat)×List Nat×Nat×List Nat)->Nat->Option (List (Nat×Nat×Nat×Nat)×List Nat×Nat×List Nat)
 |[],_=>none
 |(k,h)::r,n=>bif Nat.beq k n then some h else hintOf r n
def Ibi (c z:Nat):Form :=
 match c with
 |0=>.sc
 |1=>.nil z
 |2=>.ex z
 |3=>.sn
 |4=>.pn
 |5=>.rp z
 |6=>.alias z
 |_=>.dead
def Dbl (s:St):List Nat->St->St
 |[],t=>t
 | d :: ds, t => Dbl s ds (t.put (kR (d / 3)) (match d % 3 with
  |0=>some (.root (.c .hole) 0 0 .gone)
  |1=>s.get (kR (d / 3))
  | _ => match s.get (kR (d / 3)) with
   |some (.root x m v _)=>some (.root x m v .frozen)
   |c=>c))
def Lai (E:Env)(s:St)(body:St->Option (Tm St))(h:List (Nat×Nat×Nat×Nat)×List Nat×Nat×List Nat):Option (Tm St) :=
 let ae:List Pos:=h.1.map fun p=>⟨p.1,p.2.1,Ibi p.2.2.1 p.2.2.2⟩
 let cN:=s.nr+h.2.2.1
 let τ:=jN s.nv cN ae 0 (Dbl s h.2.2.2 ⟨Lad s h.2.1 .nil,s.nv+ae.length,s.nb,cN+ae.length,s.nt⟩)
 match body τ with
 |none=>none
 | some tb => do
  let (pre,s1,xs) <- jD E s.nr ae 0 { s with nr:=s.nr+ae.length }
  let s2 <- gG τ (range 0 s.nr) s1
  bif mE E s.nv xs s.nr cN s.nr ae.length τ s2&&mG s.tr s.nr ae.length&&pre.isEmpty&&Dar E s cN ae.length τ then do
   let tb <- tb.turn .cont nZ (coerce E s.nv s.nr cN ae τ .cont)
   some (.loop xs tb)
  else jI 2
def sxC (E:Env)(l7:Bool)(rb:Nat):Code->List (Nat×Nat)->Nat->St->Option (Tm St)
 |.skip,_,_,s=>some (.leaf .fall [] s)
 |.label _,_,_,s=>some (.leaf .fall [] s)
 |.ret,_,_,s=>some (.leaf .ret [] s)
 |.exit id,_,_,s=>some (.leaf (.exit id) [] s)
 |.region gf ops draw,_,_,s=>some (Kar E l7 gf ops.toList draw s)
 | .seq a b, ex, live, s => do
  let z8:=Iam b ex rb live
  let t <- sxC E l7 rb a ex z8 s
  bif t.no nZ then some t else
  match t.falls with
  |[_]=>t.graft (sxC E l7 rb b ex live)
  | ends => do
   let (t,τ) <- join E z8 s 0 nZ ends t
   let k <- sxC E l7 rb b ex live τ
   some (.bind 0 t k)
 | .cond c a b, ex, live, s =>
  match Zaa c with
  |some true=>sxC E l7 rb a ex live s
  |some false=>sxC E l7 rb b ex live s
  |none =>
  match s.get (match c with|.tmp t=>kT t|_=>0),c with
  | some (.slot none (.one (.sc x))), .tmp t => bif !(aX s.nv x && Sbg t E.ntmps) then some .stuck else do
   let t <- sxC E l7 rb a ex live s
   let e <- sxC E l7 rb b ex live s
   some (.ite x t e)
  |_,_=>some .stuck
 | .block id b, ex, live, s => do
  let t <- sxC E l7 rb b ((id,live)::ex) live s
  bif t.no (nL id) then some t else
  match t.falls,t.exits id,t.tailExits id with
  |[],[_],[_]=>t.exitFall id
  | fs, es, _ => do
   let (t,τ) <- join E live s (id+1) (Pay id) (fs++es) t
   some (.bind (id+1) t (.leaf .fall [] τ))
 | .loop b, ex, _, s =>
  let live':=Iam (.loop b) ex rb 0
  match hintOf E.hints (Oa3 b) with
  |some h=>Lai E s (sxC E l7 rb b ex live') h
  |none=>Gau E live' s (sxC E l7 rb b ex live') 9 [] (Lal E s.nb live' [s]) s.nr []
 |.scope _,_,_,_=>some .stuck
 |.goto _,_,_,_=>some .stuck
 |.rangeFunc _ _ _ _,_,_,_=>some .stuck
 |.refuse _,_,_,_=>some .stuck
def gZ (i nr:Nat):LS->aO×List (Nat×aP)×Nat×Nat
 |.sc=>(.sc (.v i),[],i+1,nr)
 |.fz nie=>(.sn [] .no nie (.v i),[],i+1,nr)
 |.mu m=>(.ex nr,[(kR nr,.root (.v i) m 0 .live)],i+1,nr+1)
 |.ow m=>(.ex nr,[(kR nr,.root (.v i) m 0 .live)],i+1,nr+1)
 |.px b=>(.px b 0,[],i,nr)
 |.clo f cs=>(.clo f (cs.map fun c=>match c with | .px b=>.px b 0 | _=>.dead),[],i,nr)
 |.rp z=>(.rp [] z (.v i),[],i+1,nr)
def dI (i nr:Nat):List LS->List aO×List (Nat×aP)×Nat×Nat
 |[]=>([],[],i,nr)
 | s :: ss =>
  let (l,u,i,nr):=gZ i nr s
  let (ls,us,i,nr):=dI i nr ss
  (l::ls,u++us,i,nr)
def iT (t i nr:Nat):List (Bool×List LS)->List (Nat×aP)×Nat×Nat
 |[]=>([],i,nr)
 | (a, ss) :: ps =>
  let (ls,u,i,nr):=dI i nr ss
  let (us,i,nr):=iT (t+1) i nr ps
  ((kT t,.slot none (match Sap a ls with|some v=>v|none=>.dead))::u++us,i,nr)
def fT (i nr:Nat):BS->aO×List (Nat×aP)×Nat×Nat
 |.sc=>(.sc (.v i),[],i+1,nr)
 |.fz nie=>(.sn [] .no nie (.v i),[],i+1,nr)
 |.ow m=>(.ex nr,[(kR nr,.root (.v i) m 0 .live)],i+1,nr+1)
 |.ot=>(.dead,[],i,nr)
def fO (i nr:Nat):List (BS×BO)->List aO×List (Nat×aP)×Nat×Nat
 |[]=>([],[],i,nr)
 | (s, _) :: ss =>
  let (l,u,i,nr):=fT i nr s
  let (ls,us,i,nr):=fO i nr ss
  (l::ls,u++us,i,nr)
def jR (b i nr:Nat):List (Bool×List (BS×BO))->List (Nat×aP)×Nat×Nat
 |[]=>([],i,nr)
 | (ro, cs) :: bs =>
  let (ls,u,i,nr):=fO i nr cs
  let (us,i,nr):=jR (b+1) i nr bs
  ((kB b,.box ro ls)::u++us,i,nr)
def dW (r:Nat):List LS->List Nat
 |[]=>[]
 |.mu _::ss=>r::dW (r+1) ss
 |.ow _::ss=>dW (r+1) ss
 |_::ss=>dW r ss
def qU (t:Nat):List aO->List (Nat×aP)
 |[]=>[]
 |l::ls=>(kT t,.slot none (.one l))::qU (t+1) ls
def Oaz (s:Sig):List aO:=(dW 0 (s.params.flatMap (·.2))).map aO.ex++(range 0 s.boxes.length).map fun b=>aO.px b 0
def mD (s:Sig):Nat:=(Oaz s).length
def entry (s:Sig)(ntmps:Nat):St :=
 let (u,i,nr):=iT 0 0 0 s.params
 let (v,i,nr):=jR 0 i nr s.boxes
 (St.puts ⟨.nil,i,s.boxes.length,nr,ntmps+mD s⟩ (u++v++qU ntmps (Oaz s)))
structure Fin where
 xs:List aI
 own:List (Nat×Nat×Nat)
 q:Nat
 frz:List Nat
 lets:List Step
 bxs:List Nat
def yU (F:Fin)(r m:Nat)(x:aI):Fin:={ F with xs:=F.xs++[x],own:=F.own++[(r,2*F.q,m)],q:=F.q+1 }
def Tan (F:Fin)(z:Nat):Fin:={ F with xs:=F.xs++[.c (.rows z [])],q:=F.q+1 }
def Oa5 (F:Fin)(m:Nat):aO->RdM Fin
 |.sn [] _ true (.c (.rows z []))=>.ret (Tan F z)
 | .ex r => do
  match <- rdK (kR r) with
  | some (.root x m' v .live) => do
   bI (Nat.ble m m')
   .ret (yU F r m x)
  |_=>.no
 | .sn [(r, k)] .view _ x => do
  match <- rdK (kR r) with
  | some (.root _ m' v .live) => do
   bI (Nat.ble m m'&&Nat.beq v k)
   .ret (yU F r m x)
  |_=>.no
 |_=>.no
def Oa7 (F:Fin)(l:aO):RdM Fin:=do
 let s <- xD l
 .ret { F with xs:=F.xs++[s.x],frz:=F.frz++s.deps.map (·.1) }
def Hao (nv:Nat)(F:Fin):LR->aO->RdM Fin
 |.sc,.sc x=>.ret { F with xs:=F.xs++[x] }
 |.fz,l=>Oa7 F l
 |.ow m,l=>Oa5 F m l
 |.rp z,.pn=>.ret { F with xs:=F.xs++[.c (.rows z [])] }
 | .rp z, .rp deps z' x => do
  let d <- vF deps
  .ret { F with xs:=F.xs++[x],frz:=F.frz++d.map (·.1) }
 | .rp z, .pe l z' i 0 => do
  let s <- xD l
  .ret { F with xs:=F.xs++[.v (nv+bF F.lets)],frz:=F.frz++s.deps.map (·.1),lets:=F.lets++[.prim (.one z') [s.x,i] 1] }
 |_,_=>.no
def Daa (F:Fin):BO->aO->RdM Fin
 |.sc,.sc x=>.ret { F with xs:=F.xs++[x] }
 |.fz,l=>Oa7 F l
 |.ow m,l=>Oa5 F m l
 |.dead,l=>bif Nai l then .ret { F with xs:=F.xs++[.c .hole] } else .no
 |_,_=>.no
def iK:Fin->List BO->List aO->RdM Fin
 |F,[],[]=>.ret F
 | F, s :: ss, l :: ls => do
  let F <- Daa F s l
  iK F ss ls
 |_,_,_=>.no
def gK (nv:Nat):Fin->List LR->List aO->RdM Fin
 |F,[],[]=>.ret F
 | F, s :: ss, l :: ls => do
  let F <- (match s,l with
   | .bx cs, .px b 0 => do
    match <- rdK (kB b) with
    |some (.box false bs)=>iK { F with bxs:=F.bxs++[b] } cs bs
    |_=>.no
   |s,l=>Hao nv F s l)
  gK nv F ss ls
 |_,_,_=>.no
def nU (E:Env)(nv:Nat):Fin->List (Bool×List LR)->List ResultVar->RdM Fin
 |F,[],[]=>.ret F
 | F, (a, ss) :: rs, .tmp t :: vs => do
  match <- rdK (kT t) with
  | some (.slot none v) => do
   bI (Sbg t E.ntmps)
   let ls <- mJ (jE a v)
   let F <- gK nv F ss ls
   nU E nv F rs vs
  |_=>.no
 | F, (a, ss) :: rs, .cell t ty :: vs => do
  let ti <- mJ (E.ti ty)
  bI ((a==ti.agg)&&Nat.beq ss.length ti.size&&(ti.agg||Nat.beq ti.size 1)&&Sbg t E.ntmps)
  match <- rdK (kT t) with
  | some (.slot none (.one (.px b off))) => do
   match <- rdK (kB b) with
   | some (.box _ ls) => do
    let F <- gK nv F ss ((ls.drop off).take ti.size)
    nU E nv F rs vs
   |_=>.no
  |_=>.no
 |_,_,_=>.no
def dN:List LS->List Nat
 |[]=>[]
 |.mu m::ss=>m::dN ss
 |_::ss=>dN ss
def Ead (t:Nat):Nat->List Nat->Fin->RdM Fin
 |_,[],F=>.ret F
 | j, d :: ds, F => do
  match <- rdK (kT (t+j)) with
  | some (.slot none (.one (.ex r))) => do
   match <- rdK (kR r) with
   | some (.root x m _ .live) => do
    bI (Nat.ble d m)
    Ead t (j+1) ds { F with xs:=F.xs++[x],own:=F.own++[(r,2*j+1,d)] }
   |_=>.no
  |_=>.no
def pF (t:Nat):Fin->Nat->List (Bool×List (BS×BO))->RdM Fin
 |F,_,[]=>.ret F
 | F, b, (ro, cs) :: r => do
  bif ro then pF t F (b+1) r else
  match <- rdK (kT (t+b)) with
  | some (.slot none (.one (.px b' 0))) => do
   bI (Nat.beq b' b)
   match <- rdK (kB b) with
   | some (.box false ls) => do
    let F <- iK F (cs.map (·.2)) ls
    pF t F (b+1) r
   |_=>.no
  |_=>.no
def Dbu (E:Env)(s:Sig)(results:List ResultVar)(nv:Nat):RdM Fin:=do
 let F <- nU E nv ⟨[],[],0,[],[],[]⟩ s.results results
 let ms:=dN (s.params.flatMap (·.2))
 let F <- Ead E.ntmps 0 ms F
 pF (E.ntmps+ms.length) F 0 s.boxes
def finish (E:Env)(s:Sig)(results:List ResultVar)(st:St):Option (Tm St) :=
 match (Dbu E s results st.nv).eval st.get with
 | some F =>
  bif distinct (F.own.map (·.1))&&!(meets (F.own.map (·.1)) F.frz)&&!(F.bxs.any fun b=>Sbg b s.boxes.length)&&dV st.nv F.lets then
   some (nA none (.leaf .ret F.xs st) F.lets) else none
 |none=>none
def Dbi (E:Env)(l7:Bool)(s:Sig)(body:Code)(live:Nat):Option (Tm St) :=
 let e:=entry s E.ntmps
 bif Faq e e.nr ((range 0 e.nt).map kT++(range 0 e.nb).map kB++(range 0 e.nr).map kR) then sxC E l7 live body [] live e else jI 7
def Ebu (l:List ResultVar):Nat:=l.foldl (fun m r=>match r with|.tmp t=>m ||| 2 ^ t|.cell t _=>m ||| 2 ^ t) 0
def Mbe:Kind->Bool
 |.ret=>true
 |.fall=>true
 |_=>false
def Uai (E:Env)(s:Sig)(fn:Func):Option (Tm Unit) :=
 match fn.body with
 |none=>none
 | some c => bif !(Nat.ble s.params.length fn.ntmps) then none else do
  let E:={ E with ntmps:=fn.ntmps,ngh:=mD s,nbx:=s.boxes.length }
  let t <- Dbi E false s c (Ebu fn.results.toList)
  let t <- t.turn .ret Mbe fun st=>(match finish E s fn.results.toList st with|some t=>some t|none=>some .stuck)
  some t.strip
inductive Sc:Value->D->Prop
 |int (k:IntKind) (n:Int):Sc (.int k n) (.int k n)
 |bool (b:Bool):Sc (.bool b) (.bool b)
 |str (l:List UInt8):Sc (.string ⟨l.toArray⟩) (.str l)
inductive Rd (ok:Nat->Prop) (w:World):Value->D->Prop
 |sc {v:Value} {d:D} (h:Sc v d):Rd ok w v d
 |hole (v:Value) (h1:v.oneCell'=true):Rd ok w v .hole
 | rows (A : Option Addr) (a : Addr) (n c sz : Nat) (rs : List (List D)) (vs : Nat -> Nat -> Value)
   (hn:rs.length=n) (hc:n<=c) (hA:n=0\/A=some a) (b7:∀ r∈rs,r.length=sz)
   (aq:∀ i r,rs[i]?=some r->∀ j d,r[j]?=some d->ok a.block/\w.cell? (a.add (i*sz+j))=some (vs i j))
   (bd:∀ i r,rs[i]?=some r->∀ j d,r[j]?=some d->Rd ok w (vs i j) d) :
   Rd ok w (.slice A n c) (.rows sz rs)
inductive Ow where
 |frz
 |slc (r:Nat) (p:List Nat)
 |box (b:Nat)
 |oth
 deriving DecidableEq
inductive Rp (own:Nat->Ow) (w:World) (r:Nat):List Nat->Nat->Value->D->Prop
 |sc {p:List Nat} {m:Nat} {v:Value} {d:D} (h:Sc v d):Rp own w r p m v d
 |hole {p:List Nat} {m:Nat} (v:Value) (h1:v.oneCell'=true):Rp own w r p m v .hole
 |fz {p:List Nat} {v:Value} {d:D} (h:Rd (fun b=>own b=.frz) w v d):Rp own w r p 0 v d
 | sl {p : List Nat} {m : Nat} (A : Option Addr) (a : Addr) (n c sz : Nat) (rs : List (List D)) (vs : Nat -> Nat -> Value)
   (hn:rs.length=n) (hc:n<=c) (hA:A=some a\/(A=none/\c=0)) (b7:∀ r∈rs,r.length=sz)
   (ab:A=some a->a.spot=none/\own a.block=.slc r p/\∀ k,k<c*sz->∃ u,w.cell? (a.add k)=some u/\w.frozen? (a.add k)=false)
   (aq:∀ i row,rs[i]?=some row->∀ j d,row[j]?=some d->w.cell? (a.add (i*sz+j))=some (vs i j))
   (bd:∀ i row,rs[i]?=some row->∀ j d,row[j]?=some d->Rp own w r (p++[i*sz+j]) m (vs i j) d) :
   Rp own w r p (m+1) (.slice A n c) (.rows sz rs)
def yG (own:Nat->Ow)(w:World)(r:Nat):List Nat->Value->List Nat->Value->Prop
 |_,v,[],u=>u=v
 |q,v,k::p,u=>∃ a n c u',v=.slice (some a) n c/\own a.block=.slc r q/\w.cell? (a.add k)=some u'/\yG own w r (q++[k]) u' p u
theorem eF {w w':World}{a:Addr}(h:w'.heap[a.block]?=w.heap[a.block]?):w'.cell? a=w.cell? a:=by
 unfold World.cell?;rw[h]
theorem jT {w w':World}{a:Addr}(h:w'.heap[a.block]?=w.heap[a.block]?):w'.frozen? a=w.frozen? a:=by
 unfold World.frozen?;rw[h]
theorem add_block (a:Addr)(k:Nat):(a.add k).block=a.block:=by unfold Addr.add;split<;>rfl
theorem add_add (a:Addr)(j k:Nat):(a.add j).add k=a.add (j+k):=by
 unfold Addr.add;by_cases hj:j=0<;>by_cases hk:k=0<;>simp_all<;>omega
theorem Rd.mono {ok za:Nat->Prop}{w w':World}{v:Value}{d:D}(h:Rd ok w v d)
  (hf:∀ b,ok b->za b/\w'.heap[b]?=w.heap[b]?):Rd za w' v d:=by
 induction h with
 |sc h=>exact .sc h
 |hole v h1=>exact .hole v h1
 | rows A a n c sz rs vs hn hc hA b7 aq bd ih =>
  refine .rows A a n c sz rs vs hn hc hA b7 (fun i r hi j d hj=>?_) (fun i r hi j d hj=>ih i r hi j d hj);obtain⟨h1,h2⟩:=aq i r hi j d hj;obtain⟨h3,h4⟩:=hf _ h1;exact⟨h3,(eF (w:=w) (w':=w') (by rw[add_block];exact h4)).trans h2⟩
theorem Rp.mono {own own':Nat->Ow}{w w':World}{r r':Nat}{q q':List Nat}{p:List Nat}{m:Nat}{v:Value}{d:D}(h:Rp own w r p m v d)
  (hz:∀ b,own b=.frz->own' b=.frz/\w'.heap[b]?=w.heap[b]?) :
  ∀ s,p=q++s->(∀ b t,own b=.slc r (q++t)->own' b=.slc r' (q'++t)/\w'.heap[b]?=w.heap[b]?)->Rp own' w' r' (q'++s) m v d:=by
 induction h with
 |sc h=>exact fun _ _ _=>.sc h
 |hole v h1=>exact fun _ _ _=>.hole v h1
 |fz h=>exact fun _ _ _=>.fz (h.mono hz)
 | sl A a n c sz rs vs hn hc hA b7 ab aq bd ih =>
  rename_i p m;intro s hp hs;refine .sl A a n c sz rs vs hn hc hA b7 (fun e=>?_) (fun i row hi j d hj=>?_) (fun i row hi j d hj=>?_)
  ·obtain⟨h1,h2,h3⟩:=ab e
   rw[hp]at h2;obtain⟨h4,h5⟩:=hs _ _ h2;refine⟨h1,h4,fun k hk=>?_⟩;obtain⟨u,hu,hf⟩:=h3 k hk;exact⟨u,(eF (w:=w) (w':=w') (by rw[add_block];exact h5)).trans hu,(jT (w:=w) (w':=w') (by rw[add_block];exact h5)).trans hf⟩
  ·rcases hA with e|⟨e,e'⟩
   ·obtain⟨h1,h2,h3⟩:=ab e
    rw[hp]at h2;obtain⟨h4,h5⟩:=hs _ _ h2;exact (eF (w:=w) (w':=w') (by rw[add_block];exact h5)).trans (aq i row hi j d hj)
   ·exfalso
    have:i<rs.length:=by
     rcases Rbo i rs.length with h|h
     ·exact h
     ·simp[Sbj h]at hi
    omega
  ·have:=ih i row hi j d hj (s++[i*sz+j]) (by rw[hp,Rba]) hs
   rwa[<- Rba]at this
theorem Rp.rd {own:Nat->Ow}{w:World}{r:Nat}{p:List Nat}{m:Nat}{v:Value}{d:D}(h:Rp own w r p m v d) :
  Rd (fun b=>own b=.frz\/∃ q,own b=.slc r q) w v d:=by
 induction h with
 |sc h=>exact .sc h
 |hole v h1=>exact .hole v h1
 |fz h=>exact h.mono fun b hb=>⟨.inl hb,rfl⟩
 | sl A a n c sz rs vs hn hc hA b7 ab aq bd ih =>
  refine .rows A a n c sz rs vs hn hc ?_ b7 (fun i row hi j d hj=>?_) ih
  ·rcases hA with e|⟨e,e'⟩
   ·exact .inr e
   ·exact .inl (by omega)
  ·refine⟨?_,aq i row hi j d hj⟩
   rcases hA with e|⟨e,e'⟩
   ·exact .inr ⟨_,(ab e).2.1⟩
   ·exfalso
    have:i<rs.length:=by
     rcases Rbo i rs.length with h|h
     ·exact h
     ·simp[Sbj h]at hi
    omega
theorem Rp.weaken {own own':Nat->Ow}{w:World}{r:Nat}{p:List Nat}{m:Nat}{v:Value}{d:D}(h:Rp own w r p m v d)
  (hz:∀ b,own b=.frz->own' b=.frz):∀ (m':Nat),m'<=m ->
  (∀ b t,own b=.slc r (p++t)->own' b=(if t.length<m' then .slc r (p++t) else .frz))->Rp own' w r p m' v d:=by
 induction h with
 |sc h=>exact fun _ _ _=>.sc h
 |hole v h1=>exact fun _ _ _=>.hole v h1
 | fz h =>
  intro m' hm hs;obtain rfl:m'=0:=by omega
  exact .fz (h.mono fun b hb=>⟨hz b hb,rfl⟩)
 | sl A a n c sz rs vs hn hc hA b7 ab aq bd ih =>
  rename_i p m;intro m' hm hs
  cases m' with
  | zero =>
   refine .fz (.rows A a n c sz rs vs hn hc ?_ b7 (fun i row hi j d hj=>?_) (fun i row hi j d hj=>?_))
   ·rcases hA with e|⟨e,e'⟩
    ·exact .inr e
    ·exact .inl (by omega)
   ·refine⟨?_,aq i row hi j d hj⟩
    rcases hA with e|⟨e,e'⟩
    ·have:=hs a.block [] (by simpa using (ab e).2.1)
     simpa using this
    ·exfalso
     have:i<rs.length:=by
      rcases Rbo i rs.length with h|h
      ·exact h
      ·simp[Sbj h]at hi
     omega
   ·have h1:=ih i row hi j d hj 0 (Nat.zero_le _) (fun b t hb=>by
     have:=hs b ([i*sz+j]++t) (by rw[<- Rba];exact hb);simpa using this)
    generalize vs i j=u at h1
    cases h1 with
    |sc h=>exact .sc h
    |hole _ h1=>exact .hole _ h1
    |fz h=>exact h
  | succ m' =>
   refine .sl A a n c sz rs vs hn hc hA b7 (fun e=>?_) aq (fun i row hi j d hj=>?_)
   ·obtain⟨h1,h2,h3⟩:=ab e
    refine⟨h1,?_,h3⟩;have:=hs a.block [] (by simpa using h2);simpa using this
   ·refine ih i row hi j d hj m' (by omega) (fun b t hb=>?_)
    have:=hs b ([i*sz+j]++t) (by rw[<- Rba];exact hb);simp only[List.length_append,List.length_singleton]at this;rw[this,<- Rba];by_cases ht:t.length<m'
    ·rw[if_pos ht,if_pos (by omega)]
    ·rw[if_neg ht,if_neg (by omega)]
theorem Sc.one {v:Value}{d:D}(h:Sc v d):v.oneCell'=true:=by cases h<;>rfl
theorem Rd.one {ok:Nat->Prop}{w:World}{v:Value}{d:D}(h:Rd ok w v d):v.oneCell'=true:=by
 cases h with
 |sc h=>exact h.one
 |hole _ h1=>exact h1
 |rows=>rfl
theorem Rp.one {own:Nat->Ow}{w:World}{r:Nat}{p:List Nat}{m:Nat}{v:Value}{d:D}(h:Rp own w r p m v d):v.oneCell'=true:=by
 cases h with
 |sc h=>exact h.one
 |hole _ h1=>exact h1
 |fz h=>exact h.one
 |sl=>rfl
structure Gh where
 own:Nat->Ow
 hdr:Nat->Value
 bx:Nat->Addr
def kY (σ:Nat->Option aP)(r k:Nat):Prop:=∃ x m st,σ (kR r)=some (.root x m k st)/\(st=.live\/st=.frozen)
def yA (σ:Nat->Option aP)(r k m:Nat):Prop:=∃ x,σ (kR r)=some (.root x m k .live)
def iJ (σ:Nat->Option aP)(r k:Nat):Prop:=∃ x m an st,σ (kR r)=some (.root x m an st)/\(st=.live\/st=.frozen->k<=an)
def allow (G:Gh)(deps:List (Nat×Nat))(b:Nat):Prop:=G.own b=.frz\/∃ r k p,(r,k)∈deps/\G.own b=.slc r p
def kF (ρ:List D)(x:aI):Nat:=match x.val ρ with
 |.int _ n=>n.toNat
 |_=>0
def aZ (ρ:List D)(p:List (aI×Nat×Nat)):List Nat:=p.map fun x=>kF ρ x.1*x.2.1+x.2.2
def Db5 (h v:Value)(sz L:Nat):Prop:=∃ A n c,h=.slice A n c/\L<=n/\v=.slice (if c=L then A else A.map (·.add (L*sz))) (n-L) (c-L)
def Cac (σ:Nat->Option aP)(ρ:List D)(G:Gh)(w:World)(deps:List (Nat×Nat))(v:Value)(d:D):Pth->Prop
 |.no=>True
 |.view=>∀ r k m,deps=[(r,k)]->yA σ r k m->Rp G.own w r [] m v d
 |.suf sz lo=>∀ r k m,deps=[(r,k)]->yA σ r k m->Db5 (G.hdr r) v sz (kF ρ lo)
 |.path p=>∀ r k m,deps=[(r,k)]->yA σ r k m->p.length<=m/\Rp G.own w r (aZ ρ p) (m-p.length) v d/\yG G.own w r [] (G.hdr r) (aZ ρ p) v
mutual
def aB (σ:Nat->Option aP)(ρ:List D)(G:Gh)(w:World):aO->Value->Prop
 |.dead,v=>v.oneCell'=true
 |.sc x,v=>Sc v (x.val ρ)
 |.su g x,v=>(Sc v (x.val ρ)\/(v=undef/\x.val ρ=.undef))/\(gOn ρ (some g)=true->Sc v (x.val ρ))
 |.ex r,v=>v=G.hdr r/\(σ (kR r)).isSome/\v.oneCell'=true
 | .sn deps p nie x, v => (v.oneCell' = true /\ ∀ z ∈ deps, iJ σ z.1 z.2) /\ ((∀ z ∈ deps, kY σ z.1 z.2) ->
   Rd (allow G deps) w v (x.val ρ)/\(nie=true->∀ z,x.val ρ=.rows z []->v=.slice none 0 0)/\Cac σ ρ G w deps v (x.val ρ) p)
 |.px b off,v=>v=.pointer (some ((G.bx b).add off))/\(σ (kB b)).isSome
 |.pe l sz i off,v=>∃ a n c k iv,aB σ ρ G w l (.slice (some a) n c)/\i.val ρ=.int k iv/\0<=iv/\iv.toNat<n/\v=.pointer (some (a.add (iv.toNat*sz+off)))
 | .rp deps sz x, v => (v.oneCell' = true /\ ∀ z ∈ deps, iJ σ z.1 z.2) /\ ((∀ z ∈ deps, kY σ z.1 z.2) ->
   (v=.pointer none/\∃ z,x.val ρ=.rows z []) \/
   ∃ a row,v=.pointer (some a)/\x.val ρ=.rows row.length [row]/\Rd (allow G deps) w (.slice (some a) 1 1) (.rows row.length [row]))
 |.pn,v=>v=.pointer none
 |.clo f cD,v=>∃ vs,v=.func (.func f) #[] vs.toArray/\aD σ ρ G w cD vs
def aD (σ:Nat->Option aP)(ρ:List D)(G:Gh)(w:World):List aO->List Value->Prop
 |[],vs=>vs=[]
 |l::ls,vs=>∃ u us,vs=u::us/\aB σ ρ G w l u/\aD σ ρ G w ls us
end
def gT (σ:Nat->Option aP)(ρ:List D)(G:Gh)(w:World):List (Bool×List aO)->List Value->Prop
 |[],us=>us=[]
 |(a,ls)::r,us=>∃ u bn vs,us=u::bn/\aD σ ρ G w ls vs/\(if a=true then u=.agg vs.toArray else vs=[u])/\gT σ ρ G w r bn
def bU (σ:Nat->Option aP)(ρ:List D)(G:Gh)(w:World):SV->Value->Prop
 |.dead,_=>True
 |.one l,v=>aB σ ρ G w l v
 |.agg ls,v=>∃ vs,v=.agg vs.toArray/\aD σ ρ G w ls vs
 |.tup ts,v=>∃ us,v=.tuple us.toArray/\gT σ ρ G w ts us
def Aad (n:Nat)(a:Act)(gh:Nat->Value)(t:Nat):Value:=if t<n then a.tmps.getD t undef else gh (t-n)
def bM (σ:Nat->Option aP)(ρ:List D)(G:Gh)(w:World)(r:Nat)(x:aI)(m:Nat):RSt->Prop
 |.live=>Rp G.own w r [] m (G.hdr r) (x.val ρ)
 |.frozen=>Rd (fun b=>G.own b=.frz) w (G.hdr r) (x.val ρ)/\∀ b p,G.own b≠.slc r p
 |.gone=>True
 |.fwd r'=>G.hdr r=G.hdr r'/\(σ (kR r')).isSome
def Kam (σ:Nat->Option aP)(ρ:List D)(G:Gh)(w:World)(b:Nat)(ro:Bool)(ls:List aO):Prop :=
 (G.bx b).spot=none/\G.own (G.bx b).block=(if ro=true then .oth else .box b) /\
 ∀ j l,ls[j]?=some l->∃ v,w.cell? ((G.bx b).add j)=some v/\w.frozen? ((G.bx b).add j)=false/\aB σ ρ G w l v
structure bE where
 w0:World
 own0:Nat->Ow
 gh:Nat->Value
 rng:Nat->Nat×Nat
structure lM (F:bE) (G:Gh) (w:World):Prop where
 os:w.os=F.w0.os
 tape:w.tape=F.w0.tape
 output:w.output=F.w0.output
 size:F.w0.heap.size<=w.heap.size
 keep:∀ b,b<F.w0.heap.size->F.own0 b=.frz\/F.own0 b=.oth->w.heap[b]?=F.w0.heap[b]?/\G.own b=F.own0 b
 boxes:∀ b j,b<F.w0.heap.size->F.own0 b=.box j->G.own b=.box j/\∃ c0 c1 e fr,F.w0.heap[b]?=some (.cells c0 e fr)/\w.heap[b]?=some (.cells c1 e fr)/\c1.size=c0.size /\
  ∀ k,k<(F.rng j).1\/(F.rng j).2<=k->c1[k]?=c0[k]?
 fresh:∀ b,w.heap.size<=b->G.own b=.frz
def Za1 (n:Nat)(gh:Nat->Value)(σ:Nat->Option aP)(ρ:List D)(G:Gh)(a:Act)(w:World):Nat->aP->Prop
 |k,.slot g v=>∃ t,k=kT t/\(gOn ρ g=true->bU σ ρ G w v (Aad n a gh t))
 |k,.box ro ls=>∃ b,k=kB b/\Kam σ ρ G w b ro ls
 |k,.root x m an st=>∃ r,k=kR r/\(σ (kR r)).isSome/\bM σ ρ G w r x m st
structure R (n:Nat) (F:bE) (σ:Nat->Option aP) (ρ:List D) (a:Act) (w:World) (G:Gh):Prop where
 tmps:a.tmps.size=n
 defers:a.defers=[]
 cont:∀ k c,σ k=some c->Za1 n F.gh σ ρ G a w k c
 frame:lM F G w
 rng:∀ b ls,σ (kB b)=some (.box false ls)->(G.bx b).block<F.w0.heap.size->F.own0 (G.bx b).block=.box b->F.rng b=((G.bx b).off,(G.bx b).off+ls.length)
theorem Ibd {a b:Nat}(h:kT a=kT b):a=b:=by unfold kT at h;omega
theorem Bai {a b:Nat}(h:kB a=kB b):a=b:=by unfold kB at h;omega
theorem eD {a b:Nat}(h:kR a=kR b):a=b:=by unfold kR at h;omega
theorem kP {a b:Nat}:kT a≠kB b:=by unfold kT kB;omega
theorem gX {a b:Nat}:kT a≠kR b:=by unfold kT kR;omega
theorem eO {a b:Nat}:kB a≠kR b:=by unfold kB kR;omega
section
variable {n:Nat} {F:bE} {σ:Nat->Option aP} {ρ:List D} {a:Act} {w:World} {G:Gh}
theorem R.slot (h:R n F σ ρ a w G){t:Nat}{g:Option (aI×Bool)}{v:SV}(hk:σ (kT t)=some (.slot g v))(hg:gOn ρ g=true):bU σ ρ G w v (Aad n a F.gh t):=by
 obtain⟨t',e,h'⟩:=h.cont _ _ hk;obtain rfl:=Ibd e;exact h' hg
theorem R.box (h:R n F σ ρ a w G){b:Nat}{ro:Bool}{ls:List aO}(hk:σ (kB b)=some (.box ro ls)):Kam σ ρ G w b ro ls:=by
 obtain⟨t',e,h'⟩:=h.cont _ _ hk;obtain rfl:=Bai e;exact h'
theorem R.root (h:R n F σ ρ a w G){r:Nat}{x:aI}{m an:Nat}{st:RSt}(hk:σ (kR r)=some (.root x m an st)):bM σ ρ G w r x m st:=by
 obtain⟨t',e,_,h'⟩:=h.cont _ _ hk;obtain rfl:=eD e;exact h'
end
structure Fr (σ:Nat->Option aP) (G:Gh) (w:World) (cd:Nat->Option aP) (G':Gh) (w':World):Prop where
 frz:∀ b,G.own b=.frz->b<w.heap.size->G'.own b=.frz/\w'.heap[b]?=w.heap[b]?
 valid:∀ r k,iJ σ r k->kY cd r k->kY σ r k
 known:∀ r k,iJ σ r k->iJ cd r k
 slc:∀ r k b p,kY σ r k->kY cd r k->G.own b=.slc r p->(G'.own b=.slc r p\/G'.own b=.frz)/\w'.heap[b]?=w.heap[b]?
 live:∀ r k m,iJ σ r k->yA cd r k m->yA σ r k m/\∀ b p,G.own b=.slc r p->G'.own b=.slc r p
 hdr:∀ r,(σ (kR r)).isSome->G'.hdr r=G.hdr r
 bx:∀ b,(σ (kB b)).isSome->G'.bx b=G.bx b
 keep:∀ k,(σ k).isSome->(cd k).isSome
 froz:∀ r x m k,σ (kR r)=some (.root x m k .frozen)->∀ b p,G'.own b=.slc r p->G.own b=.slc r p
theorem iJ.some {σ:Nat->Option aP}{r k:Nat}(h:iJ σ r k):(σ (kR r)).isSome:=by
 obtain⟨x,m,an,st,e,_⟩:=h;rw[e];rfl
theorem kY.known {σ:Nat->Option aP}{r k:Nat}(h:kY σ r k):iJ σ r k:=by
 obtain⟨x,m,st,e,_⟩:=h;exact⟨x,m,k,st,e,fun _=>Nat.le_refl _⟩
theorem iJ.same {σ cd:Nat->Option aP}(h:∀ r,cd (kR r)=σ (kR r)){r k:Nat}(hk:iJ σ r k):iJ cd r k:=by
 obtain⟨x,m,an,st,e,h1⟩:=hk;exact⟨x,m,an,st,by rw[h];exact e,h1⟩
theorem yA.valid {σ:Nat->Option aP}{r k m:Nat}(h:yA σ r k m):kY σ r k:=by
 obtain⟨x,e⟩:=h;exact⟨x,m,.live,e,.inl rfl⟩
theorem block_lt {w:World}{a:Addr}{v:Value}(h:w.cell? a=some v):a.block<w.heap.size:=by
 rcases Rbo a.block w.heap.size with h1|h1
 ·exact h1
 ·unfold World.cell? at h
  rw[Array.getElem?_eq_none h1]at h;cases h
theorem Ha0 {w:World}{a:Addr}{v:Value}(h:w.cell? a=some v):a.block<w.heap.size:=block_lt h
theorem Rd.mono' {ok za:Nat->Prop}{w w':World}{v:Value}{d:D}(h:Rd ok w v d)
  (hf:∀ b,ok b->b<w.heap.size->za b/\w'.heap[b]?=w.heap[b]?):Rd za w' v d:=by
 induction h with
 |sc h=>exact .sc h
 |hole v h1=>exact .hole v h1
 | rows A a n c sz rs vs hn hc hA b7 aq bd ih =>
  refine .rows A a n c sz rs vs hn hc hA b7 (fun i r hi j d hj=>?_) (fun i r hi j d hj=>ih i r hi j d hj);obtain⟨h1,h2⟩:=aq i r hi j d hj;have hlt:=Ha0 h2;rw[add_block]at hlt;obtain⟨h3,h4⟩:=hf _ h1 hlt;exact⟨h3,(eF (w:=w) (w':=w') (by rw[add_block];exact h4)).trans h2⟩
theorem Rp.mono' {own own':Nat->Ow}{w w':World}{r r':Nat}{q q':List Nat}{p:List Nat}{m:Nat}{v:Value}{d:D}(h:Rp own w r p m v d)
  (hz:∀ b,own b=.frz->b<w.heap.size->own' b=.frz/\w'.heap[b]?=w.heap[b]?) :
  ∀ s,p=q++s->(∀ b t,own b=.slc r (q++t)->own' b=.slc r' (q'++t)/\w'.heap[b]?=w.heap[b]?)->Rp own' w' r' (q'++s) m v d:=by
 induction h with
 |sc h=>exact fun _ _ _=>.sc h
 |hole v h1=>exact fun _ _ _=>.hole v h1
 |fz h=>exact fun _ _ _=>.fz (h.mono' hz)
 | sl A a n c sz rs vs hn hc hA b7 ab aq bd ih =>
  rename_i p m;intro s hp hs;refine .sl A a n c sz rs vs hn hc hA b7 (fun e=>?_) (fun i row hi j d hj=>?_) (fun i row hi j d hj=>?_)
  ·obtain⟨h1,h2,h3⟩:=ab e
   rw[hp]at h2;obtain⟨h4,h5⟩:=hs _ _ h2;refine⟨h1,h4,fun k hk=>?_⟩;obtain⟨u,hu,hf⟩:=h3 k hk;exact⟨u,(eF (w:=w) (w':=w') (by rw[add_block];exact h5)).trans hu,(jT (w:=w) (w':=w') (by rw[add_block];exact h5)).trans hf⟩
  ·rcases hA with e|⟨e,e'⟩
   ·obtain⟨h1,h2,h3⟩:=ab e
    rw[hp]at h2;obtain⟨h4,h5⟩:=hs _ _ h2;exact (eF (w:=w) (w':=w') (by rw[add_block];exact h5)).trans (aq i row hi j d hj)
   ·exfalso
    have:i<rs.length:=by
     rcases Rbo i rs.length with h|h
     ·exact h
     ·simp[Sbj h]at hi
    omega
  ·have:=ih i row hi j d hj (s++[i*sz+j]) (by rw[hp,Rba]) hs
   rwa[<- Rba]at this
theorem yG.mono {own own':Nat->Ow}{w w':World}{r r':Nat}:∀ (p q q':List Nat) (v u:Value),
  (∀ b t,own b=.slc r (q++t)->own' b=.slc r' (q'++t)/\w'.heap[b]?=w.heap[b]?)->yG own w r q v p u->yG own' w' r' q' v p u
 |[],_,_,_,_,_,h=>h
 | k :: p, q, q', v, u, hs, h => by
  obtain⟨a,n,c,u',rfl,ho,hc,hn⟩:=h;obtain⟨h1,h2⟩:=hs a.block [] (by simpa using ho);refine⟨a,n,c,u',rfl,by simpa using h1,(eF (w:=w) (w':=w') (by rw[add_block];exact h2)).trans hc,?_⟩
  exact yG.mono p (q++[k]) (q'++[k]) u' u (fun b t hb=>by
   have:=hs b (k::t) (by simpa using hb);simpa using this) hn
section
variable {σ cd:Nat->Option aP} {ρ:List D} {G G':Gh} {w w':World}
theorem Cac.mono (h:Fr σ G w cd G' w'){deps:List (Nat×Nat)}(hex:∀ z∈deps,iJ σ z.1 z.2){v:Value}{d:D}{p:Pth}(hp:Cac σ ρ G w deps v d p):Cac cd ρ G' w' deps v d p:=by
 cases p with
 |no=>trivial
 | view =>
  intro r k m e hl;obtain⟨fq,ho⟩:=h.live r k m (hex (r,k) (by simp[e])) hl;have:=(hp r k m e fq).mono' (q:=[]) (q':=[]) h.frz [] rfl (fun b t hb=>⟨ho b t hb,(h.slc r k b _ fq.valid hl.valid hb).2⟩);simpa using this
 | suf sz lo =>
  intro r k m e hl;obtain⟨fq,ho⟩:=h.live r k m (hex (r,k) (by simp[e])) hl;rw[h.hdr r (hex (r,k) (by simp[e])).some];exact hp r k m e fq
 | path p =>
  intro r k m e hl;obtain⟨fq,ho⟩:=h.live r k m (hex (r,k) (by simp[e])) hl;obtain⟨h1,h2,h3⟩:=hp r k m e fq;have hs:∀ b t,G.own b=.slc r ([]++t)->G'.own b=.slc r ([]++t)/\w'.heap[b]?=w.heap[b]?:=fun b t hb=>⟨ho b t hb,(h.slc r k b _ fq.valid hl.valid hb).2⟩
  refine⟨h1,?_,?_⟩
  ·have:=h2.mono' (q:=[]) (q':=[]) h.frz _ rfl hs
   rw[List.nil_append]at this;exact this
  ·rw[h.hdr r (hex (r,k) (by simp[e])).some]
   exact h3.mono _ _ _ _ _ hs
theorem allow.mono (h:Fr σ G w cd G' w'){deps:List (Nat×Nat)}(hex:∀ z∈deps,iJ σ z.1 z.2)(hv:∀ z∈deps,kY cd z.1 z.2){b:Nat}(hb:allow G deps b)(hlt:b<w.heap.size) :
  allow G' deps b/\w'.heap[b]?=w.heap[b]?:=by
 rcases hb with hb|⟨r,k,p,hm,hb⟩
 ·exact⟨.inl (h.frz b hb hlt).1,(h.frz b hb hlt).2⟩
 ·have uu:=hv (r,k) hm
  have:=h.slc r k b p (h.valid r k (hex (r,k) hm) uu) uu hb;exact⟨this.1.elim (fun e=>.inr ⟨r,k,p,hm,e⟩) .inl,this.2⟩
mutual
theorem aB.mono (h:Fr σ G w cd G' w'):∀ (l:aO) (v:Value),aB σ ρ G w l v->aB cd ρ G' w' l v
 |.dead,_,hl=>by simpa[aB] using hl
 |.sc x,v,hl=>by simpa[aB] using hl
 |.su g x,v,hl=>by simpa[aB] using hl
 | .ex r, v, hl => by
  simp only[aB]at hl ⊢;exact⟨by rw[h.hdr r hl.2.1];exact hl.1,h.keep _ hl.2.1,hl.2.2⟩
 | .sn deps p nie x, v, hl => by
  simp only[aB]at hl ⊢;refine⟨⟨hl.1.1,fun z hz=>h.known _ _ (hl.1.2 z hz)⟩,fun hv=>?_⟩;obtain⟨h1,h2,h3⟩:=hl.2 (fun z hz=>h.valid _ _ (hl.1.2 z hz) (hv z hz));exact⟨h1.mono' fun b hb hlt=>allow.mono h hl.1.2 hv hb hlt,h2,h3.mono h hl.1.2⟩
 | .px b off, v, hl => by
  simp only[aB]at hl ⊢;exact⟨by rw[h.bx b hl.2];exact hl.1,h.keep _ hl.2⟩
 | .pe l sz i off, v, hl => by
  simp only[aB]at hl ⊢;obtain⟨a,n,c,k,iv,h1,h2⟩:=hl;exact⟨a,n,c,k,iv,aB.mono h l _ h1,h2⟩
 | .rp deps sz x, v, hl => by
  simp only[aB]at hl ⊢;refine⟨⟨hl.1.1,fun z hz=>h.known _ _ (hl.1.2 z hz)⟩,fun hv=>?_⟩
  rcases hl.2 (fun z hz=>h.valid _ _ (hl.1.2 z hz) (hv z hz)) with h1|⟨a,row,h1,h2,h3⟩
  ·exact .inl h1
  ·exact .inr ⟨a,row,h1,h2,h3.mono' fun b hb hlt=>allow.mono h hl.1.2 hv hb hlt⟩
 |.pn,v,hl=>by simpa[aB] using hl
 | .clo f cD, v, hl => by
  simp only[aB]at hl ⊢;obtain⟨vs,h1,h2⟩:=hl;exact⟨vs,h1,aD.mono h cD vs h2⟩
theorem aD.mono (h:Fr σ G w cd G' w'):∀ (ls:List aO) (vs:List Value),aD σ ρ G w ls vs->aD cd ρ G' w' ls vs
 |[],vs,hl=>by simpa[aD] using hl
 | l :: ls, vs, hl => by
  simp only[aD]at hl ⊢;obtain⟨u,us,e,h1,h2⟩:=hl;exact⟨u,us,e,aB.mono h l u h1,aD.mono h ls us h2⟩
end
theorem gT.mono (h:Fr σ G w cd G' w'):∀ (ts:List (Bool×List aO)) (us:List Value),gT σ ρ G w ts us->gT cd ρ G' w' ts us
 |[],_,ht=>ht
 | (a, ls) :: r, us, ht => by
  obtain⟨u,bn,vs,e,h1,h2,h3⟩:=ht;exact⟨u,bn,vs,e,aD.mono h ls vs h1,h2,gT.mono h r bn h3⟩
theorem bU.mono (h:Fr σ G w cd G' w'){v:SV}{u:Value}(hv:bU σ ρ G w v u):bU cd ρ G' w' v u:=by
 cases v with
 |dead=>trivial
 |one l=>exact aB.mono h l u hv
 |agg ls=>obtain⟨vs,e,h1⟩:=hv;exact⟨vs,e,aD.mono h ls vs h1⟩
 |tup ts=>obtain⟨us,e,h1⟩:=hv;exact⟨us,e,gT.mono h ts us h1⟩
end
def Sax (σ:Nat->Option aP)(k:Nat)(c:aP):Nat->Option aP:=fun j=>if j=k then some c else σ j
def upds (σ:Nat->Option aP):List (Nat×aP)->Nat->Option aP
 |[]=>σ
 |(k,c)::r=>upds (Sax σ k c) r
theorem oG:∀ (u:List (Nat×aP)) (σ:Nat->Option aP) (k:Nat) (c:aP),upds σ u k=some c->(k,c)∈u\/((∀ c',(k,c')∉u)/\σ k=some c)
 |[],σ,k,c,h=>.inr ⟨by simp,h⟩
 | (k', c') :: r, σ, k, c, h => by
  rcases oG r (Sax σ k' c') k c h with h1|⟨h1,h2⟩
  ·exact .inl (Rbd _ h1)
  ·unfold Sax at h2
   split at h2
   ·rename_i e
    obtain rfl:=Option.some.inj h2;exact .inl (by rw[e];exact Rbj)
   ·rename_i e
    refine .inr ⟨fun c'' hc=>?_,h2⟩
    rcases List.mem_cons.1 hc with h3|h3
    ·exact e (Prod.mk.inj h3).1
    ·exact h1 _ h3
theorem dZ:∀ (u:List (Nat×aP)) (σ:Nat->Option aP) (k:Nat),(∀ c,(k,c)∉u)->upds σ u k=σ k
 |[],_,_,_=>rfl
 | (k', c') :: r, σ, k, h => by
  rw[upds,dZ r _ k fun c hc=>h c (Rbd _ hc)];unfold Sax;rw[if_neg];intro e;exact h c' (by rw[e];exact Rbj)
theorem dP:∀ (u:List (Nat×aP)) (σ:Nat->Option aP) (k:Nat),(σ k).isSome\/(∃ c,(k,c)∈u)->(upds σ u k).isSome
 | [], σ, k, h => by
  rcases h with h|⟨c,hc⟩
  ·exact h
  ·simp at hc
 | (k', c') :: r, σ, k, h => by
  refine dP r _ k ?_;unfold Sax
  rcases h with h|⟨c,hc⟩
  ·exact .inl (by split<;>simp_all)
  ·rcases List.mem_cons.1 hc with h1|h1
   ·exact .inl (by rw[if_pos (Prod.mk.inj h1).1];rfl)
   ·exact .inr ⟨c,h1⟩
section
variable {n:Nat} {F:bE} {σ:Nat->Option aP} {ρ:List D} {a a':Act} {w w':World} {G G':Gh}
theorem R.upd (h:R n F σ ρ a w G)(u:List (Nat×aP))(cm:Fr σ G w (upds σ u) G' w')(b7:a'.tmps.size=n)(hd:a'.defers=[])
  (hF:lM F G' w')
  (htm:∀ t,(∀ c,(kT t,c)∉u)->Aad n a' F.gh t=Aad n a F.gh t)
  (cT:∀ b ro ls,σ (kB b)=some (.box ro ls)->(∀ c,(kB b,c)∉u)->G'.own (G.bx b).block=G.own (G.bx b).block/\w'.heap[(G.bx b).block]?=w.heap[(G.bx b).block]?)
  (sg:∀ b ls,(kB b,.box false ls)∈u->(G'.bx b).block<F.w0.heap.size->F.own0 (G'.bx b).block=.box b->F.rng b=((G'.bx b).off,(G'.bx b).off+ls.length))
  (de:∀ k c,(k,c)∈u->upds σ u k=some c->Za1 n F.gh (upds σ u) ρ G' a' w' k c):R n F (upds σ u) ρ a' w' G':=by
 refine⟨b7,hd,fun k c hk=>?_,hF,fun b ls hk hb ho=>?_⟩
 ·rcases oG u σ k c hk with h1|⟨h1,h2⟩
  ·exact de k c h1 hk
  ·cases c with
   | slot g v =>
    obtain⟨t,rfl,hv⟩:=h.cont k _ h2;refine⟨t,rfl,fun hg=>?_⟩;rw[htm t h1];exact (hv hg).mono cm
   | box ro ls =>
    obtain⟨b,rfl,h3,h4,h5⟩:=h.cont k _ h2;obtain⟨h6,h7⟩:=cT b ro ls h2 h1;have e:G'.bx b=G.bx b:=cm.bx b (by rw[h2];rfl);refine⟨b,rfl,by rw[e];exact h3,by rw[e,h6];exact h4,fun j l hj=>?_⟩;obtain⟨v,h8,h9,bo⟩:=h5 j l hj;rw[e];exact⟨v,(eF (w:=w) (w':=w') (by rw[add_block];exact h7)).trans h8,(jT (w:=w) (w':=w') (by rw[add_block];exact h7)).trans h9,aB.mono cm l v bo⟩
   | root x m an st =>
    obtain⟨r,rfl,h0,h3⟩:=h.cont k _ h2;refine⟨r,rfl,cm.keep _ h0,?_⟩;have e:G'.hdr r=G.hdr r:=cm.hdr r h0
    cases st with
    | live =>
     have fq:yA (upds σ u) r an m:=⟨x,hk⟩;obtain⟨hl,ho⟩:=cm.live r an m ⟨x,m,an,.live,h2,fun _=>Nat.le_refl _⟩ fq;have:=Rp.mono' (q:=[]) (q':=[]) h3 cm.frz [] rfl (fun b t hb=>⟨ho b t hb,(cm.slc r an b _ hl.valid fq.valid hb).2⟩);simp only[bM];rw[e];simpa using this
    | frozen =>
     simp only[bM];rw[e];exact⟨h3.1.mono' cm.frz,fun b p hb=>h3.2 b p (cm.froz r x m an h2 b p hb)⟩
    |gone=>trivial
    | fwd r' =>
     obtain⟨h4,h5⟩:=h3;exact⟨by rw[e,cm.hdr r' h5];exact h4,cm.keep _ h5⟩
 ·rcases oG u σ _ _ hk with h1|⟨h1,h2⟩
  ·exact sg b ls h1 hb ho
  ·have e:G'.bx b=G.bx b:=cm.bx b (by rw[h2];rfl)
   rw[e]at hb ho ⊢;exact h.rng b ls h2 hb ho
theorem Aa2 (a:Act)(d:Option Tmp)(v:Value):(a.put d v).tmps.size=a.tmps.size:=by
 cases d<;>simp[Act.put]
theorem put_defers (a:Act)(d:Option Tmp)(v:Value):(a.put d v).defers=a.defers:=by
 cases d<;>simp[Act.put]
theorem Fat (n:Nat)(a:Act)(G:Nat->Value)(d t:Nat)(v:Value)(h:d≠t):Aad n (a.put (some d) v) G t=Aad n a G t:=by
 unfold Aad;split
 ·simp[Act.put,Rb6,Array.getElem?_setIfInBounds,h]
 ·rfl
theorem mY (n:Nat)(a:Act)(G:Nat->Value)(d:Nat)(v:Value)(h:d<n)(hs:a.tmps.size=n):Aad n (a.put (some d) v) G d=v:=by
 unfold Aad;rw[if_pos h];simp[Act.put,Rb6,hs,h]
theorem Fr.same (σ:Nat->Option aP)(G:Gh)(w:World)(u:List (Nat×aP))(hu:∀ k c,(k,c)∈u->∃ t,k=kT t):Fr σ G w (upds σ u) G w:=by
 have hr:∀ r,upds σ u (kR r)=σ (kR r):=fun r=>dZ _ _ _ fun c hc=>by obtain⟨t,e⟩:=hu _ _ hc;exact gX e.symm
 refine⟨fun b h _=>⟨h,rfl⟩,fun r k _ h=>?_,fun r k h=>?_,fun r k b p _ _ h=>⟨.inl h,rfl⟩,fun r k m _ h=>⟨?_,fun b p h=>h⟩,fun _ _=>rfl,fun _ _=>rfl,fun k h=>dP _ _ _ (.inl h),fun _ _ _ _ _ _ _ h=>h⟩
 ·obtain⟨x,m,st,e,h⟩:=h
  exact⟨x,m,st,by rw[<- hr];exact e,h⟩
 ·obtain⟨x,m,an,st,e,h⟩:=h
  exact⟨x,m,an,st,by rw[hr];exact e,h⟩
 ·obtain⟨x,e⟩:=h
  exact⟨x,by rw[<- hr];exact e⟩
def dL (o:Oper)(g:Option (aI×Bool))(v:SV):List (Nat×aP):=match o.dst with|some d=>[(kT d,.slot g v)]|none=>[]
theorem R.pure (h:R n F σ ρ a w G)(o:Oper)(hd:∀ d,o.dst=some d->d<n)(g:Option (aI×Bool))(sv:SV)(v:Value)
  (hv:gOn ρ g=true->bU σ ρ G w sv v):R n F (upds σ (dL o g sv)) ρ (a.put o.dst v) w G:=by
 have cm:Fr σ G w (upds σ (dL o g sv)) G w:=Fr.same _ _ _ _ fun k c hk=>by
  unfold dL at hk;split at hk
  ·rename_i d e
   simp only[Rbb,Prod.mk.injEq]at hk;exact⟨d,hk.1⟩
  ·simp at hk
 refine h.upd _ cm (by rw[Aa2];exact h.tmps) (by rw[put_defers];exact h.defers) h.frame (fun t ht=>?_) (fun _ _ _ _ _=>⟨rfl,rfl⟩) (fun b ls hb=>?_) (fun k c hk fy=>?_)
 ·unfold dL at ht
  cases e:o.dst with
  |none=>rfl
  | some d =>
   rw[e]at ht;exact Fat _ _ _ _ _ _ fun e'=>ht _ (by rw[e'];exact List.mem_singleton.2 rfl)
 ·unfold dL at hb
  split at hb
  ·simp only[Rbb,Prod.mk.injEq]at hb
   exact absurd hb.1.symm kP
  ·simp at hb
 ·have ui:=hk
  unfold dL at hk
  cases e:o.dst with
  |none=>rw[e]at hk;simp at hk
  | some d =>
   rw[e]at hk;simp only[Rbb,Prod.mk.injEq]at hk;obtain⟨rfl,rfl⟩:=hk;refine⟨d,rfl,fun hg=>?_⟩;rw[mY _ _ _ _ _ (hd d e) h.tmps];exact (hv hg).mono cm
end
end Go.Proofs.YtpgnlmfmlffjcaaGreat.Rf
