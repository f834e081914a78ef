import Derived.Calls
import Derived.Laws.Sem
set_option linter.all false
open Array renaming getD_eq_getD_getElem? → Sb6
open List renaming mem_singleton → Rby, append_assoc → Rb3, mem_cons → Rb4, mem_cons_of_mem → Rb7, mem_cons_self → Sbe, replicate → Sbi, getElem?_eq_none → Tb4
open Nat renaming lt_or_ge → Sbh, blt → Tbh, testBit → Ubc, le_succ → Ubw
open Option renaming bind_eq_some_iff → Rbt, bind_some → Rb1, map_some → Sb9
open Prod.mk renaming injEq → Sbj, inj → Ubb
namespace Go.Proofs.YtgpamlpecmldfaaGreat.Rf
inductive D where
 |int (k:IntKind) (n:Int)
 |bool (b:Bool)
 |str (s:List UInt8)
 |rows (sz:Nat) (rs:List (List D))
 |undef
 |hole
 deriving Inhabited
inductive aJ where
 |v (i:Nat)
 |c (d:D)
 deriving Inhabited
def aJ.val (ρ:List D):aJ->D
 |.v i=>ρ.getD i .undef
 |.c d=>d
def aJ.ok (n:Nat):aJ->Prop
 |.v i=>i<n
 |.c _=>True
theorem aJ.val_append {n:Nat}{ρ gx:List D}{x:aJ}(h:x.ok ρ.length):x.val (ρ++gx)=x.val ρ:=by
 cases x with
 |c d=>rfl
 | v i =>
  simp only[aJ.ok]at h;simp[aJ.val,List.getD_eq_getElem?_getD,List.getElem?_append_left h]
inductive aN where
 |bin (op:BinOp)
 |eqb (neg:Bool)
 |not | neg | inv
 |conv (k:IntKind)
 |len | slen
 |row (sz off:Nat) (ks:List Bool)
 |inb
 |set (sz off n:Nat)
 |app (sz bytes:Nat) (fl:Bool)
 |mk (sz n:Nat)
 |make (bytes:Nat) (zero:List D)
 |sub (sz:Nat) (fl:Bool)
 |ssub
 |pick
 |eqs (ks:List Nat)
 |min | max
 |bstr
 |sidx
 |sid
 |ne
 |emp
 |one (sz:Nat)
 |dep (m:Nat)
 |clr (sz:Nat)
 |id
 deriving Inhabited
def gB:Nat:=140737488355328
def Aal (op:BinOp)(k:IntKind)(a b:Int):Option D :=
 match op with
 |.add=>some (.int k (k.wrap (a+b)))
 |.sub=>some (.int k (k.wrap (a-b)))
 |.mul=>some (.int k (k.wrap (a*b)))
 |.quo=>if b=0 then none else some (.int k (k.wrap (a.tdiv b)))
 |.rem=>if b=0 then none else some (.int k (a.tmod b))
 |.and=>some (.int k (k.wrap (BitVec.ofInt k.bits a &&& BitVec.ofInt k.bits b).toNat))
 |.or=>some (.int k (k.wrap (BitVec.ofInt k.bits a ||| BitVec.ofInt k.bits b).toNat))
 |.xor=>some (.int k (k.wrap (BitVec.ofInt k.bits a ^^^ BitVec.ofInt k.bits b).toNat))
 |.andNot=>some (.int k (k.wrap (BitVec.ofInt k.bits a &&& ~~~ (BitVec.ofInt k.bits b)).toNat))
 |.eql=>some (.bool (a==b))
 |.neq=>some (.bool (a != b))
 |.lss=>some (.bool (a<b))
 |.leq=>some (.bool (a<=b))
 |.gtr=>some (.bool (a>b))
 |.geq=>some (.bool (a ≥ b))
 |_=>none
def Ua8 (op:BinOp)(k:IntKind)(a b:Int):Option D :=
 if b<0 then none else
 match op with
 |.shl=>some (.int k (k.wrap (a*2 ^ (min b.toNat k.bits))))
 |.shr=>some (.int k (a.fdiv (2 ^ (min b.toNat k.bits))))
 |_=>none
def Fb0 (op:BinOp)(a b:List UInt8):Option D :=
 match op with
 |.add=>if a.length+b.length<=4611686018427387904 then some (.str (a++b)) else none
 |.eql=>some (.bool (a==b))
 |.neq=>some (.bool (!(a==b)))
 |.lss=>some (.bool (Op.bytesLess a b))
 |.leq=>some (.bool (Op.bytesLess a b||a==b))
 |.gtr=>some (.bool (!(Op.bytesLess a b||a==b)))
 |.geq=>some (.bool (!(Op.bytesLess a b)))
 |_=>none
def Oac (op:BinOp):D->D->Option D
 | .int k a, .int k' b =>
  match op with
  |.shl | .shr=>Ua8 op k a b
  |_=>if k=k' then Aal op k a b else none
 |.str a,.str b=>Fb0 op a b
 |_,_=>none
def eqD:Nat->D->D->Option Bool
 |0,.int k a,.int k' b=>if k=k' then some (a==b) else none
 |1,.bool a,.bool b=>some (a==b)
 |2,.str a,.str b=>some (a==b)
 |_,_,_=>none
def Oam:List Nat->List D->List D->Option Bool
 |[],[],[]=>some true
 |k::ks,a::as,b::bs=>(eqD k a b).bind fun x=>if x then Oam ks as bs else some false
 |_,_,_=>none
def chunk (sz:Nat):Nat->List D->List (List D)
 |0,_=>[]
 |n+1,l=>l.take sz::chunk sz n (l.drop sz)
def bytesOf:List (List D)->Option (List UInt8)
 |[]=>some []
 |[.int .u8 n]::r=>(bytesOf r).map fun l=>UInt8.ofNat n.toNat::l
 |_=>none
def Hbo (op:BinOp):D->D->Option D
 |.int k a,.int k' b=>if k=k' then some (.int k (if (match op with | .lss=>b<a | _=>b>a:Bool) then b else a)) else none
 |_,_=>none
def Kaq (op:BinOp):D->List D->Option D
 |x,[]=>some x
 |x,y::r=>(Hbo op x y).bind fun z=>Kaq op z r
def D.isSc:D->Bool
 |.int _ _=>true
 |.bool _=>true
 |.str _=>true
 |_=>false
def nO:Nat->D->Bool
 |_,.hole=>true
 |0,d=>d.isSc
 |m+1,.rows _ rs=>rs.all fun r=>r.all fun d=>nO m d
 |_+1,d=>d.isSc
def Ba0:List Bool->List D->Bool
 |[],_=>true
 |k::ks,d::ds=>(!k||d.isSc)&&Ba0 ks ds
 |_::_,[]=>false
def aN.run:aN->List D->Option (List D)
 |.bin op,[a,b]=>(Oac op a b).map fun d=>[d]
 |.eqb ng,[.bool a,.bool b]=>some [.bool (if ng then !(a==b) else a==b)]
 |.not,[.bool b]=>some [.bool (!b)]
 |.neg,[.int k n]=>some [.int k (k.wrap (0-n))]
 |.inv,[.int k n]=>(Aal .xor k (if k.signed then -1 else k.max) n).map fun d=>[d]
 |.conv k,[.int _ n]=>some [.int k (k.wrap n)]
 |.len,[.rows _ rs]=>some [.int .i64 rs.length]
 |.slen,[.str s]=>some [.int .i64 s.length]
 | .row sz off ks, [.rows nx rs, .int _ i] =>
  if nx=sz/\0<=i then match rs[i.toNat]? with
   |some r=>if off+ks.length<=r.length/\Ba0 ks (r.drop off)=true then some ((r.drop off).take ks.length) else none
   |none=>none
  else none
 |.inb,[.rows _ rs,.int _ i]=>if 0<=i/\i<rs.length then some [] else none
 | .set sz off n, .rows nx rs :: .int _ i :: vs =>
  if nx=sz/\0<=i then match rs[i.toNat]? with
   |some r=>if off+n<=r.length/\vs.length=n then some [.rows sz (rs.set i.toNat (r.take off++vs++r.drop (off+n)))] else none
   |none=>none
  else none
 |.app sz bytes fl,[.rows nx a,.rows sz'' b]=>if nx=sz/\sz''=sz/\(!fl||(a++b).all fun r=>r.all D.isSc)=true/\(a.length+b.length)*bytes<=gB then some [.rows sz (a++b)] else none
 |.mk sz n,vs=>if vs.length=n*sz then some [.rows sz (chunk sz n vs)] else none
 |.make bytes zero,[.int _ n]=>if 0<=n/\n.toNat*bytes<=gB then some [.rows zero.length (Sbi n.toNat zero)] else none
 |.sub sz fl,[.rows nx rs,.int _ lo,.int _ hi]=>if nx=sz/\(!fl||rs.all fun r=>r.all D.isSc)=true/\0<=lo/\lo<=hi/\hi<=rs.length then some [.rows sz ((rs.take hi.toNat).drop lo.toNat)] else none
 |.ssub,[.str s,.int _ lo,.int _ hi]=>if 0<=lo/\lo<=hi/\hi<=s.length then some [.str ((s.take hi.toNat).drop lo.toNat)] else none
 |.pick,[.bool c,a,b]=>some [if c then a else b]
 |.eqs ks,vs=>(Oam ks (vs.take ks.length) (vs.drop ks.length)).map fun b=>[.bool b]
 |.min,x::r=>(Kaq .lss x r).map fun d=>[d]
 |.max,x::r=>(Kaq .gtr x r).map fun d=>[d]
 |.bstr,[.rows _ rs]=>(bytesOf rs).map fun l=>[.str l]
 | .sidx, [.str s, .int _ i] => if 0 <= i then match s[i.toNat]? with
   |some b=>some [.int .u8 b.toNat]
   |none=>none
  else none
 |.ne,[.rows _ rs]=>if rs.isEmpty then none else some []
 |.emp,[.rows _ rs]=>some [.bool rs.isEmpty]
 |.dep m,[d]=>if nO m d then some [] else none
 |.id,[a]=>some [a]
 |.clr sz,[.rows nx rs,.int _ i]=>if nx=sz/\0<=i then some [.rows sz (rs.take i.toNat++(rs.drop i.toNat).map fun r=>r.map fun _=>.hole)] else none
 |.sid,[.str s]=>some [.str s]
 | .one sz, [.rows nx rs, .int _ i] => if nx = sz /\ 0 <= i then match rs[i.toNat]? with
   |some r=>some [.rows sz [r]]
   |none=>none
  else none
 |_,_=>none
inductive Kind where
 |fall | exit (id:Nat) | ret | cont | yield (i:Nat)
 deriving DecidableEq,Inhabited
inductive Tm (β:Type) where
 |leaf (kind:Kind) (xs:List aJ) (ext:β)
 |stuck
 |lt (g:Option (aJ×Bool)) (p:aN) (xs:List aJ) (n:Nat) (k:Tm β)
 |call (g:Option (aJ×Bool)) (f:Nat) (xs:List aJ) (n:Nat) (olds:List aJ) (k:Tm β)
 |ite (c:aJ) (t e:Tm β)
 |bind (i:Nat) (t k:Tm β)
 |loop (init:List aJ) (body:Tm β)
 deriving Inhabited
structure Out (β:Type) where
 kind:Kind
 xs:List aJ
 ext:β
 env:List D
def Out.vals {β:Type}(o:Out β):List D:=o.xs.map (·.val o.env)
def gOn (ρ:List D):Option (aJ×Bool)->Bool
 |none=>true
 | some (x, w) => match x.val ρ with
  |.bool b=>b==w
  |_=>false
def iter {β:Type}:Nat->(List D->Option (Out β))->List D->Option (Out β)
 |0,_,_=>none
 |n+1,f,vs=>(f vs).bind fun o=>if o.kind=.cont then iter n f o.vals else some o
def runT {β:Type}(cf:Nat->List D->Option (List D))(fuel:Nat):Tm β->List D->Option (Out β)
 |.leaf k xs e,ρ=>some ⟨k,xs,e,ρ⟩
 |.stuck,_=>none
 | .lt g p xs n k, ρ =>
  if gOn ρ g then (p.run (xs.map (·.val ρ))).bind fun ds=>if ds.length=n then runT cf fuel k (ρ++ds) else none
  else runT cf fuel k (ρ++Sbi n .undef)
 | .call g f xs n olds k, ρ =>
  if gOn ρ g then (cf f (xs.map (·.val ρ))).bind fun ds=>if ds.length=n then runT cf fuel k (ρ++ds) else none
  else runT cf fuel k (ρ++(Sbi (n-olds.length) .undef++olds.map (·.val ρ)))
 | .ite c t e, ρ => match c.val ρ with
  |.bool true=>runT cf fuel t ρ
  |.bool false=>runT cf fuel e ρ
  |_=>none
 |.bind i t k,ρ=>(runT cf fuel t ρ).bind fun o=>if o.kind=.yield i then runT cf fuel k (ρ++o.vals) else some o
 |.loop init body,ρ=>iter fuel (fun vs=>runT cf fuel body (ρ++vs)) (init.map (·.val ρ))
inductive Ent where
 |tm (t:Tm Unit)
 |ext (f:List D->Option (List D))
 |none
def Db0 {β:Type}(o:Out β):Option (List D):=if o.kind=.ret then some o.vals else none
def jI (T:Nat->Ent):Nat->Nat->List D->Option (List D)
 |0,_,_=>none
 | n + 1, f, args => match T f with
  |.tm t=>(runT (jI T n) n t args).bind Db0
  |.ext e=>e args
  |.none=>none
def Oan {α:Type}(a:Nat->Option α):Prop:=∀ n r,a n=some r->a (n+1)=some r
theorem Oan.le {α:Type}{a:Nat->Option α}(h:Oan a){n m:Nat}{r:α}(hn:n<=m)(hr:a n=some r):a m=some r:=by
 induction hn with
 |refl=>exact hr
 |step _ ih=>exact h _ _ ih
open Classical in
noncomputable def lim {α:Type}(a:Nat->Option α):Option α :=
 if h:∃ r n,a n=some r then some h.choose else none
theorem fK {α:Type}{a:Nat->Option α}(h:Oan a){r:α}:lim a=some r↔∃ n,a n=some r:=by
 unfold lim;constructor
 ·intro e
  split at e
  ·rename_i hx
   obtain⟨n,hn⟩:=hx.choose_spec;cases e;exact⟨n,hn⟩
  ·cases e
 ·rintro⟨n,hn⟩
  have hx:∃ r n,a n=some r:=⟨r,n,hn⟩;rw[dif_pos hx];obtain⟨m,hm⟩:=hx.choose_spec;have h1:=h.le (Nat.le_max_left n m) hn;have h2:=h.le (Nat.le_max_right n m) hm;rw[h1]at h2;exact h2.symm
theorem Abz {α:Type}{a:Nat->Option α}(h:∀ n,a n=none):lim a=none:=by
 unfold lim;rw[dif_neg]
 rintro⟨r,n,hn⟩
 rw[h]at hn;cases hn
theorem fM {α:Type}(x:Option α):lim (fun _=>x)=x:=by
 cases x with
 |none=>exact Abz fun _=>rfl
 |some r=>exact (fK (a:=fun _=>some r) fun _ _ h=>h).2 ⟨0,rfl⟩
theorem Oan.bind {α γ:Type}{a:Nat->Option α}{b:Nat->α->Option γ}(ha:Oan a)(hb:∀ x,Oan fun n=>b n x):Oan fun n=>(a n).bind (b n):=by
 intro n r h;simp only[Rbt]at h ⊢;obtain⟨x,hx,hr⟩:=h;exact⟨x,ha _ _ hx,hb x _ _ hr⟩
theorem Eae {α γ:Type}{a:Nat->Option α}{b:Nat->α->Option γ}(ha:Oan a)(hb:∀ x,Oan fun n=>b n x) :
  lim (fun n=>(a n).bind (b n))=(lim a).bind fun x=>lim fun n=>b n x:=by
 apply Option.ext;intro r;rw[fK (ha.bind hb)];simp only[Rbt];constructor
 ·rintro⟨n,x,hx,hr⟩
  exact⟨x,(fK ha).2 ⟨n,hx⟩,(fK (hb x)).2 ⟨n,hr⟩⟩
 ·rintro⟨x,hx,hr⟩
  obtain⟨n,hn⟩:=(fK ha).1 hx;obtain⟨m,hm⟩:=(fK (hb x)).1 hr;exact⟨max n m,x,ha.le (Nat.le_max_left ..) hn,(hb x).le (Nat.le_max_right ..) hm⟩
def Le {α γ:Type}(f g:α->Option γ):Prop:=∀ x r,f x=some r->g x=some r
theorem lL {β:Type}{f g:List D->Option (Out β)}(h:Le f g):∀ {n m:Nat},n<=m->Le (iter n f) (iter m g)
 |0,_,_,_,_,hr=>by cases hr
 |n+1,0,sj,_,_,_=>absurd sj (by omega)
 | n + 1, m + 1, sj, vs, r, hr => by
  simp only[iter,Rbt]at hr ⊢;obtain⟨o,ho,hr⟩:=hr;refine⟨o,h _ _ ho,?_⟩;split at hr
  ·rename_i hk
   rw[if_pos hk];exact lL h (by omega) _ _ hr
  ·rename_i hk
   rw[if_neg hk];exact hr
theorem Fab {β:Type}{cf cg:Nat->List D->Option (List D)}(h:∀ f,Le (cf f) (cg f)){n m:Nat}(sj:n<=m)(t:Tm β):Le (runT cf n t) (runT cg m t):=by
 induction t with
 |leaf=>exact fun _ _ h=>h
 |stuck=>exact fun _ _ h=>h
 | lt g p xs k' k ih =>
  intro ρ r hr;simp only[runT]at hr ⊢;split at hr
  ·rename_i hg
   rw[if_pos hg];simp only[Rbt]at hr ⊢;obtain⟨ds,hd,hr⟩:=hr;refine⟨ds,hd,?_⟩;split at hr
   ·rename_i hl;rw[if_pos hl];exact ih _ _ hr
   ·cases hr
  ·rename_i hg
   rw[if_neg hg];exact ih _ _ hr
 | call g f xs k' olds k ih =>
  intro ρ r hr;simp only[runT]at hr ⊢;split at hr
  ·rename_i hg
   rw[if_pos hg];simp only[Rbt]at hr ⊢;obtain⟨ds,hd,hr⟩:=hr;refine⟨ds,h _ _ _ hd,?_⟩;split at hr
   ·rename_i hl;rw[if_pos hl];exact ih _ _ hr
   ·cases hr
  ·rename_i hg
   rw[if_neg hg];exact ih _ _ hr
 | ite c t e yr ihe =>
  intro ρ r hr;simp only[runT]at hr ⊢;split at hr
  ·exact yr _ _ hr
  ·exact ihe _ _ hr
  ·cases hr
 | bind i t k yr ihk =>
  intro ρ r hr;simp only[runT,Rbt]at hr ⊢;obtain⟨o,ho,hr⟩:=hr;refine⟨o,yr _ _ ho,?_⟩;split at hr
  ·rename_i hk;rw[if_pos hk];exact ihk _ _ hr
  ·rename_i hk;rw[if_neg hk];exact hr
 | loop init body ih =>
  intro ρ r hr;simp only[runT]at hr ⊢;exact lL (fun vs r hr=>ih _ _ hr) sj _ _ hr
theorem Cae (T:Nat->Ent):∀ {n m:Nat},n<=m->∀ f,Le (jI T n f) (jI T m f)
 |0,_,_,_,_,_,hr=>by cases hr
 |n+1,0,sj,_,_,_,_=>absurd sj (by omega)
 | n + 1, m + 1, sj, f, args, r, hr => by
  simp only[jI]at hr ⊢;split at hr
  ·simp only[Rbt]at hr ⊢
   obtain⟨o,ho,hr⟩:=hr;exact⟨o,Fab (fun f=>Cae T (by omega) f) (by omega) _ _ _ ho,hr⟩
  ·exact hr
  ·cases hr
section
variable (T:Nat->Ent)
noncomputable def Fun (f:Nat)(args:List D):Option (List D):=lim fun n=>jI T n f args
noncomputable def Ev {β:Type}(t:Tm β)(ρ:List D):Option (Out β):=lim fun n=>runT (jI T n) n t ρ
noncomputable def Lp {β:Type}(body:Tm β)(ρ vs:List D):Option (Out β):=lim fun n=>iter n (fun vs=>runT (jI T n) n body (ρ++vs)) vs
variable {T}
theorem Ibh (f:Nat)(args:List D):Oan fun n=>jI T n f args:=fun n _ h=>Cae T (Ubw n) f _ _ h
theorem Cbd {β:Type}(t:Tm β)(ρ:List D):Oan fun n=>runT (jI T n) n t ρ:=fun n _ h=>Fab (fun f=>Cae T (Ubw n) f) (Ubw n) t _ _ h
theorem Rbs {β:Type}(body:Tm β)(ρ vs:List D):Oan fun n=>iter n (fun vs=>runT (jI T n) n body (ρ++vs)) vs :=
 fun n _ h=>lL (fun vs r hr=>Cbd body _ n r hr) (Ubw n) _ _ h
theorem Eal {f:Nat}{args r:List D}:Fun T f args=some r↔∃ n,jI T n f args=some r:=fK (Ibh f args)
theorem Lab {β:Type}{t:Tm β}{ρ:List D}{o:Out β}:Ev T t ρ=some o↔∃ n,runT (jI T n) n t ρ=some o:=fK (Cbd t ρ)
theorem Fbc {β:Type}(k:Kind)(xs:List aJ)(e:β)(ρ:List D):Ev T (.leaf k xs e) ρ=some ⟨k,xs,e,ρ⟩:=fM _
theorem Ibk {β:Type}(g:Option (aJ×Bool))(p:aN)(xs:List aJ)(n:Nat)(k:Tm β)(ρ:List D) :
  Ev T (.lt g p xs n k) ρ=if gOn ρ g then (p.run (xs.map (·.val ρ))).bind fun ds=>if ds.length=n then Ev T k (ρ++ds) else none
   else Ev T k (ρ++Sbi n .undef):=by
 unfold Ev;simp only[runT];split
 ·rw[Eae (a:=fun _=>p.run _) (fun _ _ h=>h)
   (fun ds=>by split;exact Cbd k _;exact fun _ _ h=>h)]
  rw[fM];congr 1;funext ds;split
  ·rfl
  ·exact fM _
 ·rfl
theorem Yao {β:Type}(g:Option (aJ×Bool))(f:Nat)(xs:List aJ)(n:Nat)(olds:List aJ)(k:Tm β)(ρ:List D) :
  Ev T (.call g f xs n olds k) ρ=if gOn ρ g then (Fun T f (xs.map (·.val ρ))).bind fun ds=>if ds.length=n then Ev T k (ρ++ds) else none
   else Ev T k (ρ++(Sbi (n-olds.length) .undef++olds.map (·.val ρ))):=by
 unfold Ev;simp only[runT];split
 ·rw[Eae (a:=fun n=>jI T n f _) (Ibh f _)
   (fun ds=>by split;exact Cbd k _;exact fun _ _ h=>h)]
  rw[<- Fun];congr 1;funext ds;split
  ·rfl
  ·exact fM _
 ·rfl
theorem Ibl {β:Type}(c:aJ)(t e:Tm β)(ρ:List D) :
  Ev T (.ite c t e) ρ=match c.val ρ with
   |.bool true=>Ev T t ρ
   |.bool false=>Ev T e ρ
   |_=>none:=by
 unfold Ev;simp only[runT];split
 ·rfl
 ·rfl
 ·exact fM _
theorem Fbd {β:Type}(i:Nat)(t k:Tm β)(ρ:List D) :
  Ev T (.bind i t k) ρ=(Ev T t ρ).bind fun o=>if o.kind=.yield i then Ev T k (ρ++o.vals) else some o:=by
 unfold Ev;simp only[runT];rw[Eae (a:=fun n=>runT (jI T n) n t ρ) (Cbd t ρ) (fun o=>by split;exact Cbd k _;exact fun _ _ h=>h)];congr 1;funext o;split
 ·rfl
 ·exact fM _
theorem Fbb {β:Type}(init:List aJ)(body:Tm β)(ρ:List D):Ev T (.loop init body) ρ=Lp T body ρ (init.map (·.val ρ)):=rfl
theorem Fba {β:Type}(body:Tm β)(ρ vs:List D) :
  Lp T body ρ vs=(Ev T body (ρ++vs)).bind fun o=>if o.kind=.cont then Lp T body ρ o.vals else some o:=by
 have hm:∀ vs,Oan fun n=>iter n (fun vs=>runT (jI T n) n body (ρ++vs)) vs:=fun vs=>Rbs body ρ vs
 unfold Lp
 have e:∀ vs r,(lim fun n=>iter n (fun vs=>runT (jI T n) n body (ρ++vs)) vs)=some r↔((Ev T body (ρ++vs)).bind fun o=>if o.kind=.cont then (lim fun n=>iter n (fun vs=>runT (jI T n) n body (ρ++vs)) o.vals) else some o)=some r:=by
  intro vs r;rw[fK (hm vs)];simp only[Rbt];constructor
  ·rintro⟨n,hn⟩
   cases n with
   |zero=>cases hn
   | succ n =>
    simp only[iter,Rbt]at hn;obtain⟨o,ho,hr⟩:=hn;refine⟨o,Lab.2 ⟨n+1,ho⟩,?_⟩;split at hr
    ·rename_i hk
     rw[if_pos hk,fK (hm _)];exact⟨n+1,lL (fun _ _ h=>h) (Ubw n) _ _ hr⟩
    ·rename_i hk
     rw[if_neg hk];exact hr
  ·rintro⟨o,ho,hr⟩
   obtain⟨n,hn⟩:=Lab.1 ho;split at hr
   ·rename_i hk
    obtain⟨m,qc⟩:=(fK (hm _)).1 hr;refine⟨max n m+1,?_⟩;simp only[iter,Rbt];refine⟨o,(Cbd body (ρ++vs)).le (by omega) hn,?_⟩;rw[if_pos hk];exact lL (fun vs r h=>(Cbd body (ρ++vs)).le (by omega) h) (by omega) _ _ qc
   ·rename_i hk
    refine⟨n+1,?_⟩;simp only[iter,Rbt];exact⟨o,Cbd body _ _ _ hn,by rw[if_neg hk];exact hr⟩
 exact Option.ext (e vs)
theorem Ibg {f:Nat}{t:Tm Unit}(h:T f=.tm t)(args:List D):Fun T f args=(Ev T t args).bind Db0:=by
 apply Option.ext;intro r;rw[Eal];simp only[Rbt];constructor
 ·rintro⟨n,hn⟩
  cases n with
  |zero=>cases hn
  | succ n =>
   simp only[jI,h,Rbt]at hn;obtain⟨o,ho,hr⟩:=hn;exact⟨o,Lab.2 ⟨n,ho⟩,hr⟩
 ·rintro⟨o,ho,hr⟩
  obtain⟨n,hn⟩:=Lab.1 ho;refine⟨n+1,?_⟩;simp only[jI,h,Rbt];exact⟨o,hn,hr⟩
theorem Qag {f:Nat}{e:List D->Option (List D)}(h:T f=.ext e)(args:List D):Fun T f args=e args:=by
 apply Option.ext;intro r;rw[Eal];constructor
 ·rintro⟨n,hn⟩
  cases n with
  |zero=>cases hn
  |succ n=>simpa[jI,h] using hn
 ·intro hr
  exact⟨1,by simpa[jI,h] using hr⟩
end
def Tm.strip {β:Type}:Tm β->Tm Unit
 |.leaf k xs _=>.leaf k xs ()
 |.stuck=>.stuck
 |.lt g p xs n k=>.lt g p xs n k.strip
 |.call g f xs n olds k=>.call g f xs n olds k.strip
 |.ite c t e=>.ite c t.strip e.strip
 |.bind i t k=>.bind i t.strip k.strip
 |.loop init body=>.loop init body.strip
def Out.strip {β:Type}(o:Out β):Out Unit:=⟨o.kind,o.xs,(),o.env⟩
theorem Out.strip_vals {β:Type}(o:Out β):o.strip.vals=o.vals:=rfl
theorem Iaw {β:Type}{f:List D->Option (Out β)}{g:List D->Option (Out Unit)}(h:∀ vs,g vs=(f vs).map Out.strip):∀ n vs,iter n g vs=(iter n f vs).map Out.strip
 |0,_=>rfl
 | n + 1, vs => by
  simp only[iter,h]
  cases f vs with
  |none=>rfl
  | some o =>
   simp only[Sb9,Rb1];by_cases hk:o.kind=.cont
   ·have:o.strip.kind=.cont:=hk
    rw[if_pos hk,if_pos this,Out.strip_vals];exact Iaw h n _
   ·have:¬ o.strip.kind=.cont:=hk
    rw[if_neg hk,if_neg this];rfl
theorem Sa4 {β:Type}(cf:Nat->List D->Option (List D))(n:Nat)(t:Tm β):∀ ρ,runT cf n t.strip ρ=(runT cf n t ρ).map Out.strip:=by
 induction t with
 |leaf=>exact fun _=>rfl
 |stuck=>exact fun _=>rfl
 | lt g p xs k' k ih =>
  intro ρ;simp only[Tm.strip,runT];split
  ·cases p.run (xs.map (·.val ρ)) with
   |none=>rfl
   | some ds =>
    simp only[Rb1];split
    ·exact ih _
    ·rfl
  ·exact ih _
 | call g f xs k' olds k ih =>
  intro ρ;simp only[Tm.strip,runT];split
  ·cases cf f (xs.map (·.val ρ)) with
   |none=>rfl
   | some ds =>
    simp only[Rb1];split
    ·exact ih _
    ·rfl
  ·exact ih _
 | ite c t e yr ihe =>
  intro ρ;simp only[Tm.strip,runT];split
  ·exact yr _
  ·exact ihe _
  ·rfl
 | bind i t k yr ihk =>
  intro ρ;simp only[Tm.strip,runT,yr]
  cases runT cf n t ρ with
  |none=>rfl
  | some o =>
   simp only[Sb9,Rb1];by_cases hk:o.kind=.yield i
   ·have:o.strip.kind=.yield i:=hk
    rw[if_pos hk,if_pos this,Out.strip_vals];exact ihk _
   ·have:¬ o.strip.kind=.yield i:=hk
    rw[if_neg hk,if_neg this];rfl
 | loop init body ih =>
  intro ρ;simp only[Tm.strip,runT];exact Iaw (fun vs=>ih _) _ _
inductive Tr (α:Type) where
 |nil
 |node (x:Option α) (l r:Tr α)
 |over (n:Nat) (x:Option α) (t:Tr α)
 deriving Inhabited
def Tr.get {α:Type}:Tr α->Nat->Option α
 |.nil,_=>none
 |.node x l r,n=>bif Nat.beq n 0 then x else bif Nat.beq (n % 2) 1 then l.get (n / 2) else r.get (n / 2-1)
 |.over m x t,n=>bif Nat.beq n m then x else t.get n
def Tr.set {α:Type}:Nat->Tr α->Nat->Option α->Tr α
 |0,t,n,x=>.over n x t
 |k+1,.node y l r,n,x=>bif Nat.beq n 0 then .node x l r else bif Nat.beq (n % 2) 1 then .node y (Tr.set k l (n / 2) x) r else .node y l (Tr.set k r (n / 2-1) x)
 |k+1,.nil,n,x=>bif Nat.beq n 0 then .node x .nil .nil else bif Nat.beq (n % 2) 1 then .node none (Tr.set k .nil (n / 2) x) .nil else .node none .nil (Tr.set k .nil (n / 2-1) x)
 |_+1,.over m y t,n,x=>.over n x (.over m y t)
inductive CK where
 |sc (z:D)
 |sl (sz:Nat)
 |pn
 |ot
 deriving Inhabited
structure TI where
 agg:Bool
 size:Nat
 bytes:Nat
 cells:List CK
 flds:List (Nat×Nat)
 elem:Option Nat
 ik:Option IntKind
 isBool:Bool
 isStr:Bool
 isPtr:Bool
 cmp:Bool
 deriving Inhabited
def flat (P:Program):Nat->TypeId->Option (List TypeId)
 |0,_=>none
 | d + 1, t =>
  match P.underlying t with
  |some (.struct fs)=>fs.toList.foldl (fun acc f=>acc.bind fun l=>(flat P d f.type).bind fun m=>bif Nat.beq f.offset l.length then some (l++m) else none) (some [])
  |some (.array _ _)=>none
  |some _=>some [t]
  |none=>none
def mQ (P:Program)(t:TypeId):CK :=
 match P.underlying t with
 |some (.int k)=>.sc (.int k 0)
 |some .bool=>.sc (.bool false)
 |some .string=>.sc (.str [])
 |some (.slice e)=>.sl (((P.info? e).map (·.size)).getD 0)
 |some (.pointer _)=>.pn
 |_=>.ot
def zeroCell:Value->CK->Bool
 |.int k n,.sc (.int k' n')=>decide (k=k')&&decide (n=0)&&decide (n'=0)
 |.bool b,.sc (.bool b')=>decide (b=false)&&decide (b'=false)
 |.string s,.sc (.str l)=>decide (s.data.toList=[])&&decide (l=[])
 |.slice none 0 0,.sl _=>true
 |.pointer none,.pn=>true
 |_,_=>false
def Qaj (agg:Bool)(z:Option Value)(cs:List CK):Bool :=
 match agg,z,cs with
 |true,some (.agg vs),cs=>vs.toList.length==cs.length&&(vs.toList.zip cs).all fun p=>zeroCell p.1 p.2
 |false,some v,[c]=>zeroCell v c
 |_,_,_=>false
def Kb9 (P:Program)(d:Nat)(t:TypeId):Bool :=
 match flat P d t,P.info? t with
 |some l,some i=>Nat.beq l.length i.size
 |_,_=>false
def Ka3 (P:Program):Nat->TypeId->Bool
 |0,_=>false
 | d + 1, t =>
  match P.underlying t with
  |some (.int _)=>true
  |some .bool=>true
  |some .string=>true
  | some (.struct fs) => !(P.stoodInHeld t) && fs.toList.all fun f => f.name != "_" && Ka3 P d f.type && Kb9 P d f.type
  |_=>false
def Ham:TypeDesc->Bool
 |.struct _=>true
 |.array _ _=>true
 |_=>false
def Xaa:TypeDesc->List (Nat×Nat)
 |.struct fs=>fs.toList.map fun f=>(f.offset,f.type)
 |_=>[]
def Xam:TypeDesc->Option Nat
 |.slice e=>some e
 |_=>none
def Lbd:TypeDesc->Option IntKind
 |.int k=>some k
 |_=>none
def Pas:TypeDesc->Bool
 |.bool=>true
 |_=>false
def Wal:TypeDesc->Bool
 |.string=>true
 |_=>false
def Wam:TypeDesc->Bool
 |.pointer _=>true
 |_=>false
def Mbj (P:Program)(t:TypeId)(i:TypeInfo)(u:TypeDesc)(cs:List CK):TI :=
  { agg:=Ham u,size:=i.size,bytes:=i.bytes,cells:=cs,flds:=Xaa u,elem:=Xam u,ik:=Lbd u,isBool:=Pas u,isStr:=Wal u,
    isPtr:=Wam u,cmp:=Ham u&&Ka3 P 12 t&&!(P.eqGuardType P.depth t) }
def yQ (P:Program)(t:TypeId):Option TI :=
 match P.info? t,P.underlying t,(flat P 12 t).map (·.map (mQ P)) with
 |some i,some u,some cs=>bif Nat.beq cs.length i.size&&Qaj (Ham u) i.zero cs then some (Mbj P t i u cs) else none
 |_,_,_=>none
inductive Pth where
 |no
 |view
 |path (p:List (aJ×Nat×Nat))
 |suf (sz:Nat) (lo:aJ)
 deriving Inhabited
inductive aO where
 |dead
 |sc (x:aJ)
 |su (g:aJ×Bool) (x:aJ)
 |ex (r:Nat)
 |sn (deps:List (Nat×Nat)) (p:Pth) (nie:Bool) (x:aJ)
 |px (b off:Nat)
 |pe (l:aO) (sz:Nat) (i:aJ) (off:Nat)
 |rp (deps:List (Nat×Nat)) (sz:Nat) (x:aJ)
 |pn
 |clo (f:Nat) (fW:List aO)
 deriving Inhabited
inductive SV where
 |dead
 |one (l:aO)
 |agg (ls:List aO)
 |tup (vs:List (Bool×List aO))
 deriving Inhabited
inductive RSt where
 |live | frozen | gone
 |fwd (r:Nat)
 deriving DecidableEq,Inhabited
inductive aP where
 |slot (g:Option (aJ×Bool)) (v:SV)
 |box (ro:Bool) (ls:List aO)
 |root (x:aJ) (m b9:Nat) (st:RSt)
 deriving Inhabited
def kT (t:Nat):Nat:=3*t
def kB (b:Nat):Nat:=3*b+1
def kR (r:Nat):Nat:=3*r+2
inductive RdM (α:Type) where
 |ret (a:α)
 |no
 |rd (k:Nat) (f:Option aP->RdM α)
def RdM.bind {α γ:Type}:RdM α->(α->RdM γ)->RdM γ
 |.ret a,f=>f a
 |.no,_=>.no
 |.rd k h,f=>.rd k fun c=>(h c).bind f
instance:Monad RdM:={ pure:=.ret,bind:=.bind }
def RdM.run {α:Type}(look:Nat->Option aP):RdM α->Option (α×List Nat)
 |.ret a=>some (a,[])
 |.no=>none
 |.rd k f=>((f (look k)).run look).map fun x=>(x.1,k::x.2)
def RdM.eval {α:Type}(look:Nat->Option aP):RdM α->Option α
 |.ret a=>some a
 |.no=>none
 |.rd k f=>(f (look k)).eval look
def rdK (k:Nat):RdM (Option aP):=.rd k .ret
def mG {α:Type}:Option α->RdM α
 |some a=>.ret a
 |none=>.no
def bL (b:Bool):RdM Unit:=bif b then .ret () else .no
inductive Step where
 |prim (p:aN) (xs:List aJ) (n:Nat)
 |call (f:Nat) (xs:List aJ) (n:Nat) (olds:List aJ)
 deriving Inhabited
def Step.n:Step->Nat
 |.prim _ _ n=>n
 |.call _ _ n _=>n
structure bM where
 lets:List Step
 upd:List (Nat×aP)
 deriving Inhabited
def bF (l:List Step):Nat:=l.foldl (fun s x=>s+x.n) 0
inductive LS where
 |sc
 |fz (nie:Bool)
 |mu (m:Nat)
 |ow (m:Nat)
 |px (b:Nat)
 |clo (f:Nat) (fW:List LS)
 |rp (sz:Nat)
 deriving Inhabited
inductive BS where
 |sc
 |fz (nie:Bool)
 |ow (m:Nat)
 |ot
 deriving Inhabited
inductive BO where
 |sc
 |fz
 |ow (m:Nat)
 |dead
 deriving Inhabited
inductive LR where
 |sc
 |fz
 |ow (m:Nat)
 |rp (sz:Nat)
 |bx (cells:List BO)
 deriving Inhabited
structure Sig where
 fn:Nat
 params:List (Bool×List LS)
 boxes:List (Bool×List (BS×BO))
 results:List (Bool×List LR)
 deriving Inhabited
structure Env where
 ti:Nat->Option TI
 sigs:List (Nat×Sig)
 ntmps:Nat
 ngh:Nat:=0
 freezeEx:Bool:=false
 moveSn:Bool:=false
 nomv:List (Nat×Nat):=[]
 hints:List (Nat×List (Nat×Nat×Nat×Nat)×List Nat×Nat×List Nat):=[]
 pxs:List Nat:=[]
 nbx:Nat:=0
 deriving Inhabited
def Lbh (a b:IntKind):Bool:=decide (a=b)
def D.beq0:D->D->Bool
 |.int k n,.int k' n'=>Lbh k k'&&decide (n=n')
 |.bool a,.bool b=>a==b
 |.str a,.str b=>a==b
 |.rows s [],.rows s' []=>Nat.beq s s'
 |.undef,.undef=>true
 |.hole,.hole=>true
 |_,_=>false
def aJ.beq0:aJ->aJ->Bool
 |.v i,.v j=>Nat.beq i j
 |.c a,.c b=>a.beq0 b
 |_,_=>false
def Ebq:Option (aJ×Bool)->Option (aJ×Bool)->Bool
 |none,none=>true
 |some (a,b),some (c,d)=>a.beq0 c&&(b==d)
 |_,_=>false
def fC:CK->aO
 |.sc z=>.sc (.c z)
 |.sl sz=>.sn [] .no true (.c (.rows sz []))
 |.pn=>.pn
 |.ot=>.dead
def Pa5 (ti:Nat->Option TI)(t:TypeId):Value->Option SV
 |.int k n=>some (.one (.sc (.c (.int k n))))
 |.bool b=>some (.one (.sc (.c (.bool b))))
 |.string s=>some (.one (.sc (.c (.str s.data.toList))))
 | .slice none 0 0 => match ti t with
  |some { cells:=[.sl sz],.. }=>some (.one (.sn [] .no true (.c (.rows sz []))))
  |_=>none
 |.pointer none=>some (.one .pn)
 |_=>none
section
variable (E:Env)
def noG:Option (aJ×Bool)->Bool
 |none=>true
 |some _=>false
def unG (g:Option (aJ×Bool)):SV->SV
 |.one (.su h x)=>bif Ebq g (some h) then .one (.sc x) else .one (.su h x)
 |v=>v
def gOk (g:Option (aJ×Bool)):Option (aJ×Bool)->Bool
 |none=>true
 |g'=>Ebq g g'
def Mah (g:Option (aJ×Bool))(t:TypeId):Operand->RdM SV
 | .tmp k => .rd (kT k) fun
  |some (.slot g' v)=>bif gOk g g'&&Tbh k E.ntmps then .ret (unG g v) else .no
  |_=>.no
 |.const v=>mG (Pa5 E.ti t v)
 |.func f=>.ret (.one (.clo f []))
 |.global _=>.no
def one:SV->RdM aO
 |.one l=>.ret l
 |_=>.no
def rdL (g:Option (aJ×Bool))(t:TypeId)(x:Operand):RdM aO:=do one (<- Mah E g t x)
def sV (g:Option (aJ×Bool)):aO->Option aJ
 |.sc a=>some a
 |.su h a=>bif Ebq g (some h) then some a else none
 |_=>none
def rdA (g:Option (aJ×Bool))(t:TypeId)(x:Operand):RdM aJ:=do
 mG (sV g (<- rdL E g t x))
def Iaj (g:Option (aJ×Bool))(h:aJ×Bool)(t:TypeId)(x:Operand):RdM aJ:=do
 let l <- rdL E g t x
 match sV g l with
 |some a=>.ret a
 |none=>mG (sV (some h) l)
def mkS (g:Option (aJ×Bool))(x:aJ):SV:=match g with
 |none=>.one (.sc x)
 |some z=>.one (.su z x)
def uF:List (Nat×Nat)->RdM (List (Nat×Nat))
 |[]=>.ret []
 | (r, k) :: rest => do
  match <- rdK (kR r) with
  | some (.root _ _ b9 st) =>
   let ds <- uF rest
   match st with
   |.frozen=>bif Nat.beq b9 k then .ret ds else .no
   |.live=>bif Nat.beq b9 k then .ret ((r,k)::ds) else .no
   |_=>.no
  |_=>.no
structure SlR where
 x:aJ
 deps:List (Nat×Nat)
 own:Option (Nat×Nat×Nat×Pth)
 nie:Bool
def wB:aO->RdM SlR
 | .ex r => do
  match <- rdK (kR r) with
  |some (.root x m b9 .live)=>.ret ⟨x,[(r,b9)],some (r,b9,m,.path []),false⟩
  |some (.root x m b9 .frozen)=>.ret ⟨x,[],none,false⟩
  |_=>.no
 | .sn deps p nie x => do
  let ds <- uF deps
  match p,deps,ds with
  |.no,_,_=>.ret ⟨x,ds,none,nie⟩
  | p, [(r, k)], [_] => do
   match <- rdK (kR r) with
   |some (.root _ m _ .live)=>.ret ⟨x,[(r,k)],some (r,k,m,p),nie⟩
   |_=>.no
  |_,_,_=>.ret ⟨x,ds,none,nie⟩
 |_=>.no
def iX (s:SlR)(i:aJ)(sz off:Nat):CK->aJ->aO
 |.sc _,y=>.sc y
 | .sl _, y =>
  match s.own with
  |some (r,k,m,.path p)=>bif Nat.ble (p.length+2) m then .sn [(r,k)] (.path (p++[(i,sz,off)])) false y else .sn [] .no false y
  |_=>.sn s.deps .no false y
 |_,_=>.dead
def dZ (s:SlR)(i:aJ)(sz:Nat):Nat->List CK->Nat->List aO
 |_,[],_=>[]
 |off,c::cs,y=>iX s i sz off c (.v y)::dZ s i sz (off+1) cs (y+1)
def jF (agg:Bool):SV->Option (List aO)
 |.one l=>bif agg then none else some [l]
 |.agg ls=>bif agg then some ls else none
 |_=>none
def Qaz (agg:Bool)(ls:List aO):Option SV :=
 bif agg then some (.agg ls) else match ls with
  |[l]=>some (.one l)
  |_=>none
def Dae:CK->Nat
 |.sc (.int _ _)=>0
 |.sc (.bool _)=>1
 |.sc (.str _)=>2
 |_=>3
def Ebd:CK->Bool
 |.sc _=>true
 |_=>false
def Lag:List CK->Bool
 |[]=>true
 |.sc _::r=>Lag r
 |_=>false
structure Put where
 xs:List aJ
 moves:List (Nat×Nat×Nat)
 holes:List (Nat×Nat×List (aJ×Nat×Nat))
 frz:List Nat
 depth:Nat
def big:Nat:=99
def Pak (mv e9:Bool)(off:Nat):aO->RdM Put
 |.sc x=>.ret ⟨[x],[],[],[],big⟩
 | .ex r => do
  match <- rdK (kR r) with
  |some (.root x m b9 .live)=>bif mv then .ret ⟨[x],[(off,r,m)],[],[],m⟩ else .ret ⟨[x],[],[],[r],0⟩
  |some (.root x m b9 .frozen)=>.ret ⟨[x],[],[],[],0⟩
  |_=>.no
 | .sn deps p nie x => do
  match deps,nie,x with
  |[],true,.c (.rows _ [])=>.ret ⟨[x],[],[],[],big⟩
  | _, _, _ =>
   let s <- wB (.sn deps p nie x)
   match s.own with
   |some (r,k,m,.path q)=>bif e9&&Nat.ble (q.length+1) m then .ret ⟨[x],[],[(off,r,q)],[],m-q.length⟩ else .ret ⟨[x],[],[],[r],0⟩
   |_=>.ret ⟨[x],[],[],s.deps.map (·.1),0⟩
 |_=>.no
def pW (mv e9:Bool):Nat->List aO->RdM Put
 |_,[]=>.ret ⟨[],[],[],[],big⟩
 | off, l :: ls => do
  let a <- Pak mv e9 off l
  let b <- pW mv e9 (off+1) ls
  .ret ⟨a.xs++b.xs,a.moves++b.moves,a.holes++b.holes,a.frz++b.frz,min a.depth b.depth⟩
def has (l:List Nat)(n:Nat):Bool:=l.any (Nat.beq n)
def meets (a b:List Nat):Bool:=a.any fun x=>has b x
def dK:List Nat->RdM (List (Nat×aP))
 |[]=>.ret []
 | r :: rs => do
  match <- rdK (kR r) with
  | some (.root x m b9 .live) => do
   let l <- dK rs
   .ret ((kR r,.root x m b9 .frozen)::l)
  |some (.root _ _ _ .frozen)=>dK rs
  |_=>.no
def distinct:List Nat->Bool
 |[]=>true
 |x::r=>!(has r x)&&distinct r
def Ja8:Nat->aJ->List (aJ×Nat×Nat)->aJ->List Step×aJ
 |_,_,[],y=>([],y)
 | nv, X, (i, sz, off) :: p, y =>
  match p with
  |[]=>([.prim (.set sz off 1) [X,i,y] 1],.v nv)
  | _ =>
   let (l,z):=Ja8 (nv+1) (.v nv) p y
   let n:=bF l
   ([.prim (.row sz off [false]) [X,i] 1]++l++[.prim (.set sz off 1) [X,i,z] 1],.v (nv+1+n))
def rO (o:Oper)(g:Option (aJ×Bool))(lets:List Step)(v:SV)(upd:List (Nat×aP)):RdM bM :=
 .ret ⟨lets,(match o.dst with|some d=>[(kT d,.slot g v)]|none=>[])++upd⟩
def rM (o:Oper)(g:Option (aJ×Bool))(nv:Nat)(p:aN)(xs:List aJ):RdM bM :=
 .ret ⟨[.prim p xs 1],match o.dst with|some d=>[(kT d,.slot none (mkS g (.v nv)))]|none=>[]⟩
def Vav (o:Oper)(g:Option (aJ×Bool))(nv:Nat)(v:SV):RdM bM :=
 match g,v with
 | some _, .one l => match sV g l with
  |some x=>rM o g nv .id [x]
  |none=>rO o g [] v []
 |_,_=>rO o g [] v []
def atoms:List aO->Option (List aJ)
 |[]=>some []
 |.sc x::r=>(atoms r).map (x::·)
 |_=>none
def sW:List SV->Option (List aO)
 |[]=>some []
 |.one l::r=>(sW r).map (l::·)
 |_=>none
def Gaz (g:Option (aJ×Bool)):List aO->Option (List aJ)
 |[]=>some []
 |l::r=>(sV g l).bind fun x=>(Gaz g r).map (x::·)
def tiR (t:TypeId):RdM TI:=mG (E.ti t)
def setRange {α:Type}(ls:List α)(off:Nat)(vs:List α):List α:=ls.take off++vs++ls.drop (off+vs.length)
def Law:aO->Bool
 |.su _ _=>false
 |_=>true
def Ban (nv:Nat)(mv e9:Bool)(o:Oper)(g:Option (aJ×Bool))(ti:TI)(p:aO)(ls:List aO):RdM bM:=do
 bL (Nat.beq ls.length ti.size&&o.dst.isNone)
 match p with
 | .px b off => do
  match <- rdK (kB b) with
  | some (.box false bs) => do
   bL (Nat.ble (off+ls.length) bs.length&&noG g&&ls.all Law)
   .ret ⟨[],[(kB b,.box false (setRange bs off ls))]⟩
  |_=>.no
 | .pe l sz i off => do
  bL (noG g)
  let s <- wB l
  match s.own with
  | some (r, k, m, .path q) => do
   bL (Nat.ble (q.length+1) m)
   match <- rdK (kR r) with
   | some (.root X m b9 .live) => do
    let pu <- pW mv e9 off ls
    let fr <- dK pu.frz
    bL (!(has pu.frz r)&&!(pu.moves.any fun z=>Nat.beq z.2.1 r)&&pu.holes.isEmpty&&distinct (pu.moves.map (·.2.1))&&!(pu.moves.any fun z=>has pu.frz z.2.1))
    let m':=min m (q.length+1+pu.depth)
    let st1:Step:=.prim (.set sz off ti.size) ([s.x,i]++pu.xs) 1
    let (l2,X'):=Ja8 (nv+1) X q (.v nv)
    .ret ⟨st1::l2,(kR r,.root X' m' (b9+1) .live)::(pu.moves.map fun z=>(kR z.2.1,.root (.c .hole) 0 0 .gone))++fr⟩
   |_=>.no
  |_=>.no
 |_=>.no
def Qat (nv:Nat)(o:Oper)(g:Option (aJ×Bool))(ti:TI)(p:aO):RdM bM:=do
 match p with
 | .px b off => do
  match <- rdK (kB b) with
  | some (.box _ bs) =>
   bL (Nat.ble (off+ti.size) bs.length)
   match Qaz ti.agg ((bs.drop off).take ti.size) with
   |some v=>Vav o g nv v
   |none=>.no
  |_=>.no
 | .pe l sz i off => do
  let s <- wB l
  match Qaz ti.agg (dZ s i sz off ti.cells nv) with
  |some (.one (.sc x))=>rM o g nv (.row sz off [true]) [s.x,i]
  |some v=>rO o g [.prim (.row sz off (ti.cells.map Ebd)) [s.x,i] ti.size] v []
  |none=>.no
 |_=>.no
def Oax (o:Oper)(g:Option (aJ×Bool))(fo:Nat):aO->RdM bM
 |.px b off=>rO o g [] (.one (.px b (off+fo))) []
 |.pe l sz i off=>rO o g [] (.one (.pe l sz i (off+fo))) []
 |_=>.no
def qD (flds:List (Nat×Nat))(ti:Nat->Option TI):List aO->List (Nat×SV)->Option (List aO)
 |ls,[]=>some ls
 | ls, (i, v) :: r =>
  match flds[i]? with
  | some (off, t) => match ti t with
   | some f => match jF f.agg v with
    |some vs=>bif Nat.beq vs.length f.size&&Nat.ble (off+f.size) ls.length then qD flds ti (setRange ls off vs) r else none
    |none=>none
   |none=>none
  |none=>none
def Bau (g:Option (aJ×Bool))(ty:Nat->TypeId):List (Nat×Operand)->RdM (List (Nat×SV))
 |[]=>.ret []
 | (i, x) :: r => do
  let v <- Mah E g (ty i) x
  let l <- Bau g ty r
  .ret ((i,v)::l)
def Aax (ti:TI)(len:Nat):List aO->List (Nat×SV)->Option (List aO)
 |ls,[]=>some ls
 | ls, (i, v) :: r =>
  match jF ti.agg v with
  |some vs=>bif Nat.beq vs.length ti.size&&Tbh i len then Aax ti len (setRange ls (i*ti.size) vs) r else none
  |none=>none
def Abl {α:Type}(l:List α):Nat->List α
 |0=>[]
 |n+1=>l++Abl l n
def Qau (oY:Bool)(y:SlR):RdM (Nat×List (Nat×aP)×List Nat) :=
 bif oY then .ret (big,[],y.deps.map (·.1)) else
 match y.own with
 | some (r, k, m, .path []) =>
  bif Nat.ble 2 m then .ret (m,[(kR r,.root (.c .hole) 0 0 .gone)],[r]) else .ret (1,[],[r])
 | some (r, k, m, _) => do
  let fr <- dK [r]
  .ret (1,fr,[r])
 | none => match y.x with
  |.c (.rows _ [])=>.ret (big,[],[])
  | _ => do
   let fr <- dK (y.deps.map (·.1))
   .ret (1,fr,y.deps.map (·.1))
def vV (nv nr:Nat)(o:Oper)(ti:TI)(y:SlR)(dy:Nat)(gE:List (Nat×aP))(sx:aJ)(m:Nat)(pre:List Step)(upd:List (Nat×aP)):RdM bM :=
 rO o none (pre++[.prim (.app ti.size ti.bytes (Lag ti.cells)) [sx,y.x] 1]) (.one (.ex nr))
  ((kR nr,.root (.v (nv+bF pre)) (bif Lag ti.cells then big else min m dy) 0 .live)::upd++gE)
def Jam (nv nr:Nat)(mv e9:Bool)(o:Oper)(ti:TI)(sl yl:aO):RdM bM:=do
 let y <- wB yl
 let oY:=Lag ti.cells
 let (dy,gE,ry) <- Qau oY y
 match sl with
 |.sn [] _ true (.c (.rows z []))=>vV nv nr o ti y dy gE (.c (.rows z [])) big [] []
 | _ => do
  let s <- wB sl
  match s.own with
  | some (r, k, m, q) =>
   bL ((!(has ry r)||oY)&&Nat.ble 1 m)
   match q with
   |.path []=>vV nv nr o ti y dy gE s.x m [] [(kR r,.root (.c .hole) 0 0 .gone)]
   |.view=>bif oY||Nat.beq m 1 then vV nv nr o ti y dy gE s.x m [] [(kR r,.root (.c .hole) 0 0 .gone)] else .no
   | .path q => do
    bL (Nat.ble (q.length+1) m&&!(has ry r))
    match <- rdK (kR r) with
    | some (.root X m b9 .live) =>
     let (l,X'):=Ja8 nv X q (.c .hole)
     vV nv nr o ti y dy gE s.x (m-q.length) l [(kR r,.root X' m (b9+1) .live)]
    |_=>.no
   |.no=>.no
   |.suf _ _=>.no
  |none=>.no
def iY:List LS->List aO->List (Nat×Nat×Nat)->Option (List (Nat×Nat×Nat))
 |[],[],acc=>some acc
 |.px b::ss,.px c off::ls,acc=>iY ss ls ((b,c,off)::acc)
 |_,_,_=>none
def La7:List LS->List aO->Bool
  |[],[]=>true
  | s :: ss, l :: ls =>
    (match s,l with
     |.sc,.sc _=>true
     |.sc,.su _ _=>true
     |.fz _,.ex _=>true
     |.fz _,.sn ..=>true
     |.mu _,.ex _=>true
     |.mu _,.sn ..=>true
     |.ow _,.ex _=>true
     |.ow _,.sn ..=>true
     |.px _,.px _ _=>true
     |.clo f cs,.clo f' kt=>Nat.beq f f'&&Nat.beq cs.length kt.length
     |.rp _,.rp _ _ _=>true
     |_,_=>false)&&La7 ss ls
  |_,_=>false
def qQ:SV->List aO
 |.one l=>[l]
 |.agg ls=>ls
 |_=>[]
def Lbs:SV->Bool
 |.agg _=>true
 |_=>false
def Qab:List (Bool×List LS)->List SV->Bool
 |[],[]=>true
 |(a,ss)::ps,v::vs=>(a==Lbs v)&&La7 ss (qQ v)&&Qab ps vs
 |_,_=>false
def Fa6 (f:Nat)(vs:List SV):List (Nat×Sig)->Option (Nat×Sig)
 |[]=>none
 |(k,s)::r=>bif Nat.beq s.fn f&&Qab s.params vs then some (k,s) else Fa6 f vs r
inductive RT where
 |nil
 |own (r d:Nat)
 |mu (r d:Nat) (q:List (aJ×Nat×Nat)) (X:aJ)
 deriving Inhabited
structure Take where
 xs:List aJ
 ptrs:List (Nat×Nat×Nat)
 deps:List (Nat×Nat)
 lets:List Step
 rts:List RT
def Take.empty:Take:=⟨[],[],[],[],[]⟩
def Lam (g:Option (aJ×Bool))(T:Take)(l:aO):RdM Take:=do
 let x <- mG (sV g l)
 .ret { T with xs:=T.xs++[x] }
def pK (T:Take)(nie:Bool)(l:aO):RdM Take:=do
 let s <- wB l
 .ret { T with xs:=T.xs++[s.x],deps:=T.deps++s.deps,lets:=T.lets++(bif nie&&!s.nie then [.prim .ne [s.x] 0] else []) }
def sS (T:Take)(d:Nat):aO->RdM Take
 | .ex r => do
  match <- rdK (kR r) with
  | some (.root x m b9 .live) => do
   bL (Nat.ble d m)
   .ret { T with xs:=T.xs++[x],rts:=T.rts++[.own r d] }
  |_=>.no
 |.sn [] _ true (.c (.rows z []))=>.ret { T with xs:=T.xs++[.c (.rows z [])],rts:=T.rts++[.nil] }
 |_=>.no
def Hav (T:Take)(d:Nat)(l:aO):RdM Take:=do
 let s <- wB l
 match s.own with
 | some (r, k, m, .path q) => do
  bL (Nat.ble (q.length+d) m)
  match <- rdK (kR r) with
  |some (.root X _ _ .live)=>.ret { T with xs:=T.xs++[s.x],rts:=T.rts++[.mu r d q X] }
  |_=>.no
 |_=>.no
def Eau (T:Take)(z:Nat):aO->RdM Take
 | .rp deps nx x => do
  let ds <- uF deps
  .ret { T with xs:=T.xs++[x],deps:=T.deps++ds }
 |.pn=>.ret { T with xs:=T.xs++[.c (.rows z [])] }
 |_=>.no
def qN (g:Option (aJ×Bool))(T:Take):LS->aO->RdM Take
 |.sc,l=>Lam g T l
 |.fz nie,l=>pK T nie l
 |.mu d,l=>Hav T d l
 |.ow d,l=>sS T d l
 |.px b,.px c off=>.ret { T with ptrs:=T.ptrs++[(b,c,off)] }
 | .clo f cs, .clo f' ls =>
  match iY cs ls [] with
  |some l=>bif Nat.beq f f' then .ret { T with ptrs:=T.ptrs++l } else .no
  |none=>.no
 |.rp z,l=>Eau T z l
 |_,_=>.no
def dA (g:Option (aJ×Bool)):Take->List LS->List aO->RdM Take
 |T,[],[]=>.ret T
 | T, s :: ss, l :: ls => do
  let T <- qN g T s l
  dA g T ss ls
 |_,_,_=>.no
def eG (g:Option (aJ×Bool)):Take->List (Bool×List LS)->List SV->RdM Take
 |T,[],[]=>.ret T
 | T, (a, ss) :: ps, v :: vs => do
  let ls <- mG (jF a v)
  let T <- dA g T ss ls
  eG g T ps vs
 |_,_,_=>.no
def yV (T:Take):BS->aO->RdM Take
 |.sc,.sc x=>.ret { T with xs:=T.xs++[x] }
 |.fz nie,l=>pK T nie l
 |.ow d,l=>sS T d l
 |.ot,l=>bif Law l then .ret T else .no
 |_,_=>.no
def dQ:Take->List (BS×BO)->List aO->RdM Take
 |T,[],_=>.ret T
 | T, (s, _) :: ss, l :: ls => do
  let T <- yV T s l
  dQ T ss ls
 |_,_::_,[]=>.no
def Pbb:List (BS×BO)->Bool
 |[]=>true
 |(.ow _,_)::_=>false
 |_::r=>Pbb r
def nE (b:Nat):List (Nat×Nat×Nat)->Option (Nat×Nat)
 |[]=>none
 |(b',c,off)::r=>bif Nat.beq b' b then some (c,off) else nE b r
def eD (ptrs:List (Nat×Nat×Nat)):Take->Nat->List (Bool×List (BS×BO))->RdM Take
 |T,_,[]=>.ret T
 | T, b, (ro, cs) :: r => do
  match nE b ptrs with
  | some (c, off) => do
   match <- rdK (kB c) with
   | some (.box l8 ls) => do
    bL (((ro&&Pbb cs)||(!ro&&!l8&&!cs.isEmpty))&&Nat.ble (off+cs.length) ls.length)
    let T <- dQ T cs (ls.drop off)
    eD ptrs T (b+1) r
   |_=>.no
  |none=>.no
def gZ (w:Bool)(ptrs:List (Nat×Nat×Nat)):Nat->List (Bool×List (BS×BO))->List Nat
 |_,[]=>[]
 |b,(ro,_)::r=>bif ro==w then (match nE b ptrs with | some (c,_)=>c::gZ w ptrs (b+1) r | none=>gZ w ptrs (b+1) r) else gZ w ptrs (b+1) r
def Rae (nbx:Nat)(ptrs:List (Nat×Nat×Nat)):List (Nat×Nat×Nat)->Bool
 |[]=>true
 |(b,c,off)::r=>Tbh b nbx&&(match nE b ptrs with | some (c',lk)=>Nat.beq c c'&&Nat.beq off lk | none=>false)&&Rae nbx ptrs r
def bW:List RT->List Nat
 |[]=>[]
 |.nil::r=>bW r
 |.own s _::r=>s::bW r
 |.mu s _ _ _::r=>s::bW r
def Uav (s:Sig)(T:Take):Bool :=
 let wr:=gZ false T.ptrs 0 s.boxes
 Rae s.boxes.length T.ptrs T.ptrs&&distinct (bW T.rts)&&!(T.deps.any fun d=>has (bW T.rts) d.1)&&distinct wr&&!(meets wr (gZ true T.ptrs 0 s.boxes))
def LR.n:LR->Nat
 |.bx cs=>cs.length
 |_=>1
def lN:List LR->Nat
 |[]=>0
 |s::ss=>s.n+lN ss
def bxL:List LR->Nat
 |[]=>0
 |.bx _::ss=>1+bxL ss
 |_::ss=>bxL ss
def jR:List (Bool×List LR)->Nat
 |[]=>0
 |(_,ss)::rs=>bxL ss+jR rs
def bI:List (Bool×List LR)->Nat
 |[]=>0
 |(_,ss)::rs=>lN ss+bI rs
def iZ (deps:List (Nat×Nat))(y nr:Nat):BO->aO×List (Nat×aP)×Nat
 |.sc=>(.sc (.v y),[],nr)
 |.fz=>(.sn deps .no false (.v y),[],nr)
 |.ow m=>(.ex nr,[(kR nr,.root (.v y) m 0 .live)],nr+1)
 |.dead=>(.dead,[],nr)
def dJ (deps:List (Nat×Nat)):Nat->Nat->List BO->List aO×List (Nat×aP)×Nat
 |_,nr,[]=>([],[],nr)
 | y, nr, s :: ss =>
  let (l,u,nr):=iZ deps y nr s
  let (ls,us,nr):=dJ deps (y+1) nr ss
  (l::ls,u++us,nr)
def bX (gd:Bool)(deps:List (Nat×Nat))(nb y nr:Nat):LR->aO×List (Nat×aP)×Nat
 |.sc=>(.sc (.v y),[],nr)
 |.fz=>(.sn deps .no false (.v y),[],nr)
 |.ow m=>bif gd then (.sn deps .no false (.v y),[],nr+1) else (.ex nr,[(kR nr,.root (.v y) m 0 .live)],nr+1)
 |.rp sz=>(.rp deps sz (.v y),[],nr)
 | .bx cs =>
  let (ls,us,nr):=dJ deps y nr cs
  (.px nb 0,(kB nb,.box false ls)::us,nr)
def dF (gd:Bool)(deps:List (Nat×Nat))(nb:Nat):Nat->Nat->List LR->List aO×List (Nat×aP)×Nat
 |_,nr,[]=>([],[],nr)
 | y, nr, s :: ss =>
  let (l,u,nr):=bX gd deps nb y nr s
  let (ls,us,nr):=dF gd deps nb (y+s.n) nr ss
  (l::ls,u++us,nr)
def iK (gd:Bool)(deps:List (Nat×Nat))(nb:Nat):Nat->Nat->List (Bool×List LR)->List (Bool×List aO)×List (Nat×aP)×Nat
 |_,nr,[]=>([],[],nr)
 | y, nr, (a, s) :: ss =>
  let (l,u,nr):=dF gd deps nb y nr s
  let (ls,us,nr):=iK gd deps nb (y+lN s) nr ss
  ((a,l)::ls,u++us,nr)
def kL (ptrs:List (Nat×Nat×Nat))(deps:List (Nat×Nat)):Nat->Nat->Nat->List (Bool×List (BS×BO))->RdM (List (Nat×aP))
 |_,y,nr,[]=>.ret []
 | b, y, nr, (ro, cs) :: r =>
  bif ro then kL ptrs deps (b+1) y nr r else
  match nE b ptrs with
  | some (c, off) => do
   match <- rdK (kB c) with
   | some (.box false ls) => do
    let (ns,us,nr):=dJ deps y nr (cs.map (·.2))
    let rest <- kL ptrs deps (b+1) (y+cs.length) nr r
    .ret ((kB c,.box false (setRange ls off ns))::us++rest)
   |_=>.no
  |none=>.no
def xI:Nat->Nat->List RT->RdM (List Step×List (Nat×aP))
 |_,_,[]=>.ret ([],[])
 | y, nv, .mu r d q X :: rest => do
  match <- rdK (kR r) with
  | some (.root _ m v .live) => do
   let (l,X'):=Ja8 nv X q (.v y)
   let (ls,us) <- xI (y+1) (nv+bF l) rest
   .ret ((bif Nat.beq (q.length+d) m then [] else [.prim (.dep d) [.v y] 0])++(l++ls),(kR r,.root X' m (v+1) .live)::us)
  |_=>.no
 |y,nv,_::rest=>xI y nv rest
def fP:List RT->List (Nat×aP)
 |[]=>[]
 |.own r _::rest=>(kR r,.root (.c .hole) 0 0 .gone)::fP rest
 |_::rest=>fP rest
def dV:List (Bool×List (BS×BO))->Nat
 |[]=>0
 |(ro,cs)::r=>(bif ro then 0 else cs.length)+dV r
def mP:Nat->List BO->List Step
 |_,[]=>[]
 |y,.ow m::r=>.prim (.dep m) [.v y] 0::mP (y+1) r
 |y,_::r=>mP (y+1) r
def Pa9:Nat->List LR->List Step
 |_,[]=>[]
 |y,.ow m::r=>.prim (.dep m) [.v y] 0::Pa9 (y+1) r
 |y,.bx cs::r=>mP y cs++Pa9 (y+cs.length) r
 |y,_::r=>Pa9 (y+1) r
def Xa2:Nat->List (Bool×List LR)->List Step
 |_,[]=>[]
 |y,(_,ss)::r=>Pa9 y ss++Xa2 (y+lN ss) r
def Xa3:Nat->List RT->List Step
 |_,[]=>[]
 |y,.mu _ d _ _::r=>.prim (.dep d) [.v y] 0::Xa3 (y+1) r
 |y,_::r=>Xa3 y r
def Uaa:Nat->List (Bool×List (BS×BO))->List Step
 |_,[]=>[]
 |y,(ro,cs)::r=>bif ro then Uaa y r else mP y (cs.map (·.2))++Uaa (y+cs.length) r
def uR:RT->Bool
 |.mu _ _ _ _=>true
 |_=>false
def jL:List (BS×BO)->List aO->RdM (List aJ)
 |[],_=>.ret []
 | (s, o) :: ss, l :: ls => do
  let x <- (match s,o,l with
   |.sc,.sc,.sc x=>RdM.ret x
   | .fz _, .fz, l => do
    let r <- wB l
    RdM.ret r.x
   |_,.dead,l=>bif Law l then .ret (.c .hole) else .no
   |_,_,_=>.no)
  let r <- jL ss ls
  .ret (x::r)
 |_::_,[]=>.no
def iA (ptrs:List (Nat×Nat×Nat)):Nat->List (Bool×List (BS×BO))->RdM (List aJ)
 |_,[]=>.ret []
 | b, (ro, cs) :: r =>
  bif ro then iA ptrs (b+1) r else
  match nE b ptrs with
  | some (c, off) => do
   match <- rdK (kB c) with
   | some (.box false ls) => do
    let l <- jL cs (ls.drop off)
    let m <- iA ptrs (b+1) r
    .ret (l++m)
   |_=>.no
  |none=>.no
def zP (g:Option (aJ×Bool)):List (Bool×List aO)->SV
 |[(false,[.sc x])]=>mkS g x
 |[(false,[l])]=>.one l
 |[(true,ls)]=>.agg ls
 |rs=>.tup rs
def Abk (g:Option (aJ×Bool)):SV->Option (aJ×Bool)
 |.one (.su _ _)=>none
 |_=>g
def Cbj (nv nb nr:Nat)(o:Oper)(g:Option (aJ×Bool))(f:Nat)(vs:List SV):RdM bM:=do
 match Fa6 f vs E.sigs with
 |none=>.no
 | some (key, s) => do
  let T <- eG g Take.empty s.params vs
  let T <- eD T.ptrs T 0 s.boxes
  bL (Uav s T&&Nat.ble (jR s.results) 1&&(noG g||(T.rts.isEmpty&&Nat.beq (jR s.results) 0)))
  let nres:=bI s.results
  let nmu:=(T.rts.filter uR).length
  let total:=nres+nmu+dV s.boxes
  let y0:=nv+bF T.lets
  let (rs,us,xk):=iK (!noG g) T.deps nb y0 nr s.results
  let bu <- kL T.ptrs T.deps 0 (y0+nres+nmu) xk s.boxes
  let chk:=bif T.deps.isEmpty then [] else Xa2 y0 s.results++Xa3 (y0+nres) T.rts++Uaa (y0+nres+nmu) s.boxes
  let (ml,mu) <- xI (y0+nres) (y0+total) T.rts
  let olds <- (match g with
   |none=>RdM.ret []
   |some _=>iA T.ptrs 0 s.boxes)
  let v:=zP g rs
  .ret ⟨T.lets++[.call key (T.xs) total olds]++chk++ml,(match o.dst with|some d=>[(kT d,.slot (Abk g v) v)]|none=>[])++(us++bu++mu++fP T.rts)⟩
def xG (g:Option (aJ×Bool)):List Operand->List TypeId->RdM (List SV)
 |[],_=>.ret []
 | x :: xs, ts => do
  let v <- Mah E g (ts.headD 0) x
  let l <- xG g xs ts.tail
  .ret (v::l)
def Lb2:Option IntKind->Bool
 |some k=>Lbh k .u8
 |none=>false
def Iax:Operand->Bool
 |.const (.slice none _ _)=>true
 |_=>false
def Rap:Operand->Bool
 |.const (.pointer none)=>true
 |_=>false
def Lba (nv:Nat)(o:Oper)(g:Option (aJ×Bool))(neg:Bool)(t:TypeId)(x y:Operand):RdM bM:=do
 let a <- Mah E g t x
 let b <- Mah E g t y
 match a,b with
 | .agg ls, .agg ms => do
  let ti <- tiR E t
  match atoms ls,atoms ms with
  | some xs, some ys => do
   bL (ti.cmp&&Nat.beq xs.length ti.size&&Nat.beq ys.length ti.size)
   let d:=match o.dst with|some d=>[(kT d,aP.slot none (mkS g (.v (bif neg then nv+1 else nv))))]|none=>[]
   .ret ⟨[.prim (.eqs (ti.cells.map Dae)) (xs++ys) 1]++(bif neg then [.prim .not [.v nv] 1] else []),d⟩
  |_,_=>.no
 | .one l, .one m => do
  let ti <- tiR E t
  match sV g l,sV g m with
  | some p, some q => do
   bif ti.isBool then rM o g nv (.eqb neg) [p,q] else rM o g nv (.bin (bif neg then .neq else .eql)) [p,q]
  |_,_ =>
  let res (p:aN) (x:aJ):RdM bM :=
   .ret ⟨[.prim p [x] 1]++(bif neg then [.prim .not [.v nv] 1] else []),match o.dst with|some d=>[(kT d,aP.slot none (mkS g (.v (bif neg then nv+1 else nv))))]|none=>[]⟩
  bif Iax y then do
   bL ti.elem.isSome
   let s <- wB l
   let r <- res .emp s.x
   .ret (bif s.nie then r else ⟨.prim .ne [s.x] 0::r.lets,r.upd⟩)
  else bif Rap y then do
   bL ti.isPtr
   match l with
   | .rp deps sz x => do
    let _ <- uF deps
    res .emp x
   |.pn=>rM o g nv .id [.c (.bool (!neg))]
   |.px _ _=>rM o g nv .id [.c (.bool neg)]
   |.pe _ _ _ _=>rM o g nv .id [.c (.bool neg)]
   |_=>.no
  else .no
 |_,_=>.no
def Hao:List CK->Option (List D)
 |[]=>some []
 |.sc z::r=>(Hao r).map (z::·)
 |.sl sz::r=>(Hao r).map (.rows sz []::·)
 |_::_=>none
def Haq (ei:TI)(lo:Bool)(s:SlR):Pth×Bool :=
 let one (m:Nat):Pth×Bool:=bif Nat.beq m 1||!lo then (.view,false) else bif Lag ei.cells then (.view,true) else (.no,false)
 match s.own with
 |some (_,_,m,.path [])=>one m
 |some (_,_,m,.view)=>one m
 |_=>(.no,false)
def Dbj (p:Pth)(sz:Nat)(lo:aJ)(s:SlR):Pth :=
 match p,s.own with
 |.no,some (_,_,_,.path [])=>.suf sz lo
 |p,_=>p
def Oay (nv:Nat)(o:Oper)(ei:TI)(l:aO):RdM bM:=do
 let s <- wB l
 match s.own with
 | some (r, k, m, .suf sz lo) => do
  bL (Nat.beq sz 1&&Nat.beq ei.size 1&&Nat.ble 1 m)
  match <- rdK (kR r) with
  |some (.root X m' b9 .live)=>.ret ⟨[.prim (.clr 1) [X,lo] 1],(match o.dst with | some d=>[(kT d,.slot none .dead)] | none=>[])++[(kR r,.root (.v nv) m' (b9+1) .live)]⟩
  |_=>.no
 |_=>.no
def nZ (mv e9:Bool)(nv nb nr:Nat)(g:Option (aJ×Bool))(o:Oper):RdM bM :=
 match o.op with
 |.move x | .assign x=>do Vav o g nv (<- Mah E g o.type x)
 | .pick c a b => do
  let c <- rdA E g 0 c
  let a <- Iaj E g (c,true) o.type a
  let b <- Iaj E g (c,false) o.type b
  rM o g nv .pick [c,a,b]
 | .alloc e => do
  let ti <- tiR E e
  bL (noG g)
  rO o g [] (.one (.px nb 0)) [(kB nb,.box false (ti.cells.map fC))]
 | .box e x => do
  let ti <- tiR E e
  let v <- Mah E g e x
  match jF ti.agg v with
  | some ls => do
   bL (Nat.beq ls.length ti.size&&noG g&&ls.all Law)
   rO o g [] (.one (.px nb 0)) [(kB nb,.box false ls)]
  |none=>.no
 | .build t parts => do
  let ti <- tiR E t
  bL ti.agg
  let ps <- Bau E g (fun i=>(ti.flds.getD i (0,0)).2) parts.toList
  match qD ti.flds E.ti (ti.cells.map fC) ps with
  |some ls=>rO o g [] (.agg ls) []
  |none=>.no
 | .buildSlice t len parts => do
  let st <- tiR E t
  let e <- mG st.elem
  let ti <- tiR E e
  let ps <- Bau E g (fun _=>e) parts.toList
  bL (Nat.ble (len*ti.size) 4096&&Tbh 0 ti.size&&Tbh (len*ti.bytes) 4096)
  match Aax ti len (Abl (ti.cells.map fC) len) ps with
  | some ls => do
   let pu <- pW mv e9 0 ls
   bL (noG g||(pu.moves.isEmpty&&pu.holes.isEmpty&&pu.frz.isEmpty))
   let fr <- dK pu.frz
   bL (distinct (pu.moves.map (·.2.1))&&!(pu.moves.any fun z=>has pu.frz z.2.1)&&pu.holes.isEmpty)
   bif noG g then
    rO o g [.prim (.mk ti.size len) pu.xs 1] (.one (.ex nr))
     ((kR nr,.root (.v nv) (min big (pu.depth+1)) 0 .live)::(pu.moves.map fun z=>(kR z.2.1,.root (.c .hole) 0 0 .gone))++fr)
   else rO o g [.prim (.mk ti.size len) pu.xs 1] (.one (.sn [] .no false (.v nv))) []
  |none=>.no
 | .load t a => do
  let ti <- tiR E t
  Qat nv o g ti (<- rdL E g 0 a)
 | .store t a x => do
  let ti <- tiR E t
  let p <- rdL E g 0 a
  let v <- Mah E g t x
  match jF ti.agg v with
  |some ls=>Ban nv mv e9 o g ti p ls
  |none=>.no
 | .nilCheck x => do
  match <- rdL E g 0 x with
  | .rp deps sz y => do
   let ds <- uF deps
   rO o g [.prim .ne [y] 0] (.one (.pe (.sn ds .no false y) sz (.c (.int .i64 0)) 0)) []
  |.px b off=>rO o g [] (.one (.px b off)) []
  |.pe l sz i off=>rO o g [] (.one (.pe l sz i off)) []
  |.clo f cs=>rO o g [] (.one (.clo f cs)) []
  |.pn=>rO o g [.prim .ne [.c (.rows 0 [])] 0] (.one (.pe (.sn [] .no false (.c (.rows 0 []))) 0 (.c (.int .i64 0)) 0)) []
  |_=>.no
 |.binOp .eql t x y _=>Lba E nv o g false t x y
 |.binOp .neq t x y _=>Lba E nv o g true t x y
 | .binOp op t x y ty => do
  let a <- rdA E g t x
  let b <- rdA E g ty y
  rM o g nv (.bin op) [a,b]
 | .unOp op _ x => do
  let a <- rdA E g 0 x
  match op with
  |.not=>rM o g nv .not [a]
  |.neg=>rM o g nv .neg [a]
  |.xor=>rM o g nv .inv [a]
  |_=>.no
 | .convert src dst x => do
  let s <- tiR E src
  let d <- tiR E dst
  match d.ik with
  | some k => do
   bL s.ik.isSome
   let a <- rdA E g src x
   rM o g nv (.conv k) [a]
  | none =>
   bif d.isStr then
    bif s.isStr then do
     let a <- rdA E g src x
     rM o g nv .sid [a]
    else do
     let e <- mG s.elem
     let ei <- tiR E e
     bL (Lb2 ei.ik)
     let r <- wB (<- rdL E g src x)
     rM o g nv .bstr [r.x]
   else .no
 | .makeFunc (.func f) first fW => do
  bL first.isEmpty
  let vs <- xG E g fW.toList []
  let ls <- mG (sW vs)
  rO o g [] (.one (.clo f ls)) []
 | .makeSlice t l c => do
  let st <- tiR E t
  let e <- mG st.elem
  let ti <- tiR E e
  bL (noG g)
  let a <- rdA E g 0 l
  let b <- rdA E g 0 c
  bL (a.beq0 b&&Tbh 0 ti.size&&Tbh 0 ti.bytes)
  let zs <- mG (Hao ti.cells)
  rO o none [.prim (.make ti.bytes zs) [a] 1] (.one (.ex nr)) [(kR nr,.root (.v nv) big 0 .live)]
 | .slice t x lo hi mx => do
  let ti <- tiR E t
  match mx with
  |some _=>.no
  | none => do
   let l <- rdL E g t x
   let vf <- (match lo with|some a=>rdA E g 0 a|none=>RdM.ret (.c (.int .i64 0)))
   match l with
   | .sc s => do
    bL (ti.isStr&&(noG g||hi.isSome))
    match hi with
    | some h => do
     let h <- rdA E g 0 h
     rM o g nv .ssub [s,vf,h]
    | none =>
     .ret ⟨[.prim .slen [s] 1,.prim .ssub [s,vf,.v nv] 1],match o.dst with|some d=>[(kT d,.slot none (mkS g (.v (nv+1))))]|none=>[]⟩
   | l => do
    bL ti.elem.isSome
    let s <- wB l
    let ei <- tiR E (ti.elem.getD 0)
    let (p,fl):=Haq ei lo.isSome s
    match hi with
    | some h => do
     let h <- rdA E g 0 h
     match l with
     |.sn _ _ true (.c (.rows z []))=>rO o g [.prim (.sub ei.size fl) [s.x,vf,h] 1] (.one l) []
     |_=>rO o g [.prim (.sub ei.size fl) [s.x,vf,h] 1] (.one (.sn s.deps p false (.v nv))) []
    | none =>
     rO o g [.prim .len [s.x] 1,.prim (.sub ei.size fl) [s.x,vf,.v nv] 1] (.one (.sn s.deps (Dbj p ei.size vf s) false (.v (nv+1)))) []
 | .fieldAddr t x f => do
  let ti <- tiR E t
  match ti.flds[f]? with
  | some (off, ft) => do
   let fi <- tiR E ft
   bL (Tbh 0 fi.size)
   Oax o g off (<- rdL E g 0 x)
  |none=>.no
 | .field t x f => do
  let ti <- tiR E t
  match ti.flds[f]? with
  | some (off, ft) => do
   let fi <- tiR E ft
   match <- Mah E g t x with
   | .agg ls => do
    bL (Nat.ble (off+fi.size) ls.length&&Nat.beq ls.length ti.size)
    match Qaz fi.agg ((ls.drop off).take fi.size) with
    |some v=>Vav o g nv v
    |none=>.no
   |_=>.no
  |none=>.no
 | .indexAddr t x i => do
  let ti <- tiR E t
  let e <- mG ti.elem
  let ei <- tiR E e
  let l <- rdL E g t x
  let s <- wB l
  let a <- rdA E g 0 i
  bL (Tbh 0 ei.size)
  rO o g [.prim .inb [s.x,a] 0] (.one (.pe l ei.size a 0)) []
 | .index t x i => do
  let ti <- tiR E t
  bL ti.isStr
  let s <- rdA E g t x
  let a <- rdA E g 0 i
  rM o g nv .sidx [s,a]
 | .extract x i => do
  match <- Mah E g 0 x with
  | .tup vs => match vs[i]? with
   | some (a, ls) => match Qaz a ls with
    |some v=>Vav o g nv v
    |none=>.no
   |none=>.no
  |_=>.no
 | .call { callee := .builtin b, args, argTypes } => do
  match b,args.toList with
  | .len, [x] => do
   let t <- mG argTypes[0]?
   let ti <- tiR E t
   let l <- rdL E g t x
   match sV g l with
   | some a => do
    bL ti.isStr
    rM o g nv .slen [a]
   | none => do
    bL ti.elem.isSome
    let s <- wB l
    rM o g nv .len [s.x]
  | .append, [x, y] => do
   let t <- mG argTypes[0]?
   let ty <- mG argTypes[1]?
   let ti <- tiR E t
   let e <- mG ti.elem
   let ei <- tiR E e
   let yi <- tiR E ty
   bL (yi.elem.isSome&&Tbh 0 ei.size&&noG g&&Tbh 0 ei.bytes&&Nat.beq argTypes.size 2)
   Jam nv nr mv e9 o ei (<- rdL E g t x) (<- rdL E g ty y)
  | .clear, [x] => do
   let t <- mG argTypes[0]?
   let ti <- tiR E t
   let e <- mG ti.elem
   let ei <- tiR E e
   bL (noG g&&Nat.beq argTypes.size 1)
   Oay nv o ei (<- rdL E g t x)
  | .min, xs => do
   let vs <- xG E g xs argTypes.toList
   let as <- mG ((sW vs).bind (Gaz g))
   rM o g nv .min as
  | .max, xs => do
   let vs <- xG E g xs argTypes.toList
   let as <- mG ((sW vs).bind (Gaz g))
   rM o g nv .max as
  |_,_=>.no
 | .call { callee := .value f, args, argTypes } => do
  match <- rdL E g 0 f with
  | .clo fn fW => do
   let vs <- xG E g args.toList argTypes.toList
   Cbj E nv nb nr o g fn (vs++fW.map .one)
  |_=>.no
 |_=>.no
end
def jH {α:Type}(n:Nat):Option α:=none
structure St where
 tr:Tr aP
 nv:Nat
 nb:Nat
 nr:Nat
 nt:Nat
 deriving Inhabited
def tL (nt nb nr k:Nat):Bool :=
 bif Nat.beq (k % 3) 0 then Tbh (k / 3) nt else bif Nat.beq (k % 3) 1 then Tbh (k / 3) nb else Tbh (k / 3) nr
def St.get (s:St)(k:Nat):Option aP:=bif tL s.nt s.nb s.nr k then s.tr.get k else none
def aZ (n:Nat):aJ->Bool
 |.v i=>Tbh i n
 |.c _=>true
def Baq (n:Nat):Step->Bool
 |.prim _ xs _=>xs.all (aZ n)
 |.call _ xs k olds=>xs.all (aZ n)&&olds.all (aZ n)&&Nat.ble olds.length k
def dW:Nat->List Step->Bool
 |_,[]=>true
 |n,s::r=>Baq n s&&dW (n+s.n) r
def nN (n:Nat):Option (aJ×Bool)->Bool
 |none=>true
 |some (x,_)=>aZ n x
def St.put (s:St)(k:Nat)(c:Option aP):St:={ s with tr:=s.tr.set 16 k c }
def St.puts (s:St):List (Nat×aP)->St
 |[]=>s
 |(k,c)::r=>(s.put k (some c)).puts r
def Ja0 (ops:List Oper)(o:Oper):RdM (Option (aJ×Bool)) :=
 match o.guard with
 |none=>.ret none
 | some (j, want) =>
  match (ops[j]?).bind (·.dst) with
  | some d => .rd (kT d) fun
   |some (.slot none (.one (.sc x)))=>.ret (some (x,want))
   |some (.slot none (.one (.su _ x)))=>.ret (some (x,want))
   |_=>.no
  |none=>.no
def bR:Nat:=16
def wU (n nb nr k:Nat):Bool :=
 bif Nat.beq (k % 3) 0 then Tbh (k / 3) n else bif Nat.beq (k % 3) 1 then Nat.ble (k / 3) nb else Tbh (k / 3) (nr+bR)
def Tam:List (Nat×aP)->Nat->Option aP
 |[],_=>none
 | (k', c) :: r, k => match Tam r k with
  |some d=>some d
  |none=>bif Nat.beq k' k then some c else none
def RdM.over {α:Type}(u:List (Nat×aP)):RdM α->RdM α
 |.ret a=>.ret a
 |.no=>.no
 | .rd k f => match Tam u k with
  |some c=>(f (some c)).over u
  |none=>.rd k fun c=>(f c).over u
def zA:Bool->Op->Option Nat
 |true,.store _ _ (.tmp t)=>some t
 | true, .buildSlice _ _ parts => match parts.toList with
  |[(_,.tmp t)]=>some t
  |_=>none
 |_,_=>none
def Kac:Bool->Oper->Option Nat
 | true, o => match o.op with
  |.load _ _=>o.dst
  |_=>none
 |false,_=>none
def Ha2 (E:Env)(nv nr t:Nat):RdM (Option (List Step×List (Nat×aP))):=do
 match <- rdK (kT t) with
 | some (.slot none (.one (.sn deps (.path (p :: ps)) nie x))) => do
  let s <- wB (.sn deps (.path (p::ps)) nie x)
  match s.own with
  | some (r, k, m, .path (q :: qs)) =>
   bif Nat.ble (qs.length+2) m&&Tbh t E.ntmps then do
    match <- rdK (kR r) with
    | some (.root X m' b9 .live) =>
     let (l,X'):=Ja8 nv X (q::qs) (.c .hole)
     .ret (some (l,[(kT t,.slot none (.one (.ex nr))),(kR nr,.root s.x (m-(qs.length+1)) 0 .live),(kR r,.root X' m (b9+1) .live)]))
    |_=>.ret none
   else .ret none
  |_=>.ret none
 |_=>.ret none
def Sap (E:Env)(mv e9:Bool)(nv nb nr:Nat)(g:Option (aJ×Bool))(o:Oper):RdM bM :=
 match zA (e9&&noG g) o.op with
 | none => match Kac (e9 && noG g && !mv) o with
  |none=>nZ E mv e9 nv nb nr g o
  | some t => do
   let r <- nZ E mv e9 nv nb nr g o
   match <- (Ha2 E (nv+bF r.lets) nr t).over r.upd with
   |some (l,u)=>.ret ⟨r.lets++l,r.upd++u⟩
   |none=>.ret r
 | some t => do
  match <- Ha2 E nv nr t with
  | some (l, u) => do
   let r <- (nZ E mv false (nv+bF l) nb (nr+1) g o).over u
   .ret ⟨l++r.lets,u++r.upd⟩
  |none=>nZ E mv false nv nb nr g o
def kF (E:Env)(ops:List Oper)(mv e9:Bool)(nv nb nr:Nat)(o:Oper):RdM (Option (aJ×Bool)×bM):=do
 let g <- Ja0 ops o
 bL (match o.dst with|some d=>Tbh d E.ntmps|none=>true)
 let r <- Sap E mv e9 nv nb nr g o
 bL (r.upd.all fun x=>wU E.ntmps nb nr x.1)
 .ret (g,r)
structure OpI where
 g:Option (aJ×Bool)
 res:bM
 log:List Nat
 nb:Nat
 nr:Nat
 deriving Inhabited
def lZ (t:Tr aP)(r:Nat):Nat->Bool
 |0=>true
 |n+1=>(t.get (kR r)).isNone&&lZ t (r+1) n
def zU (n:Nat):Pth->Bool
 |.path p=>p.all fun x=>aZ n x.1
 |.suf _ x=>aZ n x
 |_=>true
mutual
def aO.inScope (n:Nat):aO->Bool
 |.sc x=>aZ n x
 |.su g x=>aZ n x&&aZ n g.1
 |.sn _ p _ x=>aZ n x&&zU n p
 |.pe l _ i _=>l.inScope n&&aZ n i
 |.rp _ _ x=>aZ n x
 |.clo _ l=>bB n l
 |_=>true
def bB (n:Nat):List aO->Bool
 |[]=>true
 |a::r=>a.inScope n&&bB n r
end
def vW (n:Nat):SV->Bool
 |.dead=>true
 |.one l=>l.inScope n
 |.agg ls=>bB n ls
 |.tup vs=>vs.all fun v=>bB n v.2
def bT (n:Nat):aP->Bool
 |.slot g v=>nN n g&&vW n v
 |.box _ ls=>bB n ls
 |.root x _ _ _=>aZ n x
def Abt (s:St)(g:Option (aJ×Bool))(r:bM):Bool :=
 (s.tr.get (kB s.nb)).isNone&&lZ s.tr s.nr bR&&nN s.nv g&&dW s.nv r.lets&&r.upd.all fun x=>bT (s.nv+bF r.lets) x.2
def Fbm:List (Nat×aP)->Nat->Nat
 |[],n=>n
 |x::r,n=>Fbm r (bif Nat.beq (x.1 % 3) 2&&Nat.ble n (x.1 / 3) then x.1 / 3+1 else n)
def Qaa (draw:Bool)(n:Nat)(u:List (Nat×aP)):Nat:=bif draw then n+bR else Fbm u n
def Lal (t:Tr aP)(lo:Nat):Nat->Nat
 |0=>lo
 |n+1=>bif (t.get (kR (lo+n))).isNone then Lal t lo n else lo+n+1
def trimS (draw:Bool)(lo:Nat)(s:St):St:=bif draw&&Nat.ble lo s.nr then { s with nr:=Lal s.tr lo (s.nr-lo) } else s
def Lb3 (l:List (Nat×Nat))(r i:Nat):Bool:=l.any fun p=>Nat.beq p.1 r&&Nat.beq p.2 i
def Uaz (E:Env)(draw:Bool)(k8:Nat)(ops:List Oper):Nat->List Oper->St->List OpI->Sum (List OpI×St) (Nat×St×List OpI)
 |_,[],s,acc=>.inl (acc.reverse,s)
 | i, o :: os, s, acc =>
  let fl:=Lb3 E.nomv k8 i
  match (kF E ops (xor (!E.freezeEx) fl) (xor E.moveSn fl) s.nv s.nb s.nr o).run s.get with
  | some ((g, r), log) =>
   bif !(Abt s g r) then .inr (i,s,acc) else Uaz E draw k8 ops (i+1) os { (s.puts r.upd) with nv:=s.nv+bF r.lets,nb:=s.nb+1,nr:=Qaa draw s.nr r.upd } ({ g,res:=r,log,nb:=s.nb,nr:=s.nr }::acc)
  |none=>.inr (i,s,acc)
def xR (acc:List Nat):List Edge->Nat->Nat
 |[],m=>m
 |e::es,m=>xR acc es (bif Region.binds .any e then (m ||| 2 ^ e.on) ||| acc.getD e.on 0 else m)
def waits:List Oper->List Nat->List Nat
 |[],acc=>acc
 |o::os,acc=>waits os (acc++[xR acc o.after.toList 0])
def Aa0:List Oper->Nat->Bool
 |[],_=>true
 |o::os,i=>(o.after.toList.all fun e=>!(Region.binds .any e)||Tbh e.on i)&&Aa0 os (i+1)
def Kan (a:OpI)(k:Nat):Bool:=bif Nat.beq (k % 3) 1 then Nat.beq (k / 3) a.nb else bif Nat.beq (k % 3) 2 then Nat.ble a.nr (k / 3)&&Tbh (k / 3) (a.nr+bR) else false
def oO (a b:OpI):Bool :=
 let wa:=a.res.upd.map (·.1)
 let wb:=b.res.upd.map (·.1)
 !(meets wa b.log)&&!(meets wa wb)&&!(meets a.log wb)&&!(wb.any (Kan a))
def Aap (a:OpI)(i:Nat):List OpI->List Nat->Bool
 |[],_=>true
 |b::bs,w::ws=>(Ubc w i||oO a b)&&Aap a i bs ws
 |_::_,[]=>false
def uI:List OpI->List Nat->Nat->Bool
 |[],_,_=>true
 |a::as,ws,i=>Aap a i as ws.tail&&uI as ws.tail (i+1)
def mY (g:Option (aJ×Bool))(k:Tm St):List Step->Tm St
 |[]=>k
 |.prim p xs n::r=>.lt g p xs n (mY g k r)
 |.call f xs n olds::r=>.call g f xs n olds (mY g k r)
def Eaz (k:Tm St):List OpI->Tm St
 |[]=>k
 |a::r=>mY a.g (Eaz k r) a.res.lets
def Jal (E:Env)(po:Bool)(k8:Nat)(ops:List Oper)(draw:Bool)(s:St):Tm St :=
 match Uaz E draw k8 ops 0 ops s [] with
 | .inl (is, s') =>
  bif !draw||(Aa0 ops 0&&uI is (waits ops []) 0) then Eaz (.leaf .fall [] (trimS draw s.nr s')) is
  else bif po then .leaf (.exit (1000000+k8*1000+999)) [] s else .stuck
 |.inr (i,s',is)=>bif po then .leaf (.exit (1000000+k8*1000+i)) [] s' else .stuck
def Vay:Operand->Nat
 |.tmp t=>2 ^ t
 |_=>0
def Abr (o:Oper):Nat:=o.op.operands.toList.foldl (fun m x=>m ||| Vay x) 0
def Waa:List Oper->Nat->Nat
 |[],l=>l
 | o :: os, l =>
  let m:=Waa os l
  let m:=match o.dst,o.guard with
   |some d,none=>bif Ubc m d then m-2 ^ d else m
   |_,_=>m
  m ||| Abr o
def Ra2:List (Nat×Nat)->Nat->Nat
 |[],_=>0
 |(i,m)::r,j=>bif Nat.beq i j then m else Ra2 r j
def Had:Code->List (Nat×Nat)->Nat->Nat->Nat
 |.region _ ops _,_,_,l=>Waa ops.toList l
 |.seq a b,ex,rb,l=>Had a ex rb (Had b ex rb l)
 |.cond c a b,ex,rb,l=>Vay c ||| Had a ex rb l ||| Had b ex rb l
 |.block id b,ex,rb,l=>Had b ((id,l)::ex) rb l
 |.loop b,ex,rb,_=>Had b ex rb (Had b ex rb (Had b ex rb 0))
 |.exit id,ex,_,_=>Ra2 ex id
 |.ret,_,rb,_=>rb
 |_,_,_,l=>l
inductive Form where
 |sc
 |nil (z:Nat)
 |ex (m:Nat)
 |sn
 |pn
 |rp (z:Nat)
 |keep (l:aO)
 |alias (i:Nat)
 |dead
 deriving Inhabited
def Iam:List (aJ×Nat×Nat)->List (aJ×Nat×Nat)->Bool
 |[],[]=>true
 |(a,b,c)::r,(a',b',c')::r'=>a.beq0 a'&&Nat.beq b b'&&Nat.beq c c'&&Iam r r'
 |_,_=>false
def Pth.beq0:Pth->Pth->Bool
 |.no,.no=>true
 |.view,.view=>true
 |.path p,.path q=>Iam p q
 |.suf a x,.suf b y=>Nat.beq a b&&x.beq0 y
 |_,_=>false
def vD:List (Nat×Nat)->List (Nat×Nat)->Bool
 |[],[]=>true
 |(a,b)::r,(a',b')::r'=>Nat.beq a a'&&Nat.beq b b'&&vD r r'
 |_,_=>false
mutual
def aO.beq0:aO->aO->Bool
 |.dead,.dead=>true
 |.sc x,.sc y=>x.beq0 y
 |.su g x,.su h y=>g.1.beq0 h.1&&(g.2==h.2)&&x.beq0 y
 |.ex r,.ex r'=>Nat.beq r r'
 |.sn d p n x,.sn d' p' n' x'=>vD d d'&&p.beq0 p'&&(n==n')&&x.beq0 x'
 |.px b o,.px b' o'=>Nat.beq b b'&&Nat.beq o o'
 |.pe l s i o,.pe l' s' i' o'=>l.beq0 l'&&Nat.beq s s'&&i.beq0 i'&&Nat.beq o o'
 |.rp d s x,.rp d' s' x'=>vD d d'&&Nat.beq s s'&&x.beq0 x'
 |.pn,.pn=>true
 |.clo f l,.clo f' l'=>Nat.beq f f'&&qA l l'
 |_,_=>false
def qA:List aO->List aO->Bool
 |[],[]=>true
 |a::r,b::s=>a.beq0 b&&qA r s
 |_,_=>false
end
def zO (a b:RSt):Bool:=decide (a=b)
def Qa9 (nv:Nat)(r:Nat):List St->Bool
 |[]=>true
 | s :: rest => match s.get (kR r) with
  | some (.root x m v st) => aZ nv x && rest.all fun s' => match s'.get (kR r) with
   |some (.root x' m' v' tR)=>x.beq0 x'&&Nat.beq m m'&&Nat.beq v v'&&zO st tR
   |_=>false
  |_=>false
mutual
def Aah:aO->List Nat
 |.ex r=>[r]
 |.sn d _ _ _=>d.map (·.1)
 |.rp d _ _=>d.map (·.1)
 |.pe l _ _ _=>Aah l
 |.clo _ l=>Fap l
 |_=>[]
def Fap:List aO->List Nat
 |[]=>[]
 |a::r=>Aah a++Fap r
end
def Wa8 (s:St):aO->Form
 |.sc _=>.sc
 | .ex r => match s.get (kR r) with
  |some (.root _ m _ .live)=>.ex m
  |some (.root _ _ _ .frozen)=>.sn
  |_=>.dead
 |.sn _ _ true (.c (.rows z []))=>.nil z
 | .sn d p _ _ => match p, d with
  | .view, [(r, k)] => match s.get (kR r) with
   |some (.root _ m v .live)=>bif Nat.beq v k then .ex m else .dead
   |some (.root _ _ _ .frozen)=>.sn
   |_=>.dead
  |_,_=>.sn
 |.pn=>.pn
 |.rp _ z _=>.rp z
 |.pe _ z _ o=>bif Nat.beq o 0 then .rp z else .dead
 |_=>.dead
def Kah:Form->Form->Form
 |.sc,.sc=>.sc
 |.nil z,.nil _=>.nil z
 |.nil _,.ex m=>.ex m
 |.ex m,.nil _=>.ex m
 |.ex m,.ex m'=>.ex (min m m')
 |.nil _,.sn=>.sn
 |.sn,.nil _=>.sn
 |.ex _,.sn=>.sn
 |.sn,.ex _=>.sn
 |.sn,.sn=>.sn
 |.pn,.pn=>.pn
 |.pn,.rp z=>.rp z
 |.rp z,.pn=>.rp z
 |.rp z,.rp _=>.rp z
 |_,_=>.dead
def uQ (k j:Nat)(s:St):aO :=
 match s.get k with
 |some (.slot none v)=>(qQ v).getD j .dead
 |some (.box _ ls)=>ls.getD j .dead
 |_=>.dead
def Hbz (nv k j:Nat)(jv:List St):Form :=
 match jv with
 |[]=>.dead
 | s :: rest =>
  let l:=uQ k j s
  bif l.inScope nv&&rest.all (fun s'=>l.beq0 (uQ k j s'))&&(Aah l).all (fun r=>Qa9 nv r (s::rest)) then .keep l
  else rest.foldl (fun f s'=>Kah f (Wa8 s' (uQ k j s'))) (Wa8 s l)
def Hbu:Form->Bool
 |.keep _=>true
 |_=>false
structure Pos where
 k:Nat
 j:Nat
 f:Form
 deriving Inhabited
def Ua9:Option aP->Option aP->Bool
 |some (.slot none (.one _)),some (.slot none (.one _))=>true
 |some (.slot none (.agg a)),some (.slot none (.agg b))=>Nat.beq a.length b.length
 |some (.box r a),some (.box r' b)=>(r==r')&&Nat.beq a.length b.length
 |_,_=>false
def Ebw:Option aP->Nat
 |some (.slot none v)=>(qQ v).length
 |some (.box _ ls)=>ls.length
 |_=>0
def Db5 (old:List Pos)(k j:Nat):Option Form:=(old.find? fun p=>Nat.beq p.k k&&Nat.beq p.j j).map (·.f)
def Cby (s:St)(k j:Nat):Option Nat :=
 match uQ k j s with
 |.ex r=>some r
 |_=>none
def Hbv:Form->Bool
 |.ex _=>true
 |_=>false
def aliasOf (jv:List St)(k j:Nat):List Pos->Nat->Option Nat
 |[],_=>none
 | p :: ps, i =>
  bif Hbv p.f&&jv.all fun s=>match Cby s k j,Cby s p.k p.j with
   |some r,some r'=>Nat.beq r r'
   |_,_=>false
  then some i else aliasOf jv k j ps (i+1)
def Va0:Form->Form
 |.alias _=>.ex 1000
 |f=>f
def Vas (nv:Nat)(jv:List St)(old:List Pos)(k:Nat):Nat->Nat->List Pos->List Pos
 |0,_,acc=>acc
 | n + 1, j, acc =>
  let f:=Hbz nv k j jv
  let f:=match Db5 old k j,f with
   | some f0, .keep l => match jv with
    |s::_=>Kah (Va0 f0) (Wa8 s l)
    |[]=>.dead
   |some f0,f=>Kah (Va0 f0) f
   |none,f=>f
  let f:=bif Hbv f then (match aliasOf jv k j acc 0 with|some i=>.alias i|none=>f) else f
  Vas nv jv old k n (j+1) (bif Hbu f then acc else acc++[⟨k,j,f⟩])
def Ebc (jv:List St)(k:Nat):Bool :=
 match jv with
 |s::rest=>rest.all fun s'=>Ua9 (s.get k) (s'.get k)&&(match s.get k with | some (.slot (some _) _)=>false | some (.slot _ (.tup _))=>false | some (.slot _ .dead)=>false | some _=>true | none=>false)
 |[]=>false
def Ebb (jv:List St)(k:Nat):Bool :=
 match jv with
 |[s]=>Ua9 (s.get k) (s.get k)
 |_=>Ebc jv k
def range (a:Nat):Nat->List Nat
 |0=>[]
 |n+1=>a::range (a+1) n
def Kae (E:Env)(nb:Nat)(live:Nat)(jv:List St):List Nat :=
 ((range E.ntmps E.ngh).filter fun t=>Ebb jv (kT t)).map kT++((range 0 E.ntmps).filter fun t=>Ubc live t&&Ebb jv (kT t)).map kT++((range 0 nb).filter fun b=>Ebb jv (kB b)).map kB
def Mar (nv:Nat)(jv:List St)(old:List Pos):List Nat->List Pos->List Pos
  |[],acc=>acc
  | k :: ks, acc => Mar nv jv old ks (match jv with
     |s::_=>Vas nv jv old k (Ebw (s.get k)) 0 acc
     |[]=>acc)
def Cbp (nv:Nat)(jv:List St)(old:List Pos)(ks:List Nat):List Pos:=Mar nv jv old ks []
def Dbm (c:aP)(j:Nat)(l:aO):aP :=
 match c with
 |.slot g (.one _)=>.slot g (match l with | .dead=>.dead | l=>.one l)
 |.slot g (.agg ls)=>.slot g (.agg (ls.set j l))
 |.box ro ls=>.box ro (ls.set j l)
 |c=>c
def jJ (nv nr:Nat):List Pos->Nat->St->St
 |[],_,s=>s
 | p :: ps, i, s =>
  let put (l:aO) (s:St):St:=match s.get p.k with
   |some c=>s.put p.k (some (Dbm c p.j l))
   |none=>s
  match p.f with
  |.sc=>jJ nv nr ps (i+1) (put (.sc (.v (nv+i))) s)
  |.ex m=>jJ nv nr ps (i+1) ((put (.ex (nr+i)) s).put (kR (nr+i)) (some (.root (.v (nv+i)) m 0 .live)))
  |.sn=>jJ nv nr ps (i+1) (put (.sn [] .no false (.v (nv+i))) s)
  |.nil z=>jJ nv nr ps (i+1) (put (.sn [] .no true (.v (nv+i))) s)
  |.rp z=>jJ nv nr ps (i+1) (put (.rp [] z (.v (nv+i))) s)
  |.pn=>jJ nv nr ps (i+1) (put .pn s)
  |.alias a=>jJ nv nr ps (i+1) (put (.ex (nr+a)) s)
  |_=>jJ nv nr ps (i+1) (put .dead s)
def Bbg (s:St)(k j:Nat):List Nat :=
 match uQ k j s with
 |.ex r=>[r]
 |.sn [(r,_)] .view _ _=>[r]
 |_=>[]
def Rbl:Form->Bool
 |.sn=>true
 |.rp _=>true
 |_=>false
def Rbm:Form->Bool
 |.ex _=>true
 |.alias _=>true
 |_=>false
def Mao (nv:Nat)(br:List Pos)(jv:List St):List Nat->St->St
 |[],s=>s
 | r :: rs, s =>
  let taken:=br.any fun p=>Rbm p.f&&jv.any fun s'=>has (Bbg s' p.k p.j) r
  let froz:=br.any fun p=>Rbl p.f&&jv.any fun s'=>has (Aah (uQ p.k p.j s')) r
  let sameX:=match jv with
   | s0 :: rest => match s0.get (kR r) with
    | some (.root x m v st) => aZ nv x && !(zO st .gone) && rest.all fun s' => match s'.get (kR r) with
     |some (.root x' _ _ tR)=>x.beq0 x'&&!(zO tR .gone)
     |_=>false
    |_=>false
   |[]=>false
  let c:Option aP :=
   bif taken then some (.root (.c .hole) 0 0 .gone)
   else bif Qa9 nv r jv&&!froz then (match jv with|s0::_=>s0.get (kR r)|[]=>none)
   else bif sameX then (match jv with|s0::_=>(match s0.get (kR r) with|some (.root x m v _)=>some (.root x m v .frozen)|c=>c)|[]=>none)
   else some (.root (.c .hole) 0 0 .gone)
  Mao nv br jv rs (s.put (kR r) c)
def Ja5 (s:St):List Nat->Tr aP->Tr aP
 |[],t=>t
 |k::ks,t=>Ja5 s ks (t.set 16 k (s.get k))
def template (E:Env)(nv nb nr gj:Nat)(jv:List St)(keys:List Nat)(br:List Pos):St :=
 match jv with
 |[]=>⟨.nil,nv,nb,nr,0⟩
 | s :: _ =>
  let s1:St:=⟨Ja5 s keys .nil,nv+br.length,nb,gj+br.length,s.nt⟩
  jJ nv gj br 0 (Mao nv br jv (range 0 nr) s1)
def Pba (j:Nat)(l:aO):aP->Option aP
 |.slot none (.one _)=>bif Nat.beq j 0 then some (.slot none (.one l)) else none
 |.slot none (.agg ls)=>some (.slot none (.agg (ls.set j l)))
 |.box ro ls=>some (.box ro (ls.set j l))
 |_=>none
def putAt (k j:Nat)(l:aO)(s:St):St :=
 match (s.get k).bind (Pba j l) with
 |some c=>s.put k (some c)
 |none=>s
def Jaz (E:Env)(p:Pos)(nr i:Nat)(s:St):Option (List Step×St×aJ) :=
 let put (l:aO) (s:St):St:=putAt p.k p.j l s
 let rNew:=nr+i
 match p.f,uQ p.k p.j s with
 |.sc,.sc x=>some ([],s,x)
 | .alias a, .ex r => match s.get (kR r) with
  |some (.root _ _ _ (.fwd r'))=>bif Nat.beq r' (nr+a) then some ([],put (.ex (nr+a)) s,.c .undef) else jH 5001
  |_=>jH 5002
 |.nil z,.sn [] .no true x=>some ([],s,x)
 | .ex m, .ex r => match s.get (kR r) with
  |some (.root x m' v .live)=>bif Nat.ble m m' then some ([],put (.ex rNew) (s.puts [(kR r,.root (.c .hole) 0 0 (.fwd rNew)),(kR rNew,.root x m 0 .live)]),x) else jH 5003
  |_=>jH 5004
 |.ex m,.sn [] _ true (.c (.rows z []))=>some ([],put (.ex rNew) (s.puts [(kR rNew,.root (.c (.rows z [])) m 0 .live)]),.c (.rows z []))
 | .ex m, .sn [(r, k)] .view _ x => match s.get (kR r) with
  |some (.root _ m' v .live)=>bif Nat.ble m m'&&Nat.beq v k then some ([],put (.ex rNew) (s.puts [(kR r,.root (.c .hole) 0 0 .gone),(kR rNew,.root x m 0 .live)]),x) else jH 5005
  |_=>jH 5006
 | .sn, l =>
  match ((do let s <- wB l;let fr <- dK (s.deps.map (·.1));RdM.ret (s.x,fr):RdM (aJ×List (Nat×aP)))).eval s.get with
  |some (x,fr)=>some ([],put (.sn [] .no false x) (s.puts fr),x)
  |none=>jH 5007
 |.rp z,.pn=>some ([],put (.rp [] z (.c (.rows z []))) s,.c (.rows z []))
 | .rp z, .rp deps z' x =>
  match ((do let d <- uF deps;dK (d.map (·.1)):RdM (List (Nat×aP)))).eval s.get with
  |some fr=>some ([],put (.rp [] z x) (s.puts fr),x)
  |none=>jH 5008
 | .rp z, .pe l z' i 0 =>
  match ((do let s <- wB l;let fr <- dK (s.deps.map (·.1));RdM.ret (s.x,fr):RdM (aJ×List (Nat×aP)))).eval s.get with
  |some (x,fr)=>some ([.prim (.one z') [x,i] 1],{ (put (.rp [] z (.v s.nv)) (s.puts fr)) with nv:=s.nv+1 },.v s.nv)
  |none=>jH 5009
 |.pn,.pn=>some ([],s,.c .undef)
 |.dead,_=>some ([],s,.c .undef)
 |_,_=>jH (4000000+1000*p.k+p.j)
def jE (E:Env)(nr:Nat):List Pos->Nat->St->Option (List Step×St×List aJ)
 |[],_,s=>some ([],s,[])
 | p :: ps, i, s => do
  let (l,s,x) <- Jaz E p nr i s
  let (l',s,xs) <- jE E nr ps (i+1) s
  some (l++l',s,x::xs)
def gJ (τ:St):List Nat->St->Option St
 |[],s=>some s
 | r :: rs, s =>
  match τ.get (kR r),s.get (kR r) with
  |some (.root _ _ _ .frozen),some (.root x m v .live)=>gJ τ rs (s.put (kR r) (some (.root x m v .frozen)))
  |_,_=>gJ τ rs s
def Lav (n:Nat)(xs:List aJ):aJ->aJ
 |.v i=>bif Tbh i n then .v i else xs.getD (i-n) (.c .hole)
 |.c d=>.c d
def Pb4 (n:Nat)(xs:List aJ):Pth->Pth
 |.path p=>.path (p.map fun x=>(Lav n xs x.1,x.2))
 |.suf sz lo=>.suf sz (Lav n xs lo)
 |p=>p
def Qa0 (cH eA r:Nat):Nat:=bif Nat.ble cH r then eA+(r-cH) else r
mutual
def aO.sub (n:Nat)(xs:List aJ)(cH eA:Nat):aO->aO
 |.sc x=>.sc (Lav n xs x)
 |.su g x=>.su (Lav n xs g.1,g.2) (Lav n xs x)
 |.ex r=>.ex (Qa0 cH eA r)
 |.sn d p e x=>.sn d (Pb4 n xs p) e (Lav n xs x)
 |.pe l s i o=>.pe (l.sub n xs cH eA) s (Lav n xs i) o
 |.rp d s x=>.rp d s (Lav n xs x)
 |.clo f l=>.clo f (gK n xs cH eA l)
 |l=>l
def gK (n:Nat)(xs:List aJ)(cH eA:Nat):List aO->List aO
 |[]=>[]
 |a::r=>a.sub n xs cH eA::gK n xs cH eA r
end
def wI (a b:aO):Bool :=
 match a with
 |.dead=>Law b
 | .sn d .no false x => match b with
  |.sn d' _ _ x'=>vD d d'&&x.beq0 x'
  |_=>false
 |a=>a.beq0 b
def dR:List aO->List aO->Bool
 |[],[]=>true
 |a::r,b::s=>wI a b&&dR r s
 |_,_=>false
def bU (n:Nat)(xs:List aJ)(cH eA:Nat):Option aP->Option aP->Bool
 |none,_=>true
 |some (.slot none .dead),_=>true
 |some (.slot none (.one a)),some (.slot none (.one b))=>wI (a.sub n xs cH eA) b
 |some (.slot none (.agg a)),some (.slot none (.agg b))=>dR (gK n xs cH eA a) b
 |some (.box r a),some (.box r' b)=>(r==r')&&dR (gK n xs cH eA a) b
 |some (.root x m v .gone),_=>true
 |some (.root x m v st),some (.root x' m' v' tR)=>zO st tR&&Nat.beq m m'&&Nat.beq v v'&&(Lav n xs x).beq0 x'
 |_,_=>false
def Aas (n:Nat)(xs:List aJ)(cH eA:Nat)(τ s:St):List Nat->Bool
 |[]=>true
 |k::ks=>bU n xs cH eA (τ.get k) (s.get k)&&Aas n xs cH eA τ s ks
def Aau (n:Nat)(xs:List aJ)(cH eA:Nat)(τ s:St):List Nat->Bool
 |[]=>true
 |r::rs=>bU n xs cH eA (τ.get (kR r)) (s.get (kR (Qa0 cH eA r)))&&Aau n xs cH eA τ s rs
def lU (E:Env)(n:Nat)(xs:List aJ)(fk cH eA len:Nat)(τ s:St):Bool :=
 Aas n xs cH eA τ s ((range 0 (E.ntmps+E.ngh)).map kT++(range 0 τ.nb).map kB)&&Aau n xs cH eA τ s (range 0 fk++range cH len)
def kD (b c k:Nat):Nat:=bif Nat.beq k b then c else bif Nat.beq k c then b else k
mutual
def aO.swap (b c:Nat):aO->aO
 |.px k o=>.px (kD b c k) o
 |.pe l s i o=>.pe (l.swap b c) s i o
 |.clo f l=>.clo f (bS b c l)
 |l=>l
def bS (b c:Nat):List aO->List aO
 |[]=>[]
 |a::r=>a.swap b c::bS b c r
end
def Ua0 (b c:Nat):SV->SV
 |.dead=>.dead
 |.one l=>.one (l.swap b c)
 |.agg ls=>.agg (bS b c ls)
 |.tup ts=>.tup (ts.map fun t=>(t.1,bS b c t.2))
def mO (b c:Nat):aP->aP
 |.slot g v=>.slot g (Ua0 b c v)
 |.box ro ls=>.box ro (bS b c ls)
 |.root x m v st=>.root x m v st
def kX (b c k:Nat):Nat:=bif Nat.beq (k % 3) 1 then kB (kD b c (k / 3)) else k
def Mag (f:Nat->Option aP):List Nat->Tr aP->Tr aP
 |[],t=>t
 |k::ks,t=>Mag f ks (t.set 16 k (f k))
def St.swap (s:St)(b c:Nat):St:={ s with tr:=Mag (fun k=>(s.get (kX b c k)).map (mO b c)) ((range 0 s.nt).map kT++(range 0 s.nb).map kB++(range 0 s.nr).map kR) s.tr }
def Pan (E:Env)(τ:St):List Nat->St->St
 |[],s=>s
 | t :: ts, s => Pan E τ ts (match τ.get (kT t), s.get (kT t) with
  | some (.slot none (.one (.px b 0))), some (.slot none (.one (.px c 0))) =>
   bif !(Nat.beq b c)&&Nat.ble E.nbx b&&Nat.ble E.nbx c&&Tbh b s.nb&&Tbh c s.nb then s.swap b c else s
  |_,_=>s)
def Gam (E:Env)(n fk cH:Nat)(br:List Pos)(τ:St)(kind:Kind)(s:St):Option (Tm St):=do
 let (ls,s1,xs) <- jE E s.nr br 0 { s with nr:=s.nr+br.length }
 let s2 <- gJ τ (range 0 fk) s1
 bif lU E n xs fk cH s.nr br.length τ s2&&lZ s.tr s.nr br.length&&Nat.ble fk s.nr&&dW s.nv ls&&xs.all (aZ (s.nv+bF ls)) then some (mY none (.leaf kind xs s2) ls) else jH 1
def coerce (E:Env)(n fk cH:Nat)(br:List Pos)(τ:St)(kind:Kind)(s:St):Option (Tm St):=Gam E n fk cH br τ kind (Pan E τ E.pxs s)
def Tm.no {β:Type}(f:Kind->Bool):Tm β->Bool
 |.leaf k _ _=>!(f k)
 |.stuck=>true
 |.lt _ _ _ _ k=>k.no f
 |.call _ _ _ _ _ k=>k.no f
 |.ite _ t e=>t.no f&&e.no f
 |.bind _ t k=>t.no f&&k.no f
 |.loop _ b=>b.no f
def nT:Kind->Bool
 |.fall=>true
 |_=>false
def Oag (id:Nat):Kind->Bool
 |.fall=>true
 |.exit j=>Nat.beq id j
 |_=>false
def nM (id:Nat):Kind->Bool
 |.exit j=>Nat.beq id j
 |_=>false
def Kak (i:Nat):Kind->Bool
 |.yield j=>Nat.beq i j
 |_=>false
def Raq:Kind->Bool
 |.cont=>true
 |_=>false
def Tm.falls:Tm St->List St
 |.leaf .fall _ s=>[s]
 |.leaf _ _ _=>[]
 |.stuck=>[]
 |.lt _ _ _ _ k=>k.falls
 |.call _ _ _ _ _ k=>k.falls
 |.ite _ t e=>t.falls++e.falls
 |.bind _ _ k=>k.falls
 |.loop _ _=>[]
def Tm.exits (id:Nat):Tm St->List St
 |.leaf (.exit j) _ s=>bif Nat.beq j id then [s] else []
 |.leaf _ _ _=>[]
 |.stuck=>[]
 |.lt _ _ _ _ k=>k.exits id
 |.call _ _ _ _ _ k=>k.exits id
 |.ite _ t e=>t.exits id++e.exits id
 |.bind _ t k=>t.exits id++k.exits id
 |.loop _ b=>b.exits id
def Tm.tailExits (id:Nat):Tm St->List St
 |.leaf (.exit j) _ s=>bif Nat.beq j id then [s] else []
 |.leaf _ _ _=>[]
 |.stuck=>[]
 |.lt _ _ _ _ k=>k.tailExits id
 |.call _ _ _ _ _ k=>k.tailExits id
 |.ite _ t e=>t.tailExits id++e.tailExits id
 |.bind _ t k=>k.tailExits id
 |.loop _ b=>[]
def Tm.graft (f:St->Option (Tm St)):Tm St->Option (Tm St)
 |.leaf .fall _ s=>f s
 |.leaf k xs s=>some (.leaf k xs s)
 |.stuck=>some .stuck
 |.lt g p xs n k=>(k.graft f).map fun k=>.lt g p xs n k
 |.call g c xs n o k=>(k.graft f).map fun k=>.call g c xs n o k
 |.ite c t e=>(t.graft f).bind fun t=>(e.graft f).map fun e=>.ite c t e
 |.bind i t k=>bif t.no nT then (k.graft f).map fun k=>.bind i t k else none
 |.loop i b=>bif b.no nT then some (.loop i b) else none
def Tm.exitFall (id:Nat):Tm St->Option (Tm St)
 |.leaf (.exit j) xs s=>some (bif Nat.beq id j then .leaf .fall [] s else .leaf (.exit j) xs s)
 |.leaf k xs s=>some (.leaf k xs s)
 |.stuck=>some .stuck
 |.lt g p xs n k=>(k.exitFall id).map fun k=>.lt g p xs n k
 |.call g c xs n o k=>(k.exitFall id).map fun k=>.call g c xs n o k
 |.ite c t e=>(t.exitFall id).bind fun t=>(e.exitFall id).map fun e=>.ite c t e
 |.bind i t k=>bif t.no (nM id) then (k.exitFall id).map fun k=>.bind i t k else none
 |.loop i b=>bif b.no (nM id) then some (.loop i b) else none
def Tm.turn (out:Kind)(jy:Kind->Bool)(f:St->Option (Tm St)):Tm St->Option (Tm St)
 |.leaf k xs s=>bif jy k then f s else some (.leaf k xs s)
 |.stuck=>some .stuck
 |.lt g p xs n k=>(k.turn out jy f).map fun k=>.lt g p xs n k
 |.call g c xs n o k=>(k.turn out jy f).map fun k=>.call g c xs n o k
 |.ite c t e=>(t.turn out jy f).bind fun t=>(e.turn out jy f).map fun e=>.ite c t e
 | .bind i t k =>
  bif Kak i out then (bif t.no jy then (k.turn out jy f).map fun k=>.bind i t k else none)
  else (t.turn out jy f).bind fun t=>(k.turn out jy f).map fun k=>.bind i t k
 |.loop i b=>bif Raq out then (bif b.no jy then some (.loop i b) else none) else (b.turn out jy f).map fun b=>.loop i b
def Hbp (l:List St)(n:Nat):Nat:=l.foldl (fun m s=>max m s.nr) n
def Na1 (τ:St)(fk:Nat):List (Nat×Nat)->Bool
 |[]=>true
 | (r, k) :: d => Tbh r fk && (match τ.get (kR r) with
  |some (.root _ _ _ .gone)=>true
  |some (.root _ _ _ (.fwd _))=>true
  |some (.root _ _ v _)=>Nat.ble k v
  |_=>false)&&Na1 τ fk d
mutual
def aO.wf (τ:St)(fk:Nat):aO->Bool
 |.ex r=>(τ.get (kR r)).isSome
 |.sn d _ _ _=>Na1 τ fk d
 |.px b _=>(τ.get (kB b)).isSome
 |.pe l _ _ _=>l.wf τ fk
 |.rp d _ _=>Na1 τ fk d
 |.clo _ l=>mH τ fk l
 |_=>true
def mH (τ:St)(fk:Nat):List aO->Bool
 |[]=>true
 |a::r=>a.wf τ fk&&mH τ fk r
end
def qG (τ:St)(fk k:Nat):Option aP->Bool
 |none=>true
 | some c => bT τ.nv c && (match c with
  |.slot none .dead=>Nat.beq (k % 3) 0
  |.slot none (.one l)=>Nat.beq (k % 3) 0&&l.wf τ fk
  |.slot none (.agg ls)=>Nat.beq (k % 3) 0&&mH τ fk ls
  |.box _ ls=>Nat.beq (k % 3) 1&&mH τ fk ls
  |.root _ _ _ (.fwd _)=>false
  |.root _ _ _ _=>Nat.beq (k % 3) 2
  |_=>false)
def Eap (τ:St)(fk:Nat):List Nat->Bool
 |[]=>true
 |k::ks=>qG τ fk k (τ.get k)&&Eap τ fk ks
def Raj (τ:St):List Nat->Bool
 |[]=>true
 |k::ks=>(τ.get k).isNone&&Raj τ ks
def Cao (E:Env)(s0:St)(cH len:Nat)(τ:St):Bool :=
 Nat.beq τ.nv (s0.nv+len)&&Nat.ble E.ntmps τ.nt&&Nat.ble τ.nt (E.ntmps+E.ngh)&&Nat.beq τ.nr (cH+len)&&Nat.ble s0.nr cH &&
 Raj τ ((range s0.nr (cH-s0.nr)).map kR)&&Eap τ s0.nr ((range 0 τ.nt).map kT++(range 0 τ.nb).map kB++((range 0 s0.nr++range cH len).map kR))
def join (E:Env)(live:Nat)(s0:St)(i:Nat)(jy:Kind->Bool)(ends:List St)(t:Tm St):Option (Tm St×St) :=
 let keys:=Kae E s0.nb live ends
 let br:=Cbp s0.nv ends [] keys
 let gj:=Hbp ends s0.nr
 let τ:=template E s0.nv s0.nb s0.nr gj ends keys br
 bif Cao E s0 gj br.length τ then (t.turn (.yield i) jy (coerce E s0.nv s0.nr gj br τ (.yield i))).map fun t=>(t,τ) else jH 6
def Pal (a b:List Pos):Bool :=
 match a,b with
 |[],[]=>true
 | p :: ps, q :: qs => Nat.beq p.k q.k && Nat.beq p.j q.j && (match p.f, q.f with
  |.sc,.sc=>true
  |.nil _,.nil _=>true
  |.ex m,.ex m'=>Nat.beq m m'
  |.sn,.sn=>true
  |.pn,.pn=>true
  |.rp _,.rp _=>true
  |.dead,.dead=>true
  |.alias i,.alias j=>Nat.beq i j
  |_,_=>false)&&Pal ps qs
 |_,_=>false
def Maa (τ:St)(ends:List St):List Nat->Bool
 |[]=>true
 | r :: rs => (match τ.get (kR r) with
  | some (.root _ m v st) => zO st .gone || ends.all fun s => match s.get (kR r) with
   |some (.root _ m' v' tR)=>(Nat.beq m m'&&Nat.beq v v'&&zO st tR)||(zO st .frozen&&zO tR .live)
   |_=>false
  |_=>true)&&Maa τ ends rs
def Fam (E:Env)(live:Nat)(s:St)(body:St->Option (Tm St)):Nat->List Pos->List Nat->Nat->List St->Option (Tm St)
 |0,_,_,_,_=>jH 3
 | fuel + 1, br, keys, gj, seen =>
  let τ:=template E s.nv s.nb s.nr gj (s::seen) keys br
  match body τ with
  |none=>none
  | some tb =>
   let ends:=tb.falls.map (Pan E s E.pxs)
   let keys':=Kae E s.nb live (s::ends)
   let plan':=Cbp s.nv (s::ends) br keys'
   bif Pal br plan'&&Nat.beq keys.length keys'.length&&Maa τ ends (range 0 s.nr) then do
    let (pre,s1,xs) <- jE E s.nr br 0 { s with nr:=s.nr+br.length }
    let s2 <- gJ τ (range 0 s.nr) s1
    bif lU E s.nv xs s.nr gj s.nr br.length τ s2&&lZ s.tr s.nr br.length&&pre.isEmpty&&Cao E s gj br.length τ then do
     let tb <- tb.turn .cont nT (coerce E s.nv s.nr gj br τ .cont)
     some (.loop xs tb)
    else jH 2
   else Fam E live s body fuel plan' keys' (Hbp ends gj) ends
def Xau:Operand->Option Bool
 |.const (.bool b)=>some b
 |_=>none
def Nam:Code->Nat
 |.region r _ _=>r
 |.seq a _=>Nam a
 |.cond _ a _=>Nam a
 |.block _ b=>Nam b
 |.loop b=>Nam b
 |_=>0
def hintOf:List (Nat×List (Nat×Nat×Nat×Nat)×List Nat×Nat×List Nat)->Nat->Option (List (Nat×Nat×Nat×Nat)×List Nat×Nat×List Nat)
 |[],_=>none
 |(k,h)::r,n=>bif Nat.beq k n then some h else hintOf r n
def Hby (c z:Nat):Form :=
 match c with
 |0=>.sc
 |1=>.nil z
 |2=>.ex z
 |3=>.sn
 |4=>.pn
 |5=>.rp z
 |6=>.alias z
 |_=>.dead
def Cbm (s:St):List Nat->St->St
 |[],t=>t
 | d :: ds, t => Cbm s ds (t.put (kR (d / 3)) (match d % 3 with
  |0=>some (.root (.c .hole) 0 0 .gone)
  |1=>s.get (kR (d / 3))
  | _ => match s.get (kR (d / 3)) with
   |some (.root x m v _)=>some (.root x m v .frozen)
   |c=>c))
def Kab (E:Env)(s:St)(body:St->Option (Tm St))(h:List (Nat×Nat×Nat×Nat)×List Nat×Nat×List Nat):Option (Tm St) :=
 let br:List Pos:=h.1.map fun p=>⟨p.1,p.2.1,Hby p.2.2.1 p.2.2.2⟩
 let gj:=s.nr+h.2.2.1
 let τ:=jJ s.nv gj br 0 (Cbm s h.2.2.2 ⟨Ja5 s h.2.1 .nil,s.nv+br.length,s.nb,gj+br.length,s.nt⟩)
 match body τ with
 |none=>none
 | some tb => do
  let (pre,s1,xs) <- jE E s.nr br 0 { s with nr:=s.nr+br.length }
  let s2 <- gJ τ (range 0 s.nr) s1
  bif lU E s.nv xs s.nr gj s.nr br.length τ s2&&lZ s.tr s.nr br.length&&pre.isEmpty&&Cao E s gj br.length τ then do
   let tb <- tb.turn .cont nT (coerce E s.nv s.nr gj br τ .cont)
   some (.loop xs tb)
  else jH 2
def sxC (E:Env)(po:Bool)(rb:Nat):Code->List (Nat×Nat)->Nat->St->Option (Tm St)
 |.skip,_,_,s=>some (.leaf .fall [] s)
 |.label _,_,_,s=>some (.leaf .fall [] s)
 |.ret,_,_,s=>some (.leaf .ret [] s)
 |.exit id,_,_,s=>some (.leaf (.exit id) [] s)
 |.region k8 ops draw,_,_,s=>some (Jal E po k8 ops.toList draw s)
 | .seq a b, ex, live, s => do
  let mid:=Had b ex rb live
  let t <- sxC E po rb a ex mid s
  bif t.no nT then some t else
  match t.falls with
  |[_]=>t.graft (sxC E po rb b ex live)
  | ends => do
   let (t,τ) <- join E mid s 0 nT ends t
   let k <- sxC E po rb b ex live τ
   some (.bind 0 t k)
 | .cond c a b, ex, live, s =>
  match Xau c with
  |some true=>sxC E po rb a ex live s
  |some false=>sxC E po rb b ex live s
  |none =>
  match s.get (match c with|.tmp t=>kT t|_=>0),c with
  | some (.slot none (.one (.sc x))), .tmp t => bif !(aZ s.nv x && Tbh t E.ntmps) then some .stuck else do
   let t <- sxC E po rb a ex live s
   let e <- sxC E po rb b ex live s
   some (.ite x t e)
  |_,_=>some .stuck
 | .block id b, ex, live, s => do
  let t <- sxC E po rb b ((id,live)::ex) live s
  bif t.no (nM id) then some t else
  match t.falls,t.exits id,t.tailExits id with
  |[],[_],[_]=>t.exitFall id
  | fs, es, _ => do
   let (t,τ) <- join E live s (id+1) (Oag id) (fs++es) t
   some (.bind (id+1) t (.leaf .fall [] τ))
 | .loop b, ex, _, s =>
  let live':=Had (.loop b) ex rb 0
  match hintOf E.hints (Nam b) with
  |some h=>Kab E s (sxC E po rb b ex live') h
  |none=>Fam E live' s (sxC E po rb b ex live') 9 [] (Kae E s.nb live' [s]) s.nr []
 |.scope _,_,_,_=>some .stuck
 |.goto _,_,_,_=>some .stuck
 |.rangeFunc _ _ _ _,_,_,_=>some .stuck
 |.refuse _,_,_,_=>some .stuck
def gY (i nr:Nat):LS->aO×List (Nat×aP)×Nat×Nat
 |.sc=>(.sc (.v i),[],i+1,nr)
 |.fz nie=>(.sn [] .no nie (.v i),[],i+1,nr)
 |.mu m=>(.ex nr,[(kR nr,.root (.v i) m 0 .live)],i+1,nr+1)
 |.ow m=>(.ex nr,[(kR nr,.root (.v i) m 0 .live)],i+1,nr+1)
 |.px b=>(.px b 0,[],i,nr)
 |.clo f cs=>(.clo f (cs.map fun c=>match c with | .px b=>.px b 0 | _=>.dead),[],i,nr)
 |.rp z=>(.rp [] z (.v i),[],i+1,nr)
def dL (i nr:Nat):List LS->List aO×List (Nat×aP)×Nat×Nat
 |[]=>([],[],i,nr)
 | s :: ss =>
  let (l,u,i,nr):=gY i nr s
  let (ls,us,i,nr):=dL i nr ss
  (l::ls,u++us,i,nr)
def iW (t i nr:Nat):List (Bool×List LS)->List (Nat×aP)×Nat×Nat
 |[]=>([],i,nr)
 | (a, ss) :: ps =>
  let (ls,u,i,nr):=dL i nr ss
  let (us,i,nr):=iW (t+1) i nr ps
  ((kT t,.slot none (match Qaz a ls with|some v=>v|none=>.dead))::u++us,i,nr)
def fV (i nr:Nat):BS->aO×List (Nat×aP)×Nat×Nat
 |.sc=>(.sc (.v i),[],i+1,nr)
 |.fz nie=>(.sn [] .no nie (.v i),[],i+1,nr)
 |.ow m=>(.ex nr,[(kR nr,.root (.v i) m 0 .live)],i+1,nr+1)
 |.ot=>(.dead,[],i,nr)
def fT (i nr:Nat):List (BS×BO)->List aO×List (Nat×aP)×Nat×Nat
 |[]=>([],[],i,nr)
 | (s, _) :: ss =>
  let (l,u,i,nr):=fV i nr s
  let (ls,us,i,nr):=fT i nr ss
  (l::ls,u++us,i,nr)
def jN (b i nr:Nat):List (Bool×List (BS×BO))->List (Nat×aP)×Nat×Nat
 |[]=>([],i,nr)
 | (ro, cs) :: bs =>
  let (ls,u,i,nr):=fT i nr cs
  let (us,i,nr):=jN (b+1) i nr bs
  ((kB b,.box ro ls)::u++us,i,nr)
def dY (r:Nat):List LS->List Nat
 |[]=>[]
 |.mu _::ss=>r::dY (r+1) ss
 |.ow _::ss=>dY (r+1) ss
 |_::ss=>dY r ss
def qE (t:Nat):List aO->List (Nat×aP)
 |[]=>[]
 |l::ls=>(kT t,.slot none (.one l))::qE (t+1) ls
def Nai (s:Sig):List aO:=(dY 0 (s.params.flatMap (·.2))).map aO.ex++(range 0 s.boxes.length).map fun b=>aO.px b 0
def lT (s:Sig):Nat:=(Nai s).length
def entry (s:Sig)(ntmps:Nat):St :=
 let (u,i,nr):=iW 0 0 0 s.params
 let (v,i,nr):=jN 0 i nr s.boxes
 (St.puts ⟨.nil,i,s.boxes.length,nr,ntmps+lT s⟩ (u++v++qE ntmps (Nai s)))
structure Fin where
 xs:List aJ
 own:List (Nat×Nat×Nat)
 q:Nat
 frz:List Nat
 lets:List Step
 bxs:List Nat
def xM (F:Fin)(r m:Nat)(x:aJ):Fin:={ F with xs:=F.xs++[x],own:=F.own++[(r,2*F.q,m)],q:=F.q+1 }
def Ra0 (F:Fin)(z:Nat):Fin:={ F with xs:=F.xs++[.c (.rows z [])],q:=F.q+1 }
def Nap (F:Fin)(m:Nat):aO->RdM Fin
 |.sn [] _ true (.c (.rows z []))=>.ret (Ra0 F z)
 | .ex r => do
  match <- rdK (kR r) with
  | some (.root x m' v .live) => do
   bL (Nat.ble m m')
   .ret (xM F r m x)
  |_=>.no
 | .sn [(r, k)] .view _ x => do
  match <- rdK (kR r) with
  | some (.root _ m' v .live) => do
   bL (Nat.ble m m'&&Nat.beq v k)
   .ret (xM F r m x)
  |_=>.no
 |_=>.no
def Nar (F:Fin)(l:aO):RdM Fin:=do
 let s <- wB l
 .ret { F with xs:=F.xs++[s.x],frz:=F.frz++s.deps.map (·.1) }
def Fa8 (nv:Nat)(F:Fin):LR->aO->RdM Fin
 |.sc,.sc x=>.ret { F with xs:=F.xs++[x] }
 |.fz,l=>Nar F l
 |.ow m,l=>Nap F m l
 |.rp z,.pn=>.ret { F with xs:=F.xs++[.c (.rows z [])] }
 | .rp z, .rp deps z' x => do
  let d <- uF deps
  .ret { F with xs:=F.xs++[x],frz:=F.frz++d.map (·.1) }
 | .rp z, .pe l z' i 0 => do
  let s <- wB l
  .ret { F with xs:=F.xs++[.v (nv+bF F.lets)],frz:=F.frz++s.deps.map (·.1),lets:=F.lets++[.prim (.one z') [s.x,i] 1] }
 |_,_=>.no
def Ba6 (F:Fin):BO->aO->RdM Fin
 |.sc,.sc x=>.ret { F with xs:=F.xs++[x] }
 |.fz,l=>Nar F l
 |.ow m,l=>Nap F m l
 |.dead,l=>bif Law l then .ret { F with xs:=F.xs++[.c .hole] } else .no
 |_,_=>.no
def iM:Fin->List BO->List aO->RdM Fin
 |F,[],[]=>.ret F
 | F, s :: ss, l :: ls => do
  let F <- Ba6 F s l
  iM F ss ls
 |_,_,_=>.no
def gN (nv:Nat):Fin->List LR->List aO->RdM Fin
 |F,[],[]=>.ret F
 | F, s :: ss, l :: ls => do
  let F <- (match s,l with
   | .bx cs, .px b 0 => do
    match <- rdK (kB b) with
    |some (.box false bs)=>iM { F with bxs:=F.bxs++[b] } cs bs
    |_=>.no
   |s,l=>Fa8 nv F s l)
  gN nv F ss ls
 |_,_,_=>.no
def nP (E:Env)(nv:Nat):Fin->List (Bool×List LR)->List ResultVar->RdM Fin
 |F,[],[]=>.ret F
 | F, (a, ss) :: rs, .tmp t :: vs => do
  match <- rdK (kT t) with
  | some (.slot none v) => do
   bL (Tbh t E.ntmps)
   let ls <- mG (jF a v)
   let F <- gN nv F ss ls
   nP E nv F rs vs
  |_=>.no
 | F, (a, ss) :: rs, .cell t ty :: vs => do
  let ti <- mG (E.ti ty)
  bL ((a==ti.agg)&&Nat.beq ss.length ti.size&&(ti.agg||Nat.beq ti.size 1)&&Tbh t E.ntmps)
  match <- rdK (kT t) with
  | some (.slot none (.one (.px b off))) => do
   match <- rdK (kB b) with
   | some (.box _ ls) => do
    let F <- gN nv F ss ((ls.drop off).take ti.size)
    nP E nv F rs vs
   |_=>.no
  |_=>.no
 |_,_,_=>.no
def dO:List LS->List Nat
 |[]=>[]
 |.mu m::ss=>m::dO ss
 |_::ss=>dO ss
def Dac (t:Nat):Nat->List Nat->Fin->RdM Fin
 |_,[],F=>.ret F
 | j, d :: ds, F => do
  match <- rdK (kT (t+j)) with
  | some (.slot none (.one (.ex r))) => do
   match <- rdK (kR r) with
   | some (.root x m _ .live) => do
    bL (Nat.ble d m)
    Dac t (j+1) ds { F with xs:=F.xs++[x],own:=F.own++[(r,2*j+1,d)] }
   |_=>.no
  |_=>.no
def oL (t:Nat):Fin->Nat->List (Bool×List (BS×BO))->RdM Fin
 |F,_,[]=>.ret F
 | F, b, (ro, cs) :: r => do
  bif ro then oL t F (b+1) r else
  match <- rdK (kT (t+b)) with
  | some (.slot none (.one (.px b' 0))) => do
   bL (Nat.beq b' b)
   match <- rdK (kB b) with
   | some (.box false ls) => do
    let F <- iM F (cs.map (·.2)) ls
    oL t F (b+1) r
   |_=>.no
  |_=>.no
def Cbx (E:Env)(s:Sig)(results:List ResultVar)(nv:Nat):RdM Fin:=do
 let F <- nP E nv ⟨[],[],0,[],[],[]⟩ s.results results
 let ms:=dO (s.params.flatMap (·.2))
 let F <- Dac E.ntmps 0 ms F
 oL (E.ntmps+ms.length) F 0 s.boxes
def finish (E:Env)(s:Sig)(results:List ResultVar)(st:St):Option (Tm St) :=
 match (Cbx E s results st.nv).eval st.get with
 | some F =>
  bif distinct (F.own.map (·.1))&&!(meets (F.own.map (·.1)) F.frz)&&!(F.bxs.any fun b=>Tbh b s.boxes.length)&&dW st.nv F.lets then
   some (mY none (.leaf .ret F.xs st) F.lets) else none
 |none=>none
def Cbk (E:Env)(po:Bool)(s:Sig)(body:Code)(live:Nat):Option (Tm St) :=
 let e:=entry s E.ntmps
 bif Eap e e.nr ((range 0 e.nt).map kT++(range 0 e.nb).map kB++(range 0 e.nr).map kR) then sxC E po live body [] live e else jH 7
def Db1 (l:List ResultVar):Nat:=l.foldl (fun m r=>match r with|.tmp t=>m ||| 2 ^ t|.cell t _=>m ||| 2 ^ t) 0
def Mba:Kind->Bool
 |.ret=>true
 |.fall=>true
 |_=>false
def Saq (E:Env)(s:Sig)(fn:Func):Option (Tm Unit) :=
 match fn.body with
 |none=>none
 | some c => bif !(Nat.ble s.params.length fn.ntmps) then none else do
  let E:={ E with ntmps:=fn.ntmps,ngh:=lT s,nbx:=s.boxes.length }
  let t <- Cbk E false s c (Db1 fn.results.toList)
  let t <- t.turn .ret Mba fun st=>(match finish E s fn.results.toList st with|some t=>some t|none=>some .stuck)
  some t.strip
inductive Sc:Value->D->Prop
 |int (k:IntKind) (n:Int):Sc (.int k n) (.int k n)
 |bool (b:Bool):Sc (.bool b) (.bool b)
 |str (l:List UInt8):Sc (.string ⟨l.toArray⟩) (.str l)
inductive Rd (ok:Nat->Prop) (w:World):Value->D->Prop
 |sc {v:Value} {d:D} (h:Sc v d):Rd ok w v d
 |hole (v:Value) (h1:v.oneCell'=true):Rd ok w v .hole
 | rows (A : Option Addr) (a : Addr) (n c sz : Nat) (rs : List (List D)) (vs : Nat -> Nat -> Value)
   (hn:rs.length=n) (hc:n<=c) (hA:n=0\/A=some a) (ef:∀ r∈rs,r.length=sz)
   (cu:∀ i r,rs[i]?=some r->∀ j d,r[j]?=some d->ok a.block/\w.cell? (a.add (i*sz+j))=some (vs i j))
   (cL:∀ i r,rs[i]?=some r->∀ j d,r[j]?=some d->Rd ok w (vs i j) d) :
   Rd ok w (.slice A n c) (.rows sz rs)
inductive Ow where
 |frz
 |slc (r:Nat) (p:List Nat)
 |box (b:Nat)
 |oth
 deriving DecidableEq
def fzq (w:World)(a:Addr):Bool :=
 match w.heap[a.block]? with
 |some (.cells _ _ (lo,hi))=>decide (lo<hi)
 |_=>false
theorem uX {w:World}{a:Addr}(h:fzq w a=false){b:Addr}(hb:b.block=a.block):w.frozen? b=false:=by
 unfold fzq at h;unfold World.frozen?;rw[hb];split at h
 ·rename_i lo hi he
  rw[he];have:=of_decide_eq_false h;simp only[Bool.and_eq_false_iff,decide_eq_false_iff_not];omega
 ·rename_i dk
  split
  ·rename_i lo hi he
   exact absurd he (dk _ _ _ _)
  ·rfl
inductive Rp (own:Nat->Ow) (w:World) (r:Nat):List Nat->Nat->Value->D->Prop
 |sc {p:List Nat} {m:Nat} {v:Value} {d:D} (h:Sc v d):Rp own w r p m v d
 |hole {p:List Nat} {m:Nat} (v:Value) (h1:v.oneCell'=true):Rp own w r p m v .hole
 |fz {p:List Nat} {v:Value} {d:D} (h:Rd (fun b=>own b=.frz) w v d):Rp own w r p 0 v d
 | sl {p : List Nat} {m : Nat} (A : Option Addr) (a : Addr) (n c sz : Nat) (rs : List (List D)) (vs : Nat -> Nat -> Value)
   (hn:rs.length=n) (hc:n<=c) (hA:A=some a\/(A=none/\c=0)) (ef:∀ r∈rs,r.length=sz)
   (bz:A=some a->a.spot=none/\own a.block=.slc r p/\∀ k,k<c*sz->∃ u,w.cell? (a.add k)=some u/\fzq w (a.add k)=false)
   (cu:∀ i row,rs[i]?=some row->∀ j d,row[j]?=some d->w.cell? (a.add (i*sz+j))=some (vs i j))
   (cL:∀ i row,rs[i]?=some row->∀ j d,row[j]?=some d->Rp own w r (p++[i*sz+j]) m (vs i j) d) :
   Rp own w r p (m+1) (.slice A n c) (.rows sz rs)
def wW (own:Nat->Ow)(w:World)(r:Nat):List Nat->Value->List Nat->Value->Prop
 |_,v,[],u=>u=v
 |q,v,k::p,u=>∃ a n c u',v=.slice (some a) n c/\own a.block=.slc r q/\w.cell? (a.add k)=some u'/\wW own w r (q++[k]) u' p u
theorem fO {w w':World}{a:Addr}(h:w'.heap[a.block]?=w.heap[a.block]?):w'.cell? a=w.cell? a:=by
 unfold World.cell?;rw[h]
theorem Fax {w w':World}{a:Addr}(h:w'.heap[a.block]?=w.heap[a.block]?):w'.frozen? a=w.frozen? a:=by
 unfold World.frozen?;rw[h]
theorem Aao {w w':World}{a:Addr}(h:w'.heap[a.block]?=w.heap[a.block]?):fzq w' a=fzq w a:=by
 unfold fzq;rw[h]
theorem add_block (a:Addr)(k:Nat):(a.add k).block=a.block:=by unfold Addr.add;split<;>rfl
theorem add_add (a:Addr)(j k:Nat):(a.add j).add k=a.add (j+k):=by
 unfold Addr.add;by_cases hj:j=0<;>by_cases hk:k=0<;>simp_all<;>omega
theorem Rd.mono {ok ok':Nat->Prop}{w w':World}{v:Value}{d:D}(h:Rd ok w v d)
  (hf:∀ b,ok b->ok' b/\w'.heap[b]?=w.heap[b]?):Rd ok' w' v d:=by
 induction h with
 |sc h=>exact .sc h
 |hole v h1=>exact .hole v h1
 | rows A a n c sz rs vs hn hc hA ef cu cL ih =>
  refine .rows A a n c sz rs vs hn hc hA ef (fun i r hi j d hj=>?_) (fun i r hi j d hj=>ih i r hi j d hj);obtain⟨h1,h2⟩:=cu i r hi j d hj;obtain⟨h3,h4⟩:=hf _ h1;exact⟨h3,(fO (w:=w) (w':=w') (by rw[add_block];exact h4)).trans h2⟩
theorem Rp.mono {own own':Nat->Ow}{w w':World}{r r':Nat}{q q':List Nat}{p:List Nat}{m:Nat}{v:Value}{d:D}(h:Rp own w r p m v d)
  (hz:∀ b,own b=.frz->own' b=.frz/\w'.heap[b]?=w.heap[b]?) :
  ∀ s,p=q++s->(∀ b t,own b=.slc r (q++t)->own' b=.slc r' (q'++t)/\w'.heap[b]?=w.heap[b]?)->Rp own' w' r' (q'++s) m v d:=by
 induction h with
 |sc h=>exact fun _ _ _=>.sc h
 |hole v h1=>exact fun _ _ _=>.hole v h1
 |fz h=>exact fun _ _ _=>.fz (h.mono hz)
 | sl A a n c sz rs vs hn hc hA ef bz cu cL ih =>
  rename_i p m;intro s hp hs;refine .sl A a n c sz rs vs hn hc hA ef (fun e=>?_) (fun i row hi j d hj=>?_) (fun i row hi j d hj=>?_)
  ·obtain⟨h1,h2,h3⟩:=bz e
   rw[hp]at h2;obtain⟨h4,h5⟩:=hs _ _ h2;refine⟨h1,h4,fun k hk=>?_⟩;obtain⟨u,hu,hf⟩:=h3 k hk;exact⟨u,(fO (w:=w) (w':=w') (by rw[add_block];exact h5)).trans hu,(Aao (w:=w) (w':=w') (by rw[add_block];exact h5)).trans hf⟩
  ·rcases hA with e|⟨e,e'⟩
   ·obtain⟨h1,h2,h3⟩:=bz e
    rw[hp]at h2;obtain⟨h4,h5⟩:=hs _ _ h2;exact (fO (w:=w) (w':=w') (by rw[add_block];exact h5)).trans (cu i row hi j d hj)
   ·exfalso
    have:i<rs.length:=by
     rcases Sbh i rs.length with h|h
     ·exact h
     ·simp[Tb4 h]at hi
    omega
  ·have:=ih i row hi j d hj (s++[i*sz+j]) (by rw[hp,Rb3]) hs
   rwa[<- Rb3]at this
theorem Rp.rd {own:Nat->Ow}{w:World}{r:Nat}{p:List Nat}{m:Nat}{v:Value}{d:D}(h:Rp own w r p m v d) :
  Rd (fun b=>own b=.frz\/∃ q,own b=.slc r q) w v d:=by
 induction h with
 |sc h=>exact .sc h
 |hole v h1=>exact .hole v h1
 |fz h=>exact h.mono fun b hb=>⟨.inl hb,rfl⟩
 | sl A a n c sz rs vs hn hc hA ef bz cu cL ih =>
  refine .rows A a n c sz rs vs hn hc ?_ ef (fun i row hi j d hj=>?_) ih
  ·rcases hA with e|⟨e,e'⟩
   ·exact .inr e
   ·exact .inl (by omega)
  ·refine⟨?_,cu i row hi j d hj⟩
   rcases hA with e|⟨e,e'⟩
   ·exact .inr ⟨_,(bz e).2.1⟩
   ·exfalso
    have:i<rs.length:=by
     rcases Sbh i rs.length with h|h
     ·exact h
     ·simp[Tb4 h]at hi
    omega
theorem Rp.weaken {own own':Nat->Ow}{w:World}{r:Nat}{p:List Nat}{m:Nat}{v:Value}{d:D}(h:Rp own w r p m v d)
  (hz:∀ b,own b=.frz->own' b=.frz):∀ (m':Nat),m'<=m ->
  (∀ b t,own b=.slc r (p++t)->own' b=(if t.length<m' then .slc r (p++t) else .frz))->Rp own' w r p m' v d:=by
 induction h with
 |sc h=>exact fun _ _ _=>.sc h
 |hole v h1=>exact fun _ _ _=>.hole v h1
 | fz h =>
  intro m' hm hs;obtain rfl:m'=0:=by omega
  exact .fz (h.mono fun b hb=>⟨hz b hb,rfl⟩)
 | sl A a n c sz rs vs hn hc hA ef bz cu cL ih =>
  rename_i p m;intro m' hm hs
  cases m' with
  | zero =>
   refine .fz (.rows A a n c sz rs vs hn hc ?_ ef (fun i row hi j d hj=>?_) (fun i row hi j d hj=>?_))
   ·rcases hA with e|⟨e,e'⟩
    ·exact .inr e
    ·exact .inl (by omega)
   ·refine⟨?_,cu i row hi j d hj⟩
    rcases hA with e|⟨e,e'⟩
    ·have:=hs a.block [] (by simpa using (bz e).2.1)
     simpa using this
    ·exfalso
     have:i<rs.length:=by
      rcases Sbh i rs.length with h|h
      ·exact h
      ·simp[Tb4 h]at hi
     omega
   ·have h1:=ih i row hi j d hj 0 (Nat.zero_le _) (fun b t hb=>by
     have:=hs b ([i*sz+j]++t) (by rw[<- Rb3];exact hb);simpa using this)
    generalize vs i j=u at h1
    cases h1 with
    |sc h=>exact .sc h
    |hole _ h1=>exact .hole _ h1
    |fz h=>exact h
  | succ m' =>
   refine .sl A a n c sz rs vs hn hc hA ef (fun e=>?_) cu (fun i row hi j d hj=>?_)
   ·obtain⟨h1,h2,h3⟩:=bz e
    refine⟨h1,?_,h3⟩;have:=hs a.block [] (by simpa using h2);simpa using this
   ·refine ih i row hi j d hj m' (by omega) (fun b t hb=>?_)
    have:=hs b ([i*sz+j]++t) (by rw[<- Rb3];exact hb);simp only[List.length_append,List.length_singleton]at this;rw[this,<- Rb3];by_cases ht:t.length<m'
    ·rw[if_pos ht,if_pos (by omega)]
    ·rw[if_neg ht,if_neg (by omega)]
theorem Sc.one {v:Value}{d:D}(h:Sc v d):v.oneCell'=true:=by cases h<;>rfl
theorem Rd.one {ok:Nat->Prop}{w:World}{v:Value}{d:D}(h:Rd ok w v d):v.oneCell'=true:=by
 cases h with
 |sc h=>exact h.one
 |hole _ h1=>exact h1
 |rows=>rfl
theorem Rp.one {own:Nat->Ow}{w:World}{r:Nat}{p:List Nat}{m:Nat}{v:Value}{d:D}(h:Rp own w r p m v d):v.oneCell'=true:=by
 cases h with
 |sc h=>exact h.one
 |hole _ h1=>exact h1
 |fz h=>exact h.one
 |sl=>rfl
structure Gh where
 own:Nat->Ow
 hdr:Nat->Value
 bx:Nat->Addr
def kQ (σ:Nat->Option aP)(r k:Nat):Prop:=∃ x m st,σ (kR r)=some (.root x m k st)/\(st=.live\/st=.frozen)
def wT (σ:Nat->Option aP)(r k m:Nat):Prop:=∃ x,σ (kR r)=some (.root x m k .live)
def iL (σ:Nat->Option aP)(r k:Nat):Prop:=∃ x m b9 st,σ (kR r)=some (.root x m b9 st)/\(st=.live\/st=.frozen->k<=b9)
def allow (G:Gh)(deps:List (Nat×Nat))(b:Nat):Prop:=G.own b=.frz\/∃ r k p,(r,k)∈deps/\G.own b=.slc r p
def jY (ρ:List D)(x:aJ):Nat:=match x.val ρ with
 |.int _ n=>n.toNat
 |_=>0
def bA (ρ:List D)(p:List (aJ×Nat×Nat)):List Nat:=p.map fun x=>jY ρ x.1*x.2.1+x.2.2
def Cb8 (h v:Value)(sz L:Nat):Prop:=∃ A n c,h=.slice A n c/\L<=n/\v=.slice (if c=L then A else A.map (·.add (L*sz))) (n-L) (c-L)
def Baf (σ:Nat->Option aP)(ρ:List D)(G:Gh)(w:World)(deps:List (Nat×Nat))(v:Value)(d:D):Pth->Prop
 |.no=>True
 |.view=>∀ r k m,deps=[(r,k)]->wT σ r k m->Rp G.own w r [] m v d
 |.suf sz lo=>∀ r k m,deps=[(r,k)]->wT σ r k m->Cb8 (G.hdr r) v sz (jY ρ lo)
 |.path p=>∀ r k m,deps=[(r,k)]->wT σ r k m->p.length<=m/\Rp G.own w r (bA ρ p) (m-p.length) v d/\wW G.own w r [] (G.hdr r) (bA ρ p) v
mutual
def aB (σ:Nat->Option aP)(ρ:List D)(G:Gh)(w:World):aO->Value->Prop
 |.dead,v=>v.oneCell'=true
 |.sc x,v=>Sc v (x.val ρ)
 |.su g x,v=>(Sc v (x.val ρ)\/(v=undef/\x.val ρ=.undef))/\(gOn ρ (some g)=true->Sc v (x.val ρ))
 |.ex r,v=>v=G.hdr r/\(σ (kR r)).isSome/\v.oneCell'=true
 | .sn deps p nie x, v => (v.oneCell' = true /\ ∀ z ∈ deps, iL σ z.1 z.2) /\ ((∀ z ∈ deps, kQ σ z.1 z.2) ->
   Rd (allow G deps) w v (x.val ρ)/\(nie=true->∀ z,x.val ρ=.rows z []->v=.slice none 0 0)/\Baf σ ρ G w deps v (x.val ρ) p)
 |.px b off,v=>v=.pointer (some ((G.bx b).add off))/\(σ (kB b)).isSome
 |.pe l sz i off,v=>∃ a n c k iv,aB σ ρ G w l (.slice (some a) n c)/\i.val ρ=.int k iv/\0<=iv/\iv.toNat<n/\v=.pointer (some (a.add (iv.toNat*sz+off)))
 | .rp deps sz x, v => (v.oneCell' = true /\ ∀ z ∈ deps, iL σ z.1 z.2) /\ ((∀ z ∈ deps, kQ σ z.1 z.2) ->
   (v=.pointer none/\∃ z,x.val ρ=.rows z []) \/
   ∃ a row,v=.pointer (some a)/\x.val ρ=.rows row.length [row]/\Rd (allow G deps) w (.slice (some a) 1 1) (.rows row.length [row]))
 |.pn,v=>v=.pointer none
 |.clo f fW,v=>∃ vs,v=.func (.func f) #[] vs.toArray/\aG σ ρ G w fW vs
def aG (σ:Nat->Option aP)(ρ:List D)(G:Gh)(w:World):List aO->List Value->Prop
 |[],vs=>vs=[]
 |l::ls,vs=>∃ u us,vs=u::us/\aB σ ρ G w l u/\aG σ ρ G w ls us
end
def gU (σ:Nat->Option aP)(ρ:List D)(G:Gh)(w:World):List (Bool×List aO)->List Value->Prop
 |[],us=>us=[]
 |(a,ls)::r,us=>∃ u ee vs,us=u::ee/\aG σ ρ G w ls vs/\(if a=true then u=.agg vs.toArray else vs=[u])/\gU σ ρ G w r ee
def bV (σ:Nat->Option aP)(ρ:List D)(G:Gh)(w:World):SV->Value->Prop
 |.dead,_=>True
 |.one l,v=>aB σ ρ G w l v
 |.agg ls,v=>∃ vs,v=.agg vs.toArray/\aG σ ρ G w ls vs
 |.tup ts,v=>∃ us,v=.tuple us.toArray/\gU σ ρ G w ts us
def yP (n:Nat)(a:Act)(gh:Nat->Value)(t:Nat):Value:=if t<n then a.tmps.getD t undef else gh (t-n)
def bP (σ:Nat->Option aP)(ρ:List D)(G:Gh)(w:World)(r:Nat)(x:aJ)(m:Nat):RSt->Prop
 |.live=>Rp G.own w r [] m (G.hdr r) (x.val ρ)
 |.frozen=>Rd (fun b=>G.own b=.frz) w (G.hdr r) (x.val ρ)/\∀ b p,G.own b≠.slc r p
 |.gone=>True
 |.fwd r'=>G.hdr r=G.hdr r'/\(σ (kR r')).isSome
def Jad (σ:Nat->Option aP)(ρ:List D)(G:Gh)(w:World)(b:Nat)(ro:Bool)(ls:List aO):Prop :=
 (G.bx b).spot=none/\G.own (G.bx b).block=(if ro=true then .oth else .box b) /\
 ∀ j l,ls[j]?=some l->∃ v,w.cell? ((G.bx b).add j)=some v/\w.frozen? ((G.bx b).add j)=false/\aB σ ρ G w l v
structure bE where
 w0:World
 own0:Nat->Ow
 gh:Nat->Value
 rng:Nat->Nat×Nat
structure lC (F:bE) (G:Gh) (w:World):Prop where
 os:w.os=F.w0.os
 tape:w.tape=F.w0.tape
 output:w.output=F.w0.output
 size:F.w0.heap.size<=w.heap.size
 keep:∀ b,b<F.w0.heap.size->F.own0 b=.frz\/F.own0 b=.oth->w.heap[b]?=F.w0.heap[b]?/\G.own b=F.own0 b
 boxes:∀ b j,b<F.w0.heap.size->F.own0 b=.box j->G.own b=.box j/\∃ c0 c1 e fr,F.w0.heap[b]?=some (.cells c0 e fr)/\w.heap[b]?=some (.cells c1 e fr)/\c1.size=c0.size /\
  ∀ k,k<(F.rng j).1\/(F.rng j).2<=k->c1[k]?=c0[k]?
 fresh:∀ b,w.heap.size<=b->G.own b=.frz
def Yap (n:Nat)(gh:Nat->Value)(σ:Nat->Option aP)(ρ:List D)(G:Gh)(a:Act)(w:World):Nat->aP->Prop
 |k,.slot g v=>∃ t,k=kT t/\(gOn ρ g=true->bV σ ρ G w v (yP n a gh t))
 |k,.box ro ls=>∃ b,k=kB b/\Jad σ ρ G w b ro ls
 |k,.root x m b9 st=>∃ r,k=kR r/\(σ (kR r)).isSome/\bP σ ρ G w r x m st
structure R (n:Nat) (F:bE) (σ:Nat->Option aP) (ρ:List D) (a:Act) (w:World) (G:Gh):Prop where
 tmps:a.tmps.size=n
 defers:a.defers=[]
 cont:∀ k c,σ k=some c->Yap n F.gh σ ρ G a w k c
 frame:lC F G w
 rng:∀ b ls,σ (kB b)=some (.box false ls)->(G.bx b).block<F.w0.heap.size->F.own0 (G.bx b).block=.box b->F.rng b=((G.bx b).off,(G.bx b).off+ls.length)
theorem Hbs {a b:Nat}(h:kT a=kT b):a=b:=by unfold kT at h;omega
theorem Aak {a b:Nat}(h:kB a=kB b):a=b:=by unfold kB at h;omega
theorem eF {a b:Nat}(h:kR a=kR b):a=b:=by unfold kR at h;omega
theorem kK {a b:Nat}:kT a≠kB b:=by unfold kT kB;omega
theorem gW {a b:Nat}:kT a≠kR b:=by unfold kT kR;omega
theorem eO {a b:Nat}:kB a≠kR b:=by unfold kB kR;omega
section
variable {n:Nat} {F:bE} {σ:Nat->Option aP} {ρ:List D} {a:Act} {w:World} {G:Gh}
theorem R.slot (h:R n F σ ρ a w G){t:Nat}{g:Option (aJ×Bool)}{v:SV}(hk:σ (kT t)=some (.slot g v))(hg:gOn ρ g=true):bV σ ρ G w v (yP n a F.gh t):=by
 obtain⟨t',e,h'⟩:=h.cont _ _ hk;obtain rfl:=Hbs e;exact h' hg
theorem R.box (h:R n F σ ρ a w G){b:Nat}{ro:Bool}{ls:List aO}(hk:σ (kB b)=some (.box ro ls)):Jad σ ρ G w b ro ls:=by
 obtain⟨t',e,h'⟩:=h.cont _ _ hk;obtain rfl:=Aak e;exact h'
theorem R.root (h:R n F σ ρ a w G){r:Nat}{x:aJ}{m b9:Nat}{st:RSt}(hk:σ (kR r)=some (.root x m b9 st)):bP σ ρ G w r x m st:=by
 obtain⟨t',e,_,h'⟩:=h.cont _ _ hk;obtain rfl:=eF e;exact h'
end
structure Fr (σ:Nat->Option aP) (G:Gh) (w:World) (eE:Nat->Option aP) (G':Gh) (w':World):Prop where
 frz:∀ b,G.own b=.frz->b<w.heap.size->G'.own b=.frz/\w'.heap[b]?=w.heap[b]?
 valid:∀ r k,iL σ r k->kQ eE r k->kQ σ r k
 known:∀ r k,iL σ r k->iL eE r k
 slc:∀ r k b p,kQ σ r k->kQ eE r k->G.own b=.slc r p->(G'.own b=.slc r p\/G'.own b=.frz)/\w'.heap[b]?=w.heap[b]?
 live:∀ r k m,iL σ r k->wT eE r k m->wT σ r k m/\∀ b p,G.own b=.slc r p->G'.own b=.slc r p
 hdr:∀ r,(σ (kR r)).isSome->G'.hdr r=G.hdr r
 bx:∀ b,(σ (kB b)).isSome->G'.bx b=G.bx b
 keep:∀ k,(σ k).isSome->(eE k).isSome
 froz:∀ r x m k,σ (kR r)=some (.root x m k .frozen)->∀ b p,G'.own b=.slc r p->G.own b=.slc r p
theorem iL.some {σ:Nat->Option aP}{r k:Nat}(h:iL σ r k):(σ (kR r)).isSome:=by
 obtain⟨x,m,b9,st,e,_⟩:=h;rw[e];rfl
theorem kQ.known {σ:Nat->Option aP}{r k:Nat}(h:kQ σ r k):iL σ r k:=by
 obtain⟨x,m,st,e,_⟩:=h;exact⟨x,m,k,st,e,fun _=>Nat.le_refl _⟩
theorem iL.same {σ eE:Nat->Option aP}(h:∀ r,eE (kR r)=σ (kR r)){r k:Nat}(hk:iL σ r k):iL eE r k:=by
 obtain⟨x,m,b9,st,e,h1⟩:=hk;exact⟨x,m,b9,st,by rw[h];exact e,h1⟩
theorem wT.valid {σ:Nat->Option aP}{r k m:Nat}(h:wT σ r k m):kQ σ r k:=by
 obtain⟨x,e⟩:=h;exact⟨x,m,.live,e,.inl rfl⟩
theorem block_lt {w:World}{a:Addr}{v:Value}(h:w.cell? a=some v):a.block<w.heap.size:=by
 rcases Sbh a.block w.heap.size with h1|h1
 ·exact h1
 ·unfold World.cell? at h
  rw[Array.getElem?_eq_none h1]at h;cases h
theorem Xa8 {w:World}{a:Addr}{v:Value}(h:w.cell? a=some v):a.block<w.heap.size:=block_lt h
theorem Rd.mono' {ok ok':Nat->Prop}{w w':World}{v:Value}{d:D}(h:Rd ok w v d)
  (hf:∀ b,ok b->b<w.heap.size->ok' b/\w'.heap[b]?=w.heap[b]?):Rd ok' w' v d:=by
 induction h with
 |sc h=>exact .sc h
 |hole v h1=>exact .hole v h1
 | rows A a n c sz rs vs hn hc hA ef cu cL ih =>
  refine .rows A a n c sz rs vs hn hc hA ef (fun i r hi j d hj=>?_) (fun i r hi j d hj=>ih i r hi j d hj);obtain⟨h1,h2⟩:=cu i r hi j d hj;have aw:=Xa8 h2;rw[add_block]at aw;obtain⟨h3,h4⟩:=hf _ h1 aw;exact⟨h3,(fO (w:=w) (w':=w') (by rw[add_block];exact h4)).trans h2⟩
theorem Rp.mono' {own own':Nat->Ow}{w w':World}{r r':Nat}{q q':List Nat}{p:List Nat}{m:Nat}{v:Value}{d:D}(h:Rp own w r p m v d)
  (hz:∀ b,own b=.frz->b<w.heap.size->own' b=.frz/\w'.heap[b]?=w.heap[b]?) :
  ∀ s,p=q++s->(∀ b t,own b=.slc r (q++t)->own' b=.slc r' (q'++t)/\w'.heap[b]?=w.heap[b]?)->Rp own' w' r' (q'++s) m v d:=by
 induction h with
 |sc h=>exact fun _ _ _=>.sc h
 |hole v h1=>exact fun _ _ _=>.hole v h1
 |fz h=>exact fun _ _ _=>.fz (h.mono' hz)
 | sl A a n c sz rs vs hn hc hA ef bz cu cL ih =>
  rename_i p m;intro s hp hs;refine .sl A a n c sz rs vs hn hc hA ef (fun e=>?_) (fun i row hi j d hj=>?_) (fun i row hi j d hj=>?_)
  ·obtain⟨h1,h2,h3⟩:=bz e
   rw[hp]at h2;obtain⟨h4,h5⟩:=hs _ _ h2;refine⟨h1,h4,fun k hk=>?_⟩;obtain⟨u,hu,hf⟩:=h3 k hk;exact⟨u,(fO (w:=w) (w':=w') (by rw[add_block];exact h5)).trans hu,(Aao (w:=w) (w':=w') (by rw[add_block];exact h5)).trans hf⟩
  ·rcases hA with e|⟨e,e'⟩
   ·obtain⟨h1,h2,h3⟩:=bz e
    rw[hp]at h2;obtain⟨h4,h5⟩:=hs _ _ h2;exact (fO (w:=w) (w':=w') (by rw[add_block];exact h5)).trans (cu i row hi j d hj)
   ·exfalso
    have:i<rs.length:=by
     rcases Sbh i rs.length with h|h
     ·exact h
     ·simp[Tb4 h]at hi
    omega
  ·have:=ih i row hi j d hj (s++[i*sz+j]) (by rw[hp,Rb3]) hs
   rwa[<- Rb3]at this
theorem wW.mono {own own':Nat->Ow}{w w':World}{r r':Nat}:∀ (p q q':List Nat) (v u:Value),
  (∀ b t,own b=.slc r (q++t)->own' b=.slc r' (q'++t)/\w'.heap[b]?=w.heap[b]?)->wW own w r q v p u->wW own' w' r' q' v p u
 |[],_,_,_,_,_,h=>h
 | k :: p, q, q', v, u, hs, h => by
  obtain⟨a,n,c,u',rfl,ho,hc,hn⟩:=h;obtain⟨h1,h2⟩:=hs a.block [] (by simpa using ho);refine⟨a,n,c,u',rfl,by simpa using h1,(fO (w:=w) (w':=w') (by rw[add_block];exact h2)).trans hc,?_⟩
  exact wW.mono p (q++[k]) (q'++[k]) u' u (fun b t hb=>by
   have:=hs b (k::t) (by simpa using hb);simpa using this) hn
section
variable {σ eE:Nat->Option aP} {ρ:List D} {G G':Gh} {w w':World}
theorem Baf.mono (h:Fr σ G w eE G' w'){deps:List (Nat×Nat)}(hex:∀ z∈deps,iL σ z.1 z.2){v:Value}{d:D}{p:Pth}(hp:Baf σ ρ G w deps v d p):Baf eE ρ G' w' deps v d p:=by
 cases p with
 |no=>trivial
 | view =>
  intro r k m e hl;obtain⟨ic,ho⟩:=h.live r k m (hex (r,k) (by simp[e])) hl;have:=(hp r k m e ic).mono' (q:=[]) (q':=[]) h.frz [] rfl (fun b t hb=>⟨ho b t hb,(h.slc r k b _ ic.valid hl.valid hb).2⟩);simpa using this
 | suf sz lo =>
  intro r k m e hl;obtain⟨ic,ho⟩:=h.live r k m (hex (r,k) (by simp[e])) hl;rw[h.hdr r (hex (r,k) (by simp[e])).some];exact hp r k m e ic
 | path p =>
  intro r k m e hl;obtain⟨ic,ho⟩:=h.live r k m (hex (r,k) (by simp[e])) hl;obtain⟨h1,h2,h3⟩:=hp r k m e ic;have hs:∀ b t,G.own b=.slc r ([]++t)->G'.own b=.slc r ([]++t)/\w'.heap[b]?=w.heap[b]?:=fun b t hb=>⟨ho b t hb,(h.slc r k b _ ic.valid hl.valid hb).2⟩
  refine⟨h1,?_,?_⟩
  ·have:=h2.mono' (q:=[]) (q':=[]) h.frz _ rfl hs
   rw[List.nil_append]at this;exact this
  ·rw[h.hdr r (hex (r,k) (by simp[e])).some]
   exact h3.mono _ _ _ _ _ hs
theorem allow.mono (h:Fr σ G w eE G' w'){deps:List (Nat×Nat)}(hex:∀ z∈deps,iL σ z.1 z.2)(hv:∀ z∈deps,kQ eE z.1 z.2){b:Nat}(hb:allow G deps b)(aw:b<w.heap.size) :
  allow G' deps b/\w'.heap[b]?=w.heap[b]?:=by
 rcases hb with hb|⟨r,k,p,hm,hb⟩
 ·exact⟨.inl (h.frz b hb aw).1,(h.frz b hb aw).2⟩
 ·have yx:=hv (r,k) hm
  have:=h.slc r k b p (h.valid r k (hex (r,k) hm) yx) yx hb;exact⟨this.1.elim (fun e=>.inr ⟨r,k,p,hm,e⟩) .inl,this.2⟩
mutual
theorem aB.mono (h:Fr σ G w eE G' w'):∀ (l:aO) (v:Value),aB σ ρ G w l v->aB eE ρ G' w' l v
 |.dead,_,hl=>by simpa[aB] using hl
 |.sc x,v,hl=>by simpa[aB] using hl
 |.su g x,v,hl=>by simpa[aB] using hl
 | .ex r, v, hl => by
  simp only[aB]at hl ⊢;exact⟨by rw[h.hdr r hl.2.1];exact hl.1,h.keep _ hl.2.1,hl.2.2⟩
 | .sn deps p nie x, v, hl => by
  simp only[aB]at hl ⊢;refine⟨⟨hl.1.1,fun z hz=>h.known _ _ (hl.1.2 z hz)⟩,fun hv=>?_⟩;obtain⟨h1,h2,h3⟩:=hl.2 (fun z hz=>h.valid _ _ (hl.1.2 z hz) (hv z hz));exact⟨h1.mono' fun b hb aw=>allow.mono h hl.1.2 hv hb aw,h2,h3.mono h hl.1.2⟩
 | .px b off, v, hl => by
  simp only[aB]at hl ⊢;exact⟨by rw[h.bx b hl.2];exact hl.1,h.keep _ hl.2⟩
 | .pe l sz i off, v, hl => by
  simp only[aB]at hl ⊢;obtain⟨a,n,c,k,iv,h1,h2⟩:=hl;exact⟨a,n,c,k,iv,aB.mono h l _ h1,h2⟩
 | .rp deps sz x, v, hl => by
  simp only[aB]at hl ⊢;refine⟨⟨hl.1.1,fun z hz=>h.known _ _ (hl.1.2 z hz)⟩,fun hv=>?_⟩
  rcases hl.2 (fun z hz=>h.valid _ _ (hl.1.2 z hz) (hv z hz)) with h1|⟨a,row,h1,h2,h3⟩
  ·exact .inl h1
  ·exact .inr ⟨a,row,h1,h2,h3.mono' fun b hb aw=>allow.mono h hl.1.2 hv hb aw⟩
 |.pn,v,hl=>by simpa[aB] using hl
 | .clo f fW, v, hl => by
  simp only[aB]at hl ⊢;obtain⟨vs,h1,h2⟩:=hl;exact⟨vs,h1,aG.mono h fW vs h2⟩
theorem aG.mono (h:Fr σ G w eE G' w'):∀ (ls:List aO) (vs:List Value),aG σ ρ G w ls vs->aG eE ρ G' w' ls vs
 |[],vs,hl=>by simpa[aG] using hl
 | l :: ls, vs, hl => by
  simp only[aG]at hl ⊢;obtain⟨u,us,e,h1,h2⟩:=hl;exact⟨u,us,e,aB.mono h l u h1,aG.mono h ls us h2⟩
end
theorem gU.mono (h:Fr σ G w eE G' w'):∀ (ts:List (Bool×List aO)) (us:List Value),gU σ ρ G w ts us->gU eE ρ G' w' ts us
 |[],_,ht=>ht
 | (a, ls) :: r, us, ht => by
  obtain⟨u,ee,vs,e,h1,h2,h3⟩:=ht;exact⟨u,ee,vs,e,aG.mono h ls vs h1,h2,gU.mono h r ee h3⟩
theorem bV.mono (h:Fr σ G w eE G' w'){v:SV}{u:Value}(hv:bV σ ρ G w v u):bV eE ρ G' w' v u:=by
 cases v with
 |dead=>trivial
 |one l=>exact aB.mono h l u hv
 |agg ls=>obtain⟨vs,e,h1⟩:=hv;exact⟨vs,e,aG.mono h ls vs h1⟩
 |tup ts=>obtain⟨us,e,h1⟩:=hv;exact⟨us,e,gU.mono h ts us h1⟩
end
def Qa7 (σ:Nat->Option aP)(k:Nat)(c:aP):Nat->Option aP:=fun j=>if j=k then some c else σ j
def upds (σ:Nat->Option aP):List (Nat×aP)->Nat->Option aP
 |[]=>σ
 |(k,c)::r=>upds (Qa7 σ k c) r
theorem nW:∀ (u:List (Nat×aP)) (σ:Nat->Option aP) (k:Nat) (c:aP),upds σ u k=some c->(k,c)∈u\/((∀ c',(k,c')∉u)/\σ k=some c)
 |[],σ,k,c,h=>.inr ⟨by simp,h⟩
 | (k', c') :: r, σ, k, c, h => by
  rcases nW r (Qa7 σ k' c') k c h with h1|⟨h1,h2⟩
  ·exact .inl (Rb7 _ h1)
  ·unfold Qa7 at h2
   split at h2
   ·rename_i e
    obtain rfl:=Option.some.inj h2;exact .inl (by rw[e];exact Sbe)
   ·rename_i e
    refine .inr ⟨fun c'' hc=>?_,h2⟩
    rcases Rb4.1 hc with h3|h3
    ·exact e (Ubb h3).1
    ·exact h1 _ h3
theorem eB:∀ (u:List (Nat×aP)) (σ:Nat->Option aP) (k:Nat),(∀ c,(k,c)∉u)->upds σ u k=σ k
 |[],_,_,_=>rfl
 | (k', c') :: r, σ, k, h => by
  rw[upds,eB r _ k fun c hc=>h c (Rb7 _ hc)];unfold Qa7;rw[if_neg];intro e;exact h c' (by rw[e];exact Sbe)
theorem dP:∀ (u:List (Nat×aP)) (σ:Nat->Option aP) (k:Nat),(σ k).isSome\/(∃ c,(k,c)∈u)->(upds σ u k).isSome
 | [], σ, k, h => by
  rcases h with h|⟨c,hc⟩
  ·exact h
  ·simp at hc
 | (k', c') :: r, σ, k, h => by
  refine dP r _ k ?_;unfold Qa7
  rcases h with h|⟨c,hc⟩
  ·exact .inl (by split<;>simp_all)
  ·rcases Rb4.1 hc with h1|h1
   ·exact .inl (by rw[if_pos (Ubb h1).1];rfl)
   ·exact .inr ⟨c,h1⟩
section
variable {n:Nat} {F:bE} {σ:Nat->Option aP} {ρ:List D} {a a':Act} {w w':World} {G G':Gh}
theorem R.upd (h:R n F σ ρ a w G)(u:List (Nat×aP))(fj:Fr σ G w (upds σ u) G' w')(ef:a'.tmps.size=n)(hd:a'.defers=[])
  (hF:lC F G' w')
  (htm:∀ t,(∀ c,(kT t,c)∉u)->yP n a' F.gh t=yP n a F.gh t)
  (gw:∀ b ro ls,σ (kB b)=some (.box ro ls)->(∀ c,(kB b,c)∉u)->G'.own (G.bx b).block=G.own (G.bx b).block/\w'.heap[(G.bx b).block]?=w.heap[(G.bx b).block]?)
  (uo:∀ b ls,(kB b,.box false ls)∈u->(G'.bx b).block<F.w0.heap.size->F.own0 (G'.bx b).block=.box b->F.rng b=((G'.bx b).off,(G'.bx b).off+ls.length))
  (ij:∀ k c,(k,c)∈u->upds σ u k=some c->Yap n F.gh (upds σ u) ρ G' a' w' k c):R n F (upds σ u) ρ a' w' G':=by
 refine⟨ef,hd,fun k c hk=>?_,hF,fun b ls hk hb ho=>?_⟩
 ·rcases nW u σ k c hk with h1|⟨h1,h2⟩
  ·exact ij k c h1 hk
  ·cases c with
   | slot g v =>
    obtain⟨t,rfl,hv⟩:=h.cont k _ h2;refine⟨t,rfl,fun hg=>?_⟩;rw[htm t h1];exact (hv hg).mono fj
   | box ro ls =>
    obtain⟨b,rfl,h3,h4,h5⟩:=h.cont k _ h2;obtain⟨h6,h7⟩:=gw b ro ls h2 h1;have e:G'.bx b=G.bx b:=fj.bx b (by rw[h2];rfl);refine⟨b,rfl,by rw[e];exact h3,by rw[e,h6];exact h4,fun j l hj=>?_⟩;obtain⟨v,h8,h9,du⟩:=h5 j l hj;rw[e];exact⟨v,(fO (w:=w) (w':=w') (by rw[add_block];exact h7)).trans h8,(Fax (w:=w) (w':=w') (by rw[add_block];exact h7)).trans h9,aB.mono fj l v du⟩
   | root x m b9 st =>
    obtain⟨r,rfl,h0,h3⟩:=h.cont k _ h2;refine⟨r,rfl,fj.keep _ h0,?_⟩;have e:G'.hdr r=G.hdr r:=fj.hdr r h0
    cases st with
    | live =>
     have ic:wT (upds σ u) r b9 m:=⟨x,hk⟩;obtain⟨hl,ho⟩:=fj.live r b9 m ⟨x,m,b9,.live,h2,fun _=>Nat.le_refl _⟩ ic;have:=Rp.mono' (q:=[]) (q':=[]) h3 fj.frz [] rfl (fun b t hb=>⟨ho b t hb,(fj.slc r b9 b _ hl.valid ic.valid hb).2⟩);simp only[bP];rw[e];simpa using this
    | frozen =>
     simp only[bP];rw[e];exact⟨h3.1.mono' fj.frz,fun b p hb=>h3.2 b p (fj.froz r x m b9 h2 b p hb)⟩
    |gone=>trivial
    | fwd r' =>
     obtain⟨h4,h5⟩:=h3;exact⟨by rw[e,fj.hdr r' h5];exact h4,fj.keep _ h5⟩
 ·rcases nW u σ _ _ hk with h1|⟨h1,h2⟩
  ·exact uo b ls h1 hb ho
  ·have e:G'.bx b=G.bx b:=fj.bx b (by rw[h2];rfl)
   rw[e]at hb ho ⊢;exact h.rng b ls h2 hb ho
theorem zT (a:Act)(d:Option Tmp)(v:Value):(a.put d v).tmps.size=a.tmps.size:=by
 cases d<;>simp[Act.put]
theorem put_defers (a:Act)(d:Option Tmp)(v:Value):(a.put d v).defers=a.defers:=by
 cases d<;>simp[Act.put]
theorem Eas (n:Nat)(a:Act)(G:Nat->Value)(d t:Nat)(v:Value)(h:d≠t):yP n (a.put (some d) v) G t=yP n a G t:=by
 unfold yP;split
 ·simp[Act.put,Sb6,Array.getElem?_setIfInBounds,h]
 ·rfl
theorem mX (n:Nat)(a:Act)(G:Nat->Value)(d:Nat)(v:Value)(h:d<n)(hs:a.tmps.size=n):yP n (a.put (some d) v) G d=v:=by
 unfold yP;rw[if_pos h];simp[Act.put,Sb6,hs,h]
theorem Fr.same (σ:Nat->Option aP)(G:Gh)(w:World)(u:List (Nat×aP))(hu:∀ k c,(k,c)∈u->∃ t,k=kT t):Fr σ G w (upds σ u) G w:=by
 have hr:∀ r,upds σ u (kR r)=σ (kR r):=fun r=>eB _ _ _ fun c hc=>by obtain⟨t,e⟩:=hu _ _ hc;exact gW e.symm
 refine⟨fun b h _=>⟨h,rfl⟩,fun r k _ h=>?_,fun r k h=>?_,fun r k b p _ _ h=>⟨.inl h,rfl⟩,fun r k m _ h=>⟨?_,fun b p h=>h⟩,fun _ _=>rfl,fun _ _=>rfl,fun k h=>dP _ _ _ (.inl h),fun _ _ _ _ _ _ _ h=>h⟩
 ·obtain⟨x,m,st,e,h⟩:=h
  exact⟨x,m,st,by rw[<- hr];exact e,h⟩
 ·obtain⟨x,m,b9,st,e,h⟩:=h
  exact⟨x,m,b9,st,by rw[hr];exact e,h⟩
 ·obtain⟨x,e⟩:=h
  exact⟨x,by rw[<- hr];exact e⟩
def dM (o:Oper)(g:Option (aJ×Bool))(v:SV):List (Nat×aP):=match o.dst with|some d=>[(kT d,.slot g v)]|none=>[]
theorem R.pure (h:R n F σ ρ a w G)(o:Oper)(hd:∀ d,o.dst=some d->d<n)(g:Option (aJ×Bool))(sv:SV)(v:Value)
  (hv:gOn ρ g=true->bV σ ρ G w sv v):R n F (upds σ (dM o g sv)) ρ (a.put o.dst v) w G:=by
 have fj:Fr σ G w (upds σ (dM o g sv)) G w:=Fr.same _ _ _ _ fun k c hk=>by
  unfold dM at hk;split at hk
  ·rename_i d e
   simp only[Rby,Sbj]at hk;exact⟨d,hk.1⟩
  ·simp at hk
 refine h.upd _ fj (by rw[zT];exact h.tmps) (by rw[put_defers];exact h.defers) h.frame (fun t ht=>?_) (fun _ _ _ _ _=>⟨rfl,rfl⟩) (fun b ls hb=>?_) (fun k c hk kk=>?_)
 ·unfold dM at ht
  cases e:o.dst with
  |none=>rfl
  | some d =>
   rw[e]at ht;exact Eas _ _ _ _ _ _ fun e'=>ht _ (by rw[e'];exact Rby.2 rfl)
 ·unfold dM at hb
  split at hb
  ·simp only[Rby,Sbj]at hb
   exact absurd hb.1.symm kK
  ·simp at hb
 ·have ym:=hk
  unfold dM at hk
  cases e:o.dst with
  |none=>rw[e]at hk;simp at hk
  | some d =>
   rw[e]at hk;simp only[Rby,Sbj]at hk;obtain⟨rfl,rfl⟩:=hk;refine⟨d,rfl,fun hg=>?_⟩;rw[mX _ _ _ _ _ (hd d e) h.tmps];exact (hv hg).mono fj
end
end Go.Proofs.YtgpamlpecmldfaaGreat.Rf
