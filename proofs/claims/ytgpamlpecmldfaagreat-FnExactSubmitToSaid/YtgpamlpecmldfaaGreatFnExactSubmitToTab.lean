import Derived.Test.YtgpamlpecmldfaaGreatChecked
import Derived.Test.YtgpamlpecmldfaaGreatRf9
import Derived.KernelRfl
set_option linter.all false
open List renaming getElem?_eq_getElem → Rbz, length_take → Sbn, getElem?_drop → Sby, length_drop → Sb8, mem_of_mem_drop → Tbn
open Nat renaming add_assoc → Sbf, lt_or_ge → Sbh, le_trans → Sb1, min_def → Vbi
namespace Go.Proofs.YtgpamlpecmldfaaGreat
namespace FnExactSubmitTo
open Go Go.Proofs.YtgpamlpecmldfaaGreat.Rf
set_option maxRecDepth 100000
def t3:TI:=⟨false,1,8,[.sc (.int .i64 0)],[],none,(some .i64),false,false,false,false⟩
theorem ti3:yQ Tryz.prog 3=some t3:=by kernel_rfl
def t4:TI:=⟨false,1,1,[.sc (.bool false)],[],none,none,true,false,false,false⟩
theorem ti4:yQ Tryz.prog 4=some t4:=by kernel_rfl
def t22:TI:=⟨false,1,24,[.sl 1],[],(some 157),none,false,false,false,false⟩
theorem Pb3:yQ Tryz.prog 22=some t22:=by kernel_rfl
def t24:TI:=⟨true,2,32,[.sc (.int .i64 0),.sl 1],[(0,3),(1,22)],none,none,false,false,false,false⟩
theorem Pb2:yQ Tryz.prog 24=some t24:=by kernel_rfl
def t25:TI:=⟨false,1,24,[.sl 16],[],(some 159),none,false,false,false,false⟩
theorem Pb1:yQ Tryz.prog 25=some t25:=by kernel_rfl
def t27:TI:=⟨true,4,64,[.sc (.int .i64 0),.sc (.int .i64 0),.sl 1,.sl 16],[(0,3),(1,24),(3,25)],none,none,false,false,false,false⟩
theorem Pb0:yQ Tryz.prog 27=some t27:=by kernel_rfl
def t29:TI:=⟨false,1,24,[.sl 1],[],(some 68),none,false,false,false,false⟩
theorem Pbz:yQ Tryz.prog 29=some t29:=by kernel_rfl
def t31:TI:=⟨true,2,32,[.sc (.int .i64 0),.sl 1],[(0,3),(1,29)],none,none,false,false,false,false⟩
theorem Pby:yQ Tryz.prog 31=some t31:=by kernel_rfl
def t32:TI:=⟨false,1,24,[.sl 16],[],(some 95),none,false,false,false,false⟩
theorem Pbx:yQ Tryz.prog 32=some t32:=by kernel_rfl
def t34:TI:=⟨true,4,64,[.sc (.int .i64 0),.sc (.int .i64 0),.sl 1,.sl 16],[(0,3),(1,31),(3,32)],none,none,false,false,false,false⟩
theorem Pbw:yQ Tryz.prog 34=some t34:=by kernel_rfl
def t35:TI:=⟨false,1,24,[.sl 15],[],(some 59),none,false,false,false,false⟩
theorem Pbv:yQ Tryz.prog 35=some t35:=by kernel_rfl
def t45:TI:=⟨true,5,40,[.sc (.int .i64 0),.sc (.int .i64 0),.sc (.int .i64 0),.sc (.int .i64 0),.sc (.int .i64 0)],[(0,3),(1,3),(2,3),(3,3),(4,3)],none,none,false,false,false,true⟩
theorem Pbu:yQ Tryz.prog 45=some t45:=by kernel_rfl
def t47:TI:=⟨true,5,40,[.sc (.int .i64 0),.sc (.int .i64 0),.sc (.int .i64 0),.sc (.int .i64 0),.sc (.int .i64 0)],[(0,3),(1,3),(2,3),(3,3),(4,3)],none,none,false,false,false,true⟩
theorem Pbt:yQ Tryz.prog 47=some t47:=by kernel_rfl
def t50:TI:=⟨false,1,24,[.sl 1],[],(some 3),none,false,false,false,false⟩
theorem Pbs:yQ Tryz.prog 50=some t50:=by kernel_rfl
def t52:TI:=⟨true,2,32,[.sc (.int .i64 0),.sl 1],[(0,3),(1,50)],none,none,false,false,false,false⟩
theorem Pbr:yQ Tryz.prog 52=some t52:=by kernel_rfl
def t57:TI:=⟨true,2,32,[.sc (.int .i64 0),.sl 1],[(0,3),(1,50)],none,none,false,false,false,false⟩
theorem Pbq:yQ Tryz.prog 57=some t57:=by kernel_rfl
def t59:TI:=⟨true,15,136,[.sc (.int .i64 0),.sc (.int .i64 0),.sc (.int .i64 0),.sc (.int .i64 0),.sc (.int .i64 0),.sc (.int .i64 0),.sc (.int .i64 0),.sc (.int .i64 0),.sc (.int .i64 0),.sc (.int .i64 0),.sc (.int .i64 0),.sc (.int .i64 0),.sc (.int .i64 0),.sc (.int .i64 0),.sl 1],[(0,3),(1,3),(2,3),(3,3),(4,3),(5,3),(6,3),(7,3),(8,47),(13,57)],none,none,false,false,false,false⟩
theorem Pbp:yQ Tryz.prog 59=some t59:=by kernel_rfl
def t68:TI:=⟨false,1,24,[.sl 10],[],(some 70),none,false,false,false,false⟩
theorem Pbo:yQ Tryz.prog 68=some t68:=by kernel_rfl
def t70:TI:=⟨true,10,96,[.sc (.int .i64 0),.sc (.int .i64 0),.sc (.int .i64 0),.sc (.int .i64 0),.sc (.int .i64 0),.sc (.int .i64 0),.sc (.int .i64 0),.sc (.int .i64 0),.sc (.int .i64 0),.sl 1],[(0,3),(1,3),(2,3),(3,47),(8,57)],none,none,false,false,false,false⟩
theorem Pbn:yQ Tryz.prog 70=some t70:=by kernel_rfl
def t91:TI:=⟨true,6,96,[.sc (.int .i64 0),.sc (.int .i64 0),.sl 1,.sl 16,.sl 15,.sc (.bool false)],[(0,34),(4,35),(5,4)],none,none,false,false,false,false⟩
theorem Pbm:yQ Tryz.prog 91=some t91:=by kernel_rfl
def t95:TI:=⟨true,16,192,[.sc (.int .i64 0),.sc (.int .i64 0),.sc (.int .i64 0),.sc (.int .i64 0),.sc (.int .i64 0),.sc (.int .i64 0),.sc (.int .i64 0),.sc (.int .i64 0),.sc (.int .i64 0),.sc (.int .i64 0),.sl 1,.sc (.int .i64 0),.sl 1,.sc (.bool false),.sl 1,.sl 10],[(0,3),(1,3),(2,3),(3,3),(4,47),(9,57),(11,57),(13,4),(14,50),(15,68)],none,none,false,false,false,false⟩
theorem Pbl:yQ Tryz.prog 95=some t95:=by kernel_rfl
def Mbn:TI:=⟨true,6,96,[.sc (.int .i64 0),.sc (.int .i64 0),.sl 1,.sl 16,.sl 15,.sc (.bool false)],[(0,34),(4,35),(5,4)],none,none,false,false,false,false⟩
theorem Lbq:yQ Tryz.prog 106=some Mbn:=by kernel_rfl
def t157:TI:=⟨false,1,24,[.sl 10],[],(some 220),none,false,false,false,false⟩
theorem Lbp:yQ Tryz.prog 157=some t157:=by kernel_rfl
def t159:TI:=⟨true,16,192,[.sc (.int .i64 0),.sc (.int .i64 0),.sc (.int .i64 0),.sc (.int .i64 0),.sc (.int .i64 0),.sc (.int .i64 0),.sc (.int .i64 0),.sc (.int .i64 0),.sc (.int .i64 0),.sc (.int .i64 0),.sl 1,.sc (.int .i64 0),.sl 1,.sc (.bool false),.sl 1,.sl 10],[(0,3),(1,3),(2,3),(3,3),(4,45),(9,52),(11,52),(13,4),(14,50),(15,157)],none,none,false,false,false,false⟩
theorem Lbo:yQ Tryz.prog 159=some t159:=by kernel_rfl
def Mbm:TI:=⟨false,1,8,[.sc (.int .u64 0)],[],none,(some .u64),false,false,false,false⟩
theorem Lbn:yQ Tryz.prog 200=some Mbm:=by kernel_rfl
def Mbl:TI:=⟨true,10,96,[.sc (.int .i64 0),.sc (.int .i64 0),.sc (.int .i64 0),.sc (.int .i64 0),.sc (.int .i64 0),.sc (.int .i64 0),.sc (.int .i64 0),.sc (.int .i64 0),.sc (.int .i64 0),.sl 1],[(0,3),(1,3),(2,3),(3,45),(8,52)],none,none,false,false,false,false⟩
theorem Lbm:yQ Tryz.prog 220=some Mbl:=by kernel_rfl
def tiL:List (Nat×TI):=[(3,t3),(4,t4),(22,t22),(24,t24),(25,t25),(27,t27),(29,t29),(31,t31),(32,t32),(34,t34),(35,t35),(45,t45),(47,t47),(50,t50),(52,t52),(57,t57),(59,t59),(68,t68),(70,t70),(91,t91),(95,t95),(106,Mbn),(157,t157),(159,t159),(200,Mbm),(220,Mbl)]
theorem Cbi:tQ Tryz.prog (tK tiL):=Qar (l:=tiL) (fc ti3 <| fc ti4 <| fc Pb3 <| fc Pb2 <| fc Pb1 <| fc Pb0 <| fc Pbz <| fc Pby <| fc Pbx <| fc Pbw <| fc Pbv <| fc Pbu <| fc Pbt <| fc Pbs <| fc Pbr <| fc Pbq <| fc Pbp <| fc Pbo <| fc Pbn <| fc Pbm <| fc Pbl <| fc Lbq <| fc Lbp <| fc Lbo <| fc Lbn <| fc Lbm <| fc0)
def sg0:Sig:=⟨5,[(true,[.sc,.sc,.fz false,.fz false]),(true,[.sc,.sc,.sc,.sc,.sc])],[],[(false,[.sc])]⟩
def sg1:Sig:=⟨9,[(true,[.sc,.sc,.fz false,.fz false]),(false,[.sc])],[],[(false,[.sc])]⟩
def sg2:Sig:=⟨49,[(true,[.sc,.fz false]),(false,[.sc])],[],[(false,[.sc])]⟩
def sg3:Sig:=⟨130,[(false,[.fz false]),(false,[.sc])],[],[(false,[.sc])]⟩
def sg4:Sig:=⟨201,[(false,[.fz false]),(false,[.sc])],[],[(false,[.sc])]⟩
def sg5:Sig:=⟨230,[(true,[.sc,.sc,.sc,.sc,.sc,.sc,.sc,.sc,.sc,.fz false]),(false,[.sc])],[],[(false,[.sc])]⟩
def sg6:Sig:=⟨91,[(true,[.sc,.fz false]),(false,[.sc])],[],[(false,[.sc])]⟩
def sg7:Sig:=⟨163,[(false,[.fz false]),(false,[.sc])],[],[(false,[.sc])]⟩
def sg8:Sig:=⟨50,[(false,[.fz false]),(false,[.sc])],[],[(false,[.sc])]⟩
def sg9:Sig:=⟨131,[(true,[.sc,.sc,.sc,.sc,.sc,.sc,.sc,.sc,.sc,.sc,.fz false,.sc,.fz false,.sc,.fz false,.fz false]),(false,[.sc])],[],[(false,[.sc])]⟩
def Ob7:Sig:=⟨11,[(true,[.sc,.sc,.fz false,.fz false])],[],[(true,[.sc,.sc,.ow 99,.ow 99])]⟩
def Ob6:Sig:=⟨56,[(true,[.sc,.fz false])],[],[(true,[.sc,.ow 99])]⟩
def Ob5:Sig:=⟨135,[(false,[.fz false])],[],[(false,[.ow 99])]⟩
def Ob4:Sig:=⟨203,[(false,[.fz false])],[],[(false,[.ow 99])]⟩
def Ob3:Sig:=⟨231,[(true,[.sc,.sc,.sc,.sc,.sc,.sc,.sc,.sc,.sc,.fz false])],[],[(true,[.sc,.sc,.sc,.sc,.sc,.sc,.sc,.sc,.sc,.ow 99])]⟩
def Ob2:Sig:=⟨22,[(true,[.sc,.sc,.sc,.sc,.sc])],[],[(true,[.sc,.sc,.sc,.sc,.sc])]⟩
def Ob1:Sig:=⟨95,[(true,[.sc,.fz false])],[],[(true,[.sc,.ow 99])]⟩
def Ob0:Sig:=⟨173,[(false,[.fz false])],[],[(false,[.ow 99])]⟩
def Obz:Sig:=⟨57,[(false,[.fz false])],[],[(false,[.ow 99])]⟩
def Oby:Sig:=⟨136,[(true,[.sc,.sc,.sc,.sc,.sc,.sc,.sc,.sc,.sc,.sc,.fz false,.sc,.fz false,.sc,.fz false,.fz false])],[],[(true,[.sc,.sc,.sc,.sc,.sc,.sc,.sc,.sc,.sc,.sc,.ow 99,.sc,.ow 99,.sc,.ow 99,.ow 99])]⟩
def Obx:Sig:=⟨21,[(true,[.sc,.sc,.fz false,.fz false]),(true,[.sc,.sc,.sc,.sc,.sc])],[],[(true,[.sc,.sc,.fz,.fz]),(false,[.fz]),(false,[.sc])]⟩
def Obw:Sig:=⟨40,[(true,[.sc,.sc,.fz false,.fz false])],[],[(false,[.sc])]⟩
def Obv:Sig:=⟨114,[(true,[.sc,.fz false])],[],[(false,[.sc])]⟩
def Obu:Sig:=⟨127,[(false,[.sc])],[],[(false,[.sc])]⟩
def Obt:Sig:=⟨151,[(false,[.sc]),(true,[.sc,.sc,.sc,.sc,.sc,.sc,.sc,.sc,.sc,.fz false])],[],[(false,[.sc])]⟩
def Obs:Sig:=⟨115,[(false,[.sc]),(false,[.sc]),(false,[.sc])],[],[(false,[.sc])]⟩
def Obr:Sig:=⟨75,[(false,[.sc])],[],[(true,[.sc,.ow 99])]⟩
def Obq:Sig:=⟨165,[(true,[.sc,.fz false]),(true,[.sc,.fz false])],[],[(false,[.sc])]⟩
def Obp:Sig:=⟨214,[(false,[.fz false]),(false,[.fz false])],[],[(false,[.sc])]⟩
def Obo:Sig:=⟨85,[(true,[.sc,.sc,.sc,.sc,.sc])],[],[(false,[.sc])]⟩
def Obn:Sig:=⟨156,[(true,[.sc,.sc,.sc,.sc,.sc])],[],[(false,[.sc])]⟩
def Obm:Sig:=⟨209,[(false,[.sc])],[],[(false,[.sc])]⟩
def Obl:Sig:=⟨164,[(false,[.sc]),(true,[.sc,.fz false])],[],[(false,[.sc])]⟩
def Obk:Sig:=⟨213,[(false,[.fz false]),(false,[.sc]),(false,[.sc])],[],[(false,[.sc])]⟩
def Obi:Sig:=⟨116,[(false,[.sc]),(false,[.sc]),(true,[.sc,.sc,.sc,.sc,.sc,.sc,.sc,.sc,.sc,.sc,.fz false,.sc,.fz false,.sc,.fz false,.fz false])],[],[(false,[.sc])]⟩
def Obh:Sig:=⟨73,[(false,[.sc]),(false,[.sc]),(false,[.sc])],[],[(false,[.sc])]⟩
def Obg:Sig:=⟨194,[(false,[.fz false]),(false,[.sc]),(false,[.sc])],[],[(false,[.sc])]⟩
def Obf:Sig:=⟨195,[(false,[.fz false]),(false,[.sc])],[],[(false,[.sc])]⟩
def Obe:Sig:=⟨51,[(true,[.sc,.sc,.fz false,.fz false])],[],[(true,[.sc,.sc,.ow 99,.ow 99])]⟩
def Obd:Sig:=⟨123,[(true,[.sc,.fz false])],[],[(true,[.sc,.ow 99])]⟩
def Obc:Sig:=⟨128,[(false,[.sc])],[],[(true,[.sc,.ow 99])]⟩
def Obb:Sig:=⟨133,[(true,[.sc,.sc,.sc,.sc,.sc,.sc,.sc,.sc,.sc,.fz false])],[],[(true,[.sc,.sc,.sc,.sc,.sc,.sc,.sc,.sc,.sc,.ow 99])]⟩
def Oba:Sig:=⟨172,[(true,[.sc,.fz false])],[],[(true,[.sc,.ow 99])]⟩
def Nb9:Sig:=⟨202,[(false,[.fz false])],[],[(false,[.ow 99])]⟩
def Nb8:Sig:=⟨132,[(true,[.sc,.sc,.sc,.sc,.sc,.sc,.sc,.sc,.sc,.sc,.fz false,.sc,.fz false,.sc,.fz false,.fz false])],[],[(true,[.sc,.sc,.sc,.sc,.sc,.sc,.sc,.sc,.sc,.sc,.ow 99,.sc,.ow 99,.sc,.ow 99,.ow 99])]⟩
def Nb7:Sig:=⟨87,[(true,[.sc,.fz false]),(true,[.sc,.sc,.sc,.sc,.sc]),(false,[.sc]),(false,[.sc])],[],[(true,[.sc,.ow 99])]⟩
def Nb6:Sig:=⟨157,[(true,[.sc,.sc,.sc,.sc,.sc]),(true,[.sc,.sc,.sc,.sc,.sc])],[],[(false,[.sc])]⟩
def Nb5:Sig:=⟨210,[(true,[.sc,.sc,.sc,.sc,.sc])],[],[(false,[.fz])]⟩
def Nb4:Sig:=⟨216,[(false,[.fz false]),(false,[.sc])],[],[(false,[.fz])]⟩
def Nb3:Sig:=⟨158,[(false,[.sc]),(false,[.sc])],[],[(false,[.sc])]⟩
def Nb2:Sig:=⟨86,[(false,[.px 0]),(false,[.sc]),(false,[.sc]),(false,[.sc]),(true,[.sc,.sc,.sc,.sc,.sc]),(true,[.sc,.fz false])],[(false,[(.sc,.sc),(.sc,.sc),(.fz false,.fz),(.fz false,.fz),(.ow 99,.ow 99),(.sc,.sc)])],[]⟩
def Nb1:Sig:=⟨77,[(false,[.px 0]),(false,[.sc]),(false,[.sc]),(true,[.sc,.sc,.sc,.sc,.sc,.sc,.sc,.sc,.sc,.fz false])],[(false,[(.sc,.sc),(.sc,.sc),(.fz false,.fz),(.fz false,.fz),(.ow 99,.ow 99),(.sc,.sc)])],[]⟩
def Nb0:Sig:=⟨152,[(true,[.sc,.fz false]),(false,[.sc]),(false,[.sc]),(true,[.sc,.sc,.sc,.sc,.sc,.sc,.sc,.sc,.sc,.fz false])],[],[(true,[.sc,.ow 99])]⟩
def Nbz:Sig:=⟨76,[(false,[.px 0]),(true,[.sc,.sc,.sc,.sc,.sc,.sc,.sc,.sc,.sc,.sc,.fz false,.sc,.fz false,.sc,.fz false,.fz false])],[(false,[(.sc,.sc),(.sc,.sc),(.fz false,.fz),(.fz false,.fz),(.ow 99,.ow 99),(.sc,.sc)])],[]⟩
def Nby:Sig:=⟨134,[(false,[.px 0]),(false,[.sc]),(false,[.sc])],[(false,[(.sc,.sc),(.sc,.sc),(.fz false,.fz),(.fz false,.fz),(.ow 99,.ow 99),(.sc,.sc)])],[]⟩
def Nbx:Sig:=⟨78,[(false,[.px 0]),(true,[.sc,.sc,.sc,.sc,.sc,.sc,.sc,.sc,.sc,.sc,.sc,.sc,.sc,.sc,.fz false])],[(false,[(.sc,.sc),(.sc,.sc),(.fz false,.fz),(.fz false,.fz),(.ow 99,.ow 99),(.sc,.sc)])],[]⟩
def Nbw:Sig:=⟨94,[(false,[.px 0]),(false,[.sc]),(true,[.sc,.sc,.sc,.sc,.sc,.sc,.sc,.sc,.sc,.sc,.sc,.sc,.sc,.sc,.fz false])],[(false,[(.sc,.sc),(.sc,.sc),(.fz false,.fz),(.fz false,.fz),(.ow 99,.ow 99),(.sc,.sc)])],[]⟩
def Nbv:Sig:=⟨55,[(false,[.px 0])],[(true,[(.sc,.sc),(.sc,.sc),(.fz false,.fz),(.fz false,.fz),(.fz false,.fz),(.sc,.sc)])],[(true,[.sc,.sc,.fz,.fz]),(false,[.fz]),(false,[.sc])]⟩
def Nbu:Sig:=⟨23,[(true,[.sc,.sc,.fz false,.fz false]),(true,[.sc,.sc,.sc,.sc,.sc])],[],[(true,[.sc,.sc,.ow 99,.ow 99]),(false,[.ow 99]),(false,[.sc])]⟩
def Nbt:Sig:=⟨39,[(true,[.sc,.sc,.fz false,.fz false])],[],[(false,[.sc])]⟩
def Nbs:Sig:=⟨104,[(true,[.sc,.fz false])],[],[(false,[.sc])]⟩
def Nbr:Sig:=⟨125,[(false,[.sc])],[],[(false,[.sc])]⟩
def Nbq:Sig:=⟨182,[(false,[.fz false]),(false,[.clo 183 [.px 0]])],[(true,[(.sc,.sc),(.fz false,.fz)])],[(false,[.sc])]⟩
def Nbp:Sig:=⟨223,[(false,[.fz false]),(false,[.clo 183 [.px 0]])],[(true,[(.sc,.sc),(.fz false,.fz)])],[(false,[.sc])]⟩
def Nbo:Sig:=⟨183,[(false,[.fz false]),(false,[.px 0])],[(true,[(.sc,.sc),(.fz false,.fz)])],[(false,[.sc])]⟩
def Nbn:Sig:=⟨184,[(false,[.fz false]),(false,[.clo 185 [.px 0]])],[(true,[(.sc,.sc),(.fz false,.fz)])],[(false,[.sc])]⟩
def Nbm:Sig:=⟨224,[(false,[.fz false]),(false,[.clo 185 [.px 0]])],[(true,[(.sc,.sc),(.fz false,.fz)])],[(false,[.sc])]⟩
def Nbl:Sig:=⟨185,[(true,[.sc,.sc,.sc,.sc,.sc,.sc,.sc,.sc,.sc,.fz false]),(false,[.px 0])],[(true,[(.sc,.sc),(.fz false,.fz)])],[(false,[.sc])]⟩
def Nbk:Sig:=⟨117,[(false,[.sc]),(true,[.sc,.sc,.sc,.sc,.sc,.sc,.sc,.sc,.sc,.fz false])],[],[(false,[.sc])]⟩
def Nbj:Sig:=⟨111,[(false,[.sc]),(false,[.sc]),(false,[.sc])],[],[(false,[.sc])]⟩
def Nbi:Sig:=⟨88,[(true,[.sc,.sc,.sc,.sc,.sc])],[],[(false,[.sc])]⟩
def Nbh:Sig:=⟨159,[(false,[.sc])],[],[(false,[.sc])]⟩
def Nbg:Sig:=⟨119,[(false,[.sc]),(true,[.sc,.fz false])],[],[(false,[.sc])]⟩
def Nbf:Sig:=⟨196,[(false,[.fz false]),(false,[.clo 197 []])],[],[(false,[.sc])]⟩
def Nbe:Sig:=⟨229,[(false,[.fz false]),(false,[.clo 197 []])],[],[(false,[.sc])]⟩
def Nbd:Sig:=⟨197,[(false,[.sc])],[],[(false,[.sc])]⟩
def Nbc:Sig:=⟨81,[(false,[.sc])],[],[(true,[.sc,.ow 99])]⟩
def Nbb:Sig:=⟨120,[(true,[.sc,.fz false]),(true,[.sc,.fz false])],[],[(false,[.sc])]⟩
def Nba:Sig:=⟨198,[(false,[.fz false]),(false,[.fz false])],[],[(false,[.sc])]⟩
def Mb9:Sig:=⟨112,[(false,[.sc]),(false,[.sc]),(true,[.sc,.sc,.sc,.sc,.sc,.sc,.sc,.sc,.sc,.sc,.fz false,.sc,.fz false,.sc,.fz false,.fz false])],[],[(false,[.sc])]⟩
def Mb8:Sig:=⟨105,[(false,[.sc]),(false,[.sc]),(false,[.sc])],[],[(false,[.sc])]⟩
def Mb7:Sig:=⟨190,[(false,[.sc]),(false,[.fz false])],[],[(false,[.sc])]⟩
def Mb6:Sig:=⟨225,[(false,[.fz false])],[],[(false,[.sc])]⟩
def Mb5:Sig:=⟨196,[(false,[.fz false]),(false,[.clo 226 [.px 0]])],[(true,[(.sc,.sc)])],[(false,[.sc])]⟩
def Mb4:Sig:=⟨229,[(false,[.fz false]),(false,[.clo 226 [.px 0]])],[(true,[(.sc,.sc)])],[(false,[.sc])]⟩
def Mb3:Sig:=⟨226,[(false,[.sc]),(false,[.px 0])],[(true,[(.sc,.sc)])],[(false,[.sc])]⟩
def Mb2:Sig:=⟨191,[(false,[.fz false]),(false,[.sc])],[],[(false,[.sc])]⟩
def Mb1:Sig:=⟨227,[(false,[.fz false]),(false,[.sc])],[],[(false,[.sc])]⟩
def Mb0:Sig:=⟨184,[(false,[.fz false]),(false,[.clo 192 [.px 0]])],[(true,[(.sc,.sc)])],[(false,[.sc])]⟩
def Mbz:Sig:=⟨224,[(false,[.fz false]),(false,[.clo 192 [.px 0]])],[(true,[(.sc,.sc)])],[(false,[.sc])]⟩
def Mby:Sig:=⟨192,[(true,[.sc,.sc,.sc,.sc,.sc,.sc,.sc,.sc,.sc,.fz false]),(false,[.px 0])],[(true,[(.sc,.sc)])],[(false,[.sc])]⟩
def Mbx:Sig:=⟨113,[(false,[.fz false]),(false,[.fz false])],[],[(false,[.sc])]⟩
def Mbw:Sig:=⟨193,[(false,[.sc]),(false,[.sc])],[],[(false,[.sc])]⟩
def Mbv:Sig:=⟨228,[(false,[.sc])],[],[(false,[.sc])]⟩
def Mbu:Sig:=⟨59,[(true,[.sc,.sc,.fz false,.fz false])],[],[(false,[.bx [.sc,.sc,.ow 99,.ow 99,.ow 99,.sc]])]⟩
def Mbt:Sig:=⟨122,[(true,[.sc,.sc,.fz false,.fz false])],[],[(true,[.sc,.sc,.ow 99,.ow 99])]⟩
def Mbs:Sig:=⟨199,[(true,[.sc,.fz false])],[],[(true,[.sc,.ow 99])]⟩
def Mbr:Sig:=⟨142,[(false,[.fz false])],[],[(false,[.ow 99])]⟩
def Mbq:Sig:=⟨153,[(true,[.sc,.sc,.sc,.sc,.sc,.sc,.sc,.sc,.sc,.fz false])],[],[(true,[.sc,.sc,.sc,.sc,.sc,.sc,.sc,.sc,.sc,.ow 99])]⟩
def Mbp:Sig:=⟨140,[(true,[.sc,.fz false])],[],[(true,[.sc,.ow 99])]⟩
def Vaa:Sig:=⟨141,[(false,[.fz false])],[],[(false,[.ow 99])]⟩
def Hbd:Sig:=⟨63,[(true,[.sc,.sc,.sc,.sc,.sc,.sc,.sc,.sc,.sc,.sc,.fz false,.sc,.fz false,.sc,.fz false,.fz false])],[],[(true,[.sc,.sc,.sc,.sc,.sc,.sc,.sc,.sc,.sc,.sc,.ow 99,.sc,.ow 99,.sc,.ow 99,.ow 99])]⟩
def Hbc:Sig:=⟨89,[(true,[.sc,.fz false]),(true,[.sc,.sc,.sc,.sc,.sc]),(false,[.sc]),(false,[.sc])],[],[(true,[.sc,.ow 99]),(false,[.sc])]⟩
def Hbb:Sig:=⟨160,[(true,[.sc,.fz false]),(false,[.clo 161 [.px 0,.px 1,.px 2,.px 3]])],[(true,[(.sc,.sc)]),(true,[(.sc,.sc)]),(true,[(.sc,.sc),(.sc,.sc),(.sc,.sc),(.sc,.sc),(.sc,.sc)]),(false,[(.sc,.sc),(.ow 99,.ow 99)])],[]⟩
def Hba:Sig:=⟨161,[(false,[.sc]),(false,[.sc]),(true,[.sc,.sc,.sc,.sc,.sc,.sc,.sc,.sc,.sc,.fz false]),(false,[.px 0]),(false,[.px 1]),(false,[.px 2]),(false,[.px 3])],[(true,[(.sc,.sc)]),(true,[(.sc,.sc)]),(true,[(.sc,.sc),(.sc,.sc),(.sc,.sc),(.sc,.sc),(.sc,.sc)]),(false,[(.sc,.sc),(.ow 99,.ow 99)])],[]⟩
def Gb9:Sig:=⟨162,[(true,[.sc,.sc,.sc,.sc,.sc]),(true,[.sc,.sc,.sc,.sc,.sc])],[],[(false,[.sc])]⟩
def Gb8:Sig:=⟨211,[(true,[.sc,.sc,.sc,.sc,.sc])],[],[(false,[.ow 99])]⟩
def Gb7:Sig:=⟨196,[(false,[.fz false]),(false,[.clo 212 [.px 0]])],[(true,[(.sc,.sc),(.sc,.sc),(.sc,.sc),(.sc,.sc),(.sc,.sc)])],[(false,[.sc])]⟩
def Gb6:Sig:=⟨229,[(false,[.fz false]),(false,[.clo 212 [.px 0]])],[(true,[(.sc,.sc),(.sc,.sc),(.sc,.sc),(.sc,.sc),(.sc,.sc)])],[(false,[.sc])]⟩
def Gb5:Sig:=⟨212,[(false,[.sc]),(false,[.px 0])],[(true,[(.sc,.sc),(.sc,.sc),(.sc,.sc),(.sc,.sc),(.sc,.sc)])],[(false,[.sc])]⟩
def Gb4:Sig:=⟨90,[(false,[.px 0]),(false,[.sc]),(false,[.sc]),(false,[.sc]),(true,[.sc,.sc,.sc,.sc,.sc]),(true,[.sc,.fz false])],[(false,[(.sc,.sc),(.sc,.sc),(.ow 99,.ow 99),(.ow 99,.ow 99),(.ow 99,.ow 99),(.sc,.sc)])],[]⟩
def Gb3:Sig:=⟨83,[(false,[.px 0]),(false,[.sc]),(false,[.sc]),(true,[.sc,.sc,.sc,.sc,.sc,.sc,.sc,.sc,.sc,.fz false])],[(false,[(.sc,.sc),(.ow 99,.ow 99)])],[]⟩
def Gb2:Sig:=⟨82,[(false,[.px 0]),(true,[.sc,.sc,.sc,.sc,.sc,.sc,.sc,.sc,.sc,.sc,.fz false,.sc,.fz false,.sc,.fz false,.fz false])],[(false,[(.sc,.sc),(.sc,.sc),(.ow 99,.ow 99),(.ow 99,.ow 99),(.ow 99,.ow 99),(.sc,.sc)])],[]⟩
def Gb1:Sig:=⟨139,[(false,[.px 0]),(false,[.sc]),(false,[.sc])],[(false,[(.sc,.sc),(.sc,.sc),(.ow 99,.ow 99),(.ow 99,.ow 99),(.ow 99,.ow 99),(.sc,.sc)])],[]⟩
def Gb0:Sig:=⟨60,[(false,[.px 0]),(false,[.sc]),(false,[.sc])],[(true,[(.sc,.sc),(.sc,.sc),(.fz false,.fz),(.fz false,.fz),(.fz false,.fz),(.sc,.sc)])],[(false,[.sc]),(false,[.sc])]⟩
def Gbz:Sig:=⟨137,[(false,[.fz false]),(false,[.fz false]),(false,[.clo 138 []])],[],[(false,[.sc]),(false,[.sc])]⟩
def Gby:Sig:=⟨138,[(true,[.sc,.sc,.sc,.sc,.sc,.sc,.sc,.sc,.sc,.sc,.fz false,.sc,.fz false,.sc,.fz false,.fz false]),(false,[.fz false])],[],[(false,[.sc])]⟩
def Gbx:Sig:=⟨204,[(false,[.ow 99]),(false,[.sc]),(false,[.sc])],[],[(false,[.ow 99])]⟩
def Gbw:Sig:=⟨154,[(false,[.ow 99]),(false,[.sc]),(false,[.ow 99])],[],[(false,[.ow 99])]⟩
def Gbv:Sig:=⟨84,[(false,[.px 0]),(true,[.sc,.sc,.sc,.sc,.sc,.sc,.sc,.sc,.sc,.sc,.sc,.sc,.sc,.sc,.fz false])],[(false,[(.sc,.sc),(.sc,.sc),(.ow 99,.ow 99),(.ow 99,.ow 99),(.ow 99,.ow 99),(.sc,.sc)])],[]⟩
def Gbu:Sig:=⟨155,[(false,[.px 0]),(true,[.sc,.sc,.sc,.sc,.sc,.sc,.sc,.sc,.sc,.sc,.sc,.sc,.sc,.sc,.fz false]),(false,[.sc])],[(false,[(.sc,.sc),(.sc,.sc),(.ow 99,.ow 99),(.ow 99,.ow 99),(.ow 99,.ow 99),(.sc,.sc)])],[]⟩
def Gbt:Sig:=⟨208,[(true,[.sc,.sc,.sc,.sc,.sc,.sc,.sc,.sc,.sc,.sc,.sc,.sc,.sc,.sc,.fz false])],[],[(true,[.sc,.sc,.sc,.sc,.sc,.sc,.sc,.sc,.sc,.sc,.sc,.sc,.sc,.sc,.ow 99])]⟩
def Gbs:Sig:=⟨64,[(false,[.px 0])],[(false,[(.sc,.sc),(.sc,.sc),(.ow 99,.dead),(.ow 99,.dead),(.ow 99,.dead),(.sc,.sc)])],[(true,[.sc,.sc,.ow 99,.ow 99]),(false,[.ow 99]),(false,[.sc])]⟩
def Gbr:Sig:=⟨13,[(true,[.sc,.sc,.fz false,.fz false]),(true,[.sc,.sc,.fz false,.fz false])],[],[(false,[.sc])]⟩
def Gbq:Sig:=⟨65,[(true,[.sc,.fz false]),(true,[.sc,.fz false])],[],[(false,[.sc])]⟩
def Gbp:Sig:=⟨143,[(false,[.fz false]),(false,[.fz false])],[],[(false,[.sc])]⟩
def Gbo:Sig:=⟨205,[(false,[.fz false]),(false,[.fz false])],[],[(false,[.sc])]⟩
def Gbn:Sig:=⟨232,[(true,[.sc,.sc,.sc,.sc,.sc,.sc,.sc,.sc,.sc,.fz false]),(true,[.sc,.sc,.sc,.sc,.sc,.sc,.sc,.sc,.sc,.fz false])],[],[(false,[.sc])]⟩
def Gbm:Sig:=⟨97,[(true,[.sc,.sc,.sc,.sc,.sc]),(true,[.sc,.sc,.sc,.sc,.sc])],[],[(false,[.sc])]⟩
def Gbl:Sig:=⟨98,[(true,[.sc,.fz false]),(true,[.sc,.fz false])],[],[(false,[.sc])]⟩
def Gbk:Sig:=⟨177,[(false,[.fz false]),(false,[.fz false])],[],[(false,[.sc])]⟩
def Gbj:Sig:=⟨66,[(false,[.fz false]),(false,[.fz false])],[],[(false,[.sc])]⟩
def Gbi:Sig:=⟨144,[(true,[.sc,.sc,.sc,.sc,.sc,.sc,.sc,.sc,.sc,.sc,.fz false,.sc,.fz false,.sc,.fz false,.fz false]),(true,[.sc,.sc,.sc,.sc,.sc,.sc,.sc,.sc,.sc,.sc,.fz false,.sc,.fz false,.sc,.fz false,.fz false])],[],[(false,[.sc])]⟩
def Gbh:Sig:=⟨14,[(false,[.fz false]),(false,[.fz false])],[],[(false,[.sc])]⟩
def Gbg:Sig:=⟨28,[(true,[.sc,.sc,.sc,.sc,.sc,.sc,.sc,.sc,.sc,.sc,.sc,.sc,.sc,.sc,.fz false]),(true,[.sc,.sc,.sc,.sc,.sc,.sc,.sc,.sc,.sc,.sc,.sc,.sc,.sc,.sc,.fz false])],[],[(false,[.sc])]⟩
def Gbf:Sig:=⟨15,[(true,[.sc,.sc,.mu 3,.mu 3]),(false,[.sc])],[],[(false,[.sc])]⟩
def Gbe:Sig:=⟨67,[(true,[.sc,.mu 3]),(false,[.sc])],[],[(false,[.sc])]⟩
def Gbd:Sig:=⟨145,[(false,[.mu 3]),(false,[.sc])],[],[(false,[.sc])]⟩
def Gbc:Sig:=⟨146,[(false,[.mu 2]),(false,[.sc])],[],[(false,[.sc])]⟩
def Gbb:Sig:=⟨69,[(false,[.mu 1]),(false,[.sc])],[],[(false,[.sc])]⟩
def Gba:Sig:=⟨68,[(false,[.mu 3]),(false,[.sc])],[],[(false,[.sc])]⟩
def Fb9:Sig:=⟨16,[(false,[.mu 2]),(false,[.sc])],[],[(false,[.sc])]⟩
def Fb8:Sig:=⟨17,[(true,[.sc,.sc,.fz false,.fz false]),(false,[.sc])],[],[(false,[.sc])]⟩
def Fb7:Sig:=⟨70,[(true,[.sc,.fz false]),(false,[.sc])],[],[(false,[.sc])]⟩
def Fb6:Sig:=⟨147,[(false,[.fz false]),(false,[.sc])],[],[(false,[.sc])]⟩
def Fb5:Sig:=⟨148,[(false,[.fz false]),(false,[.sc])],[],[(false,[.sc])]⟩
def Fb4:Sig:=⟨72,[(false,[.fz false]),(false,[.sc])],[],[(false,[.sc])]⟩
def Fb3:Sig:=⟨71,[(false,[.fz false]),(false,[.sc])],[],[(false,[.sc])]⟩
def Fb2:Sig:=⟨18,[(false,[.fz false]),(false,[.sc])],[],[(false,[.sc])]⟩
def sigs:List (Nat×Sig):=[(0,sg0),(1,sg1),(2,sg2),(3,sg3),(4,sg4),(5,sg5),(6,sg6),(7,sg7),(8,sg8),(9,sg9),(10,Ob7),(11,Ob6),(12,Ob5),(13,Ob4),(14,Ob3),(15,Ob2),(16,Ob1),(17,Ob0),(18,Obz),(19,Oby),(20,Obx),(21,Obw),(22,Obv),(23,Obu),(24,Obt),(25,Obs),(26,Obr),(27,Obq),(28,Obp),(29,Obo),(30,Obn),(31,Obm),(32,Obl),(33,Obk),(34,Obi),(35,Obh),(36,Obg),(37,Obf),(38,Obe),(39,Obd),(40,Obc),(41,Obb),(42,Oba),(43,Nb9),(44,Nb8),(45,Nb7),(46,Nb6),(47,Nb5),(48,Nb4),(49,Nb3),(50,Nb2),(51,Nb1),(52,Nb0),(53,Nbz),(54,Nby),(55,Nbx),(56,Nbw),(57,Nbv),(58,Nbu),(59,Nbt),(60,Nbs),(61,Nbr),(62,Nbq),(63,Nbp),(64,Nbo),(65,Nbn),(66,Nbm),(67,Nbl),(68,Nbk),(69,Nbj),(70,Nbi),(71,Nbh),(72,Nbg),(73,Nbf),(74,Nbe),(75,Nbd),(76,Nbc),(77,Nbb),(78,Nba),(79,Mb9),(80,Mb8),(81,Mb7),(82,Mb6),(83,Mb5),(84,Mb4),(85,Mb3),(86,Mb2),(87,Mb1),(88,Mb0),(89,Mbz),(90,Mby),(91,Mbx),(92,Mbw),(93,Mbv),(94,Mbu),(95,Mbt),(96,Mbs),(97,Mbr),(98,Mbq),(99,Mbp),(100,Vaa),(101,Hbd),(102,Hbc),(103,Hbb),(104,Hba),(105,Gb9),(106,Gb8),(107,Gb7),(108,Gb6),(109,Gb5),(110,Gb4),(111,Gb3),(112,Gb2),(113,Gb1),(114,Gb0),(115,Gbz),(116,Gby),(117,Gbx),(118,Gbw),(119,Gbv),(120,Gbu),(121,Gbt),(122,Gbs),(123,Gbr),(124,Gbq),(125,Gbp),(126,Gbo),(127,Gbn),(128,Gbm),(129,Gbl),(130,Gbk),(131,Gbj),(132,Gbi),(133,Gbh),(134,Gbg),(135,Gbf),(136,Gbe),(137,Gbd),(138,Gbc),(139,Gbb),(140,Gba),(141,Fb9),(142,Fb8),(143,Fb7),(144,Fb6),(145,Fb5),(146,Fb4),(147,Fb3),(148,Fb2)]
abbrev E0:Env:=⟨tK tiL,sigs,0,0,false,false,[],[],[],0⟩
def tm0:Tm Unit :=
(.call none 1 [.v 0,.v 1,.v 2,.v 3,.c (.int .i64 1048576)] 1 [] <|
(.lt none (.bin .lss) [.v 9,.c (.int .i64 0)] 1 <|
(.ite (.v 10)
(.leaf .ret [.c (.bool true)] ())
(.call none 10 [.v 0,.v 1,.v 2,.v 3] 4 [] <|
(.call none 15 [.v 4,.v 5,.v 6,.v 7,.v 8] 5 [] <|
(.call none 20 [.v 11,.v 12,.v 13,.v 14,.v 15,.v 16,.v 17,.v 18,.v 19] 6 [] <|
(.call none 10 [.v 0,.v 1,.v 2,.v 3] 4 [] <|
(.call none 15 [.v 4,.v 5,.v 6,.v 7,.v 8] 5 [] <|
(.call none 58 [.v 26,.v 27,.v 28,.v 29,.v 30,.v 31,.v 32,.v 33,.v 34] 6 [] <|
(.lt none (.dep 99) [.v 37] 0 <|
(.lt none (.dep 99) [.v 38] 0 <|
(.lt none (.dep 99) [.v 39] 0 <|
(.call none 123 [.v 35,.v 36,.v 37,.v 38,.v 20,.v 21,.v 22,.v 23] 1 [] <|
(.lt none .not [.v 41] 1 <|
(.call (some (.v 42,false)) 133 [.v 39,.v 24] 1 [] <|
(.lt (some (.v 42,false)) .not [.v 43] 1 <|
(.lt none .pick [.v 42,.c (.bool true),.v 44] 1 <|
(.lt (some (.v 45,false)) .id [.v 40] 1 <|
(.lt (some (.v 45,false)) .id [.v 25] 1 <|
(.lt (some (.v 45,false)) (.eqb true) [.v 46,.v 47] 1 <|
(.lt none .pick [.v 45,.c (.bool true),.v 48] 1 <|
(.ite (.v 49)
(.leaf .ret [.c (.bool false)] ())
(.call none 10 [.v 0,.v 1,.v 2,.v 3] 4 [] <|
(.call none 123 [.v 26,.v 27,.v 28,.v 29,.v 50,.v 51,.v 52,.v 53] 1 [] <|
(.lt none .not [.v 54] 1 <|
(.ite (.v 55)
(.leaf .ret [.c (.bool false)] ())
(.call none 135 [.v 26,.v 27,.v 28,.v 29,.c (.int .i64 1)] 3 [] <|
(.lt none (.dep 3) [.v 57] 0 <|
(.lt none (.dep 3) [.v 58] 0 <|
(.lt none (.bin .lss) [.v 56,.c (.int .i64 0)] 1 <|
(.call (some (.v 59,false)) 123 [.v 35,.v 36,.v 37,.v 38,.v 20,.v 21,.v 22,.v 23] 1 [] <|
(.lt (some (.v 59,false)) .not [.v 60] 1 <|
(.lt none .pick [.v 59,.c (.bool true),.v 61] 1 <|
(.call (some (.v 62,false)) 133 [.v 39,.v 24] 1 [] <|
(.lt (some (.v 62,false)) .not [.v 63] 1 <|
(.lt none .pick [.v 62,.c (.bool true),.v 64] 1 <|
(.lt (some (.v 65,false)) .id [.v 40] 1 <|
(.lt (some (.v 65,false)) .id [.v 25] 1 <|
(.lt (some (.v 65,false)) (.eqb true) [.v 66,.v 67] 1 <|
(.lt none .pick [.v 65,.c (.bool true),.v 68] 1 <|
(.ite (.v 69)
(.leaf .ret [.c (.bool false)] ())
(.call none 135 [.v 35,.v 36,.v 37,.v 38,.c (.int .i64 1)] 3 [] <|
(.lt none (.dep 3) [.v 71] 0 <|
(.lt none (.dep 3) [.v 72] 0 <|
(.call none 141 [.v 39,.v 70] 2 [] <|
(.lt none (.dep 2) [.v 74] 0 <|
(.call none 142 [.v 35,.v 36,.v 71,.v 72,.c (.int .i64 1)] 1 [] <|
(.lt none (.bin .lss) [.v 75,.c (.int .i64 0)] 1 <|
(.ite (.v 76)
(.leaf .ret [.c (.bool false)] ())
(.call none 148 [.v 74,.v 75] 1 [] <|
(.lt none (.bin .lss) [.v 77,.c (.int .i64 0)] 1 <|
(.ite (.v 78)
(.leaf .ret [.c (.bool false)] ())
(.lt none (.bin .neq) [.v 77,.v 73] 1 <|
(.ite (.v 79)
(.leaf .ret [.c (.bool false)] ())
(.call none 10 [.v 0,.v 1,.v 2,.v 3] 4 [] <|
(.call none 15 [.v 4,.v 5,.v 6,.v 7,.v 8] 5 [] <|
(.call none 58 [.v 80,.v 81,.v 82,.v 83,.v 84,.v 85,.v 86,.v 87,.v 88] 6 [] <|
(.lt none (.dep 99) [.v 91] 0 <|
(.lt none (.dep 99) [.v 92] 0 <|
(.lt none (.dep 99) [.v 93] 0 <|
(.call none 123 [.v 89,.v 90,.v 91,.v 92,.v 20,.v 21,.v 22,.v 23] 1 [] <|
(.lt none .not [.v 95] 1 <|
(.call (some (.v 96,false)) 133 [.v 93,.v 24] 1 [] <|
(.lt (some (.v 96,false)) .not [.v 97] 1 <|
(.lt none .pick [.v 96,.c (.bool true),.v 98] 1 <|
(.lt (some (.v 99,false)) .id [.v 94] 1 <|
(.lt (some (.v 99,false)) .id [.v 25] 1 <|
(.lt (some (.v 99,false)) (.eqb true) [.v 100,.v 101] 1 <|
(.lt none .pick [.v 99,.c (.bool true),.v 102] 1 <|
(.ite (.v 103)
(.leaf .ret [.c (.bool false)] ())
(.call none 142 [.v 35,.v 36,.v 71,.v 72,.c (.int .i64 1)] 1 [] <|
(.lt none (.bin .lss) [.v 104,.c (.int .i64 0)] 1 <|
(.ite (.v 105)
(.leaf .ret [.c (.bool false)] ())
(.call none 148 [.v 74,.v 104] 1 [] <|
(.lt none (.bin .lss) [.v 106,.c (.int .i64 0)] 1 <|
(.ite (.v 107)
(.leaf .ret [.c (.bool false)] ())
(.lt none (.bin .neq) [.v 106,.v 73] 1 <|
(.ite (.v 108)
(.leaf .ret [.c (.bool false)] ())
(.leaf .ret [.c (.bool true)] ())))))))))))))))))))))))))))))))))))))))))))))))))))))))))))))))))))))))))))))))
def tm1:Tm Unit :=
(.call none 2 [.v 1,.v 2,.v 4] 1 [] <|
(.lt none (.bin .lss) [.v 5,.c (.int .i64 0)] 1 <|
(.ite (.v 6)
(.leaf .ret [.c (.int .i64 (-1))] ())
(.call none 8 [.v 3,.v 5] 1 [] <|
(.lt none (.bin .lss) [.v 7,.c (.int .i64 0)] 1 <|
(.ite (.v 8)
(.leaf .ret [.c (.int .i64 (-1))] ())
(.leaf .ret [.v 7] ())))))))
def tm2:Tm Unit :=
(.call none 3 [.v 1,.v 2] 1 [] <|
(.lt none (.bin .lss) [.v 3,.c (.int .i64 0)] 1 <|
(.ite (.v 4)
(.leaf .ret [.c (.int .i64 (-1))] ())
(.leaf .ret [.v 3] ()))))
def tm3:Tm Unit :=
(.lt none .len [.v 0] 1 <|
(.lt none (.bin .sub) [.v 1,.v 2] 1 <|
(.lt none (.bin .lss) [.v 3,.c (.int .i64 0)] 1 <|
(.ite (.v 4)
(.leaf .ret [.c (.int .i64 (-1))] ())
(.bind 1
(.loop [.v 3,.c (.int .i64 0)]
(.lt none .len [.v 0] 1 <|
(.lt none (.bin .lss) [.v 6,.v 7] 1 <|
(.ite (.v 8)
(.lt none .inb [.v 0,.v 6] 0 <|
(.lt none (.row 1 0 [false]) [.v 0,.v 6] 1 <|
(.call none 4 [.v 9,.v 5] 1 [] <|
(.lt none (.bin .lss) [.v 10,.c (.int .i64 0)] 1 <|
(.ite (.v 11)
(.leaf .ret [.c (.int .i64 (-1))] ())
(.lt none (.bin .add) [.v 6,.c (.int .i64 1)] 1 <|
(.leaf .cont [.v 10,.v 12] ())))))))
(.leaf (.yield 1) [.v 5] ()))))) <|
(.leaf .ret [.v 5] ()))))))
def tm4:Tm Unit :=
(.lt none .len [.v 0] 1 <|
(.lt none (.bin .sub) [.v 1,.v 2] 1 <|
(.lt none (.bin .lss) [.v 3,.c (.int .i64 0)] 1 <|
(.ite (.v 4)
(.leaf .ret [.c (.int .i64 (-1))] ())
(.bind 1
(.loop [.v 3,.c (.int .i64 0)]
(.lt none .len [.v 0] 1 <|
(.lt none (.bin .lss) [.v 6,.v 7] 1 <|
(.ite (.v 8)
(.lt none .inb [.v 0,.v 6] 0 <|
(.lt none (.row 10 0 [true,true,true,true,true,true,true,true,true,false]) [.v 0,.v 6] 10 <|
(.call none 5 [.v 9,.v 10,.v 11,.v 12,.v 13,.v 14,.v 15,.v 16,.v 17,.v 18,.v 5] 1 [] <|
(.lt none (.bin .lss) [.v 19,.c (.int .i64 0)] 1 <|
(.ite (.v 20)
(.leaf .ret [.c (.int .i64 (-1))] ())
(.lt none (.bin .add) [.v 6,.c (.int .i64 1)] 1 <|
(.leaf .cont [.v 19,.v 21] ())))))))
(.leaf (.yield 1) [.v 5] ()))))) <|
(.leaf .ret [.v 5] ()))))))
def tm5:Tm Unit :=
(.call none 6 [.v 8,.v 9,.v 10] 1 [] <|
(.lt none (.bin .lss) [.v 11,.c (.int .i64 0)] 1 <|
(.ite (.v 12)
(.leaf .ret [.c (.int .i64 (-1))] ())
(.leaf .ret [.v 11] ()))))
def tm6:Tm Unit :=
(.call none 7 [.v 1,.v 2] 1 [] <|
(.lt none (.bin .lss) [.v 3,.c (.int .i64 0)] 1 <|
(.ite (.v 4)
(.leaf .ret [.c (.int .i64 (-1))] ())
(.leaf .ret [.v 3] ()))))
def tm7:Tm Unit :=
(.lt none .len [.v 0] 1 <|
(.lt none (.bin .sub) [.v 1,.v 2] 1 <|
(.lt none (.bin .lss) [.v 3,.c (.int .i64 0)] 1 <|
(.ite (.v 4)
(.leaf .ret [.c (.int .i64 (-1))] ())
(.leaf .ret [.v 3] ())))))
def tm8:Tm Unit :=
(.lt none .len [.v 0] 1 <|
(.lt none (.bin .sub) [.v 1,.v 2] 1 <|
(.lt none (.bin .lss) [.v 3,.c (.int .i64 0)] 1 <|
(.ite (.v 4)
(.leaf .ret [.c (.int .i64 (-1))] ())
(.bind 1
(.loop [.v 3,.c (.int .i64 0)]
(.lt none .len [.v 0] 1 <|
(.lt none (.bin .lss) [.v 6,.v 7] 1 <|
(.ite (.v 8)
(.lt none .inb [.v 0,.v 6] 0 <|
(.lt none (.row 16 0 [true,true,true,true,true,true,true,true,true,true,false,true,false,true,false,false]) [.v 0,.v 6] 16 <|
(.call none 9 [.v 9,.v 10,.v 11,.v 12,.v 13,.v 14,.v 15,.v 16,.v 17,.v 18,.v 19,.v 20,.v 21,.v 22,.v 23,.v 24,.v 5] 1 [] <|
(.lt none (.bin .lss) [.v 25,.c (.int .i64 0)] 1 <|
(.ite (.v 26)
(.leaf .ret [.c (.int .i64 (-1))] ())
(.lt none (.bin .add) [.v 6,.c (.int .i64 1)] 1 <|
(.leaf .cont [.v 25,.v 27] ())))))))
(.leaf (.yield 1) [.v 5] ()))))) <|
(.leaf .ret [.v 5] ()))))))
def tm9:Tm Unit :=
(.call none 6 [.v 9,.v 10,.v 16] 1 [] <|
(.lt none (.bin .lss) [.v 17,.c (.int .i64 0)] 1 <|
(.ite (.v 18)
(.leaf .ret [.c (.int .i64 (-1))] ())
(.call none 6 [.v 11,.v 12,.v 17] 1 [] <|
(.lt none (.bin .lss) [.v 19,.c (.int .i64 0)] 1 <|
(.ite (.v 20)
(.leaf .ret [.c (.int .i64 (-1))] ())
(.call none 7 [.v 14,.v 19] 1 [] <|
(.lt none (.bin .lss) [.v 21,.c (.int .i64 0)] 1 <|
(.ite (.v 22)
(.leaf .ret [.c (.int .i64 (-1))] ())
(.call none 4 [.v 15,.v 21] 1 [] <|
(.lt none (.bin .lss) [.v 23,.c (.int .i64 0)] 1 <|
(.ite (.v 24)
(.leaf .ret [.c (.int .i64 (-1))] ())
(.leaf .ret [.v 23] ())))))))))))))
def Kb8:Tm Unit :=
(.call none 11 [.v 1,.v 2] 2 [] <|
(.call none 18 [.v 3] 1 [] <|
(.leaf .ret [.v 0,.v 4,.v 5,.v 6] ())))
def Kb7:Tm Unit :=
(.call none 12 [.v 1] 1 [] <|
(.leaf .ret [.v 0,.v 2] ()))
def Kb6:Tm Unit :=
(.lt none .len [.v 0] 1 <|
(.lt none (.make 24 [(.rows 10 [])]) [.v 1] 1 <|
(.bind 1
(.loop [.v 2,.c (.int .i64 0)]
(.lt none .len [.v 0] 1 <|
(.lt none (.bin .lss) [.v 4,.v 5] 1 <|
(.ite (.v 6)
(.lt none .inb [.v 0,.v 4] 0 <|
(.lt none (.row 1 0 [false]) [.v 0,.v 4] 1 <|
(.call none 13 [.v 7] 1 [] <|
(.lt none .inb [.v 3,.v 4] 0 <|
(.lt none (.set 1 0 1) [.v 3,.v 4,.v 8] 1 <|
(.lt none (.bin .add) [.v 4,.c (.int .i64 1)] 1 <|
(.leaf .cont [.v 9,.v 10] ())))))))
(.leaf (.yield 1) [.v 3] ()))))) <|
(.leaf .ret [.v 3] ()))))
def Kb5:Tm Unit :=
(.lt none .len [.v 0] 1 <|
(.lt none (.make 96 [(.int .i64 0),(.int .i64 0),(.int .i64 0),(.int .i64 0),(.int .i64 0),(.int .i64 0),(.int .i64 0),(.int .i64 0),(.int .i64 0),(.rows 1 [])]) [.v 1] 1 <|
(.bind 1
(.loop [.v 2,.c (.int .i64 0)]
(.lt none .len [.v 0] 1 <|
(.lt none (.bin .lss) [.v 4,.v 5] 1 <|
(.ite (.v 6)
(.lt none .inb [.v 0,.v 4] 0 <|
(.lt none (.row 10 0 [true,true,true,true,true,true,true,true,true,false]) [.v 0,.v 4] 10 <|
(.call none 14 [.v 7,.v 8,.v 9,.v 10,.v 11,.v 12,.v 13,.v 14,.v 15,.v 16] 10 [] <|
(.lt none .inb [.v 3,.v 4] 0 <|
(.lt none (.set 10 0 10) [.v 3,.v 4,.v 17,.v 18,.v 19,.v 20,.v 21,.v 22,.v 23,.v 24,.v 25,.v 26] 1 <|
(.lt none (.bin .add) [.v 4,.c (.int .i64 1)] 1 <|
(.leaf .cont [.v 27,.v 28] ())))))))
(.leaf (.yield 1) [.v 3] ()))))) <|
(.leaf .ret [.v 3] ()))))
def Kb4:Tm Unit :=
(.call none 15 [.v 3,.v 4,.v 5,.v 6,.v 7] 5 [] <|
(.call none 16 [.v 8,.v 9] 2 [] <|
(.leaf .ret [.v 0,.v 1,.v 2,.v 10,.v 11,.v 12,.v 13,.v 14,.v 15,.v 16] ())))
def Kb3:Tm Unit :=
(.leaf .ret [.v 0,.v 1,.v 2,.v 3,.v 4] ())
def Kb2:Tm Unit :=
(.call none 17 [.v 1] 1 [] <|
(.leaf .ret [.v 0,.v 2] ()))
def Kb1:Tm Unit :=
(.lt none .len [.v 0] 1 <|
(.lt none (.make 8 [(.int .i64 0)]) [.v 1] 1 <|
(.bind 1
(.loop [.v 2,.c (.int .i64 0)]
(.lt none .len [.v 0] 1 <|
(.lt none (.bin .lss) [.v 4,.v 5] 1 <|
(.ite (.v 6)
(.lt none .inb [.v 0,.v 4] 0 <|
(.lt none (.row 1 0 [true]) [.v 0,.v 4] 1 <|
(.lt none .inb [.v 3,.v 4] 0 <|
(.lt none (.set 1 0 1) [.v 3,.v 4,.v 7] 1 <|
(.lt none (.bin .add) [.v 4,.c (.int .i64 1)] 1 <|
(.leaf .cont [.v 8,.v 9] ()))))))
(.leaf (.yield 1) [.v 3] ()))))) <|
(.leaf .ret [.v 3] ()))))
def Kb0:Tm Unit :=
(.lt none .len [.v 0] 1 <|
(.lt none (.make 192 [(.int .i64 0),(.int .i64 0),(.int .i64 0),(.int .i64 0),(.int .i64 0),(.int .i64 0),(.int .i64 0),(.int .i64 0),(.int .i64 0),(.int .i64 0),(.rows 1 []),(.int .i64 0),(.rows 1 []),(.bool false),(.rows 1 []),(.rows 10 [])]) [.v 1] 1 <|
(.bind 1
(.loop [.v 2,.c (.int .i64 0)]
(.lt none .len [.v 0] 1 <|
(.lt none (.bin .lss) [.v 4,.v 5] 1 <|
(.ite (.v 6)
(.lt none .inb [.v 0,.v 4] 0 <|
(.lt none (.row 16 0 [true,true,true,true,true,true,true,true,true,true,false,true,false,true,false,false]) [.v 0,.v 4] 16 <|
(.call none 19 [.v 7,.v 8,.v 9,.v 10,.v 11,.v 12,.v 13,.v 14,.v 15,.v 16,.v 17,.v 18,.v 19,.v 20,.v 21,.v 22] 16 [] <|
(.lt none .inb [.v 3,.v 4] 0 <|
(.lt none (.set 16 0 16) [.v 3,.v 4,.v 23,.v 24,.v 25,.v 26,.v 27,.v 28,.v 29,.v 30,.v 31,.v 32,.v 33,.v 34,.v 35,.v 36,.v 37,.v 38] 1 <|
(.lt none (.bin .add) [.v 4,.c (.int .i64 1)] 1 <|
(.leaf .cont [.v 39,.v 40] ())))))))
(.leaf (.yield 1) [.v 3] ()))))) <|
(.leaf .ret [.v 3] ()))))
def Kbz:Tm Unit :=
(.call none 15 [.v 4,.v 5,.v 6,.v 7,.v 8] 5 [] <|
(.call none 16 [.v 9,.v 10] 2 [] <|
(.call none 16 [.v 11,.v 12] 2 [] <|
(.call none 17 [.v 14] 1 [] <|
(.call none 13 [.v 15] 1 [] <|
(.leaf .ret [.v 0,.v 1,.v 2,.v 3,.v 16,.v 17,.v 18,.v 19,.v 20,.v 21,.v 22,.v 23,.v 24,.v 13,.v 25,.v 26] ()))))))
def Kby:Tm Unit :=
(.call none 21 [.v 0,.v 1,.v 2,.v 3] 1 [] <|
(.lt none .not [.v 9] 1 <|
(.call (some (.v 10,false)) 29 [.v 4,.v 5,.v 6,.v 7,.v 8] 1 [] <|
(.lt (some (.v 10,false)) .not [.v 11] 1 <|
(.lt none .pick [.v 10,.c (.bool true),.v 12] 1 <|
(.lt (some (.v 13,false)) .id [.v 4] 1 <|
(.lt (some (.v 13,false)) (.bin .eql) [.v 14,.c (.int .i64 0)] 1 <|
(.lt none .pick [.v 13,.c (.bool true),.v 15] 1 <|
(.lt (some (.v 16,false)) .id [.v 0] 1 <|
(.lt (some (.v 16,false)) .inb [.v 2,.v 17] 0 <|
(.lt (some (.v 16,false)) (.row 1 0 [false]) [.v 2,.v 17] 1 <|
(.lt (some (.v 16,false)) .len [.v 18] 1 <|
(.lt (some (.v 16,false)) (.bin .geq) [.v 19,.c (.int .i64 6)] 1 <|
(.lt none .pick [.v 16,.c (.bool true),.v 20] 1 <|
(.ite (.v 21)
(.leaf .ret [.c (.int .i64 0),.c (.int .i64 0),.c (.rows 1 []),.c (.rows 16 []),.c (.rows 15 []),.c (.bool false)] ())
(.call none 38 [.v 0,.v 1,.v 2,.v 3] 4 [] <|
(.lt none .inb [.v 2,.v 0] 0 <|
(.lt none (.row 1 0 [false]) [.v 2,.v 0] 1 <|
(.lt none .len [.v 26] 1 <|
(.lt none (.bin .add) [.v 27,.c (.int .i64 1)] 1 <|
(.call none 45 [.v 1,.v 2,.v 4,.v 5,.v 6,.v 7,.v 8,.v 0,.v 28] 2 [] <|
(.call none 50 [.v 0,.v 28,.c (.int .i64 0),.v 4,.v 5,.v 6,.v 7,.v 8,.v 29,.v 30,.v 22,.v 23,.v 24,.v 25,.c (.rows 15 []),.c (.bool true)] 6 [] <|
(.lt none (.dep 99) [.v 35] 0 <|
(.call none 57 [.v 31,.v 32,.v 33,.v 34,.v 35,.v 36] 6 [] <|
(.leaf .ret [.v 37,.v 38,.v 39,.v 40,.v 41,.v 42] ())))))))))))))))))))))))))
def Kbx:Tm Unit :=
(.call none 22 [.v 1,.v 2] 1 [] <|
(.lt none .not [.v 4] 1 <|
(.lt (some (.v 5,false)) .id [.v 0] 1 <|
(.lt (some (.v 5,false)) .id [.v 1] 1 <|
(.lt (some (.v 5,false)) (.bin .sub) [.v 7,.c (.int .i64 1)] 1 <|
(.call (some (.v 5,false)) 25 [.v 6,.c (.int .i64 0),.v 8] 1 [] <|
(.lt (some (.v 5,false)) .not [.v 9] 1 <|
(.lt none .pick [.v 5,.c (.bool true),.v 10] 1 <|
(.ite (.v 11)
(.leaf .ret [.c (.bool false)] ())
(.lt none .len [.v 3] 1 <|
(.bind 1
(.loop [.c (.int .i64 0)]
(.lt none (.bin .lss) [.v 13,.v 12] 1 <|
(.ite (.v 14)
(.bind 0
(.lt none .inb [.v 3,.v 13] 0 <|
(.lt none (.row 16 0 [true,true,true,true,true,true,true,true,true,true,false,true,false,true,false,false]) [.v 3,.v 13] 16 <|
(.call none 34 [.v 1,.v 0,.v 15,.v 16,.v 17,.v 18,.v 19,.v 20,.v 21,.v 22,.v 23,.v 24,.v 25,.v 26,.v 27,.v 28,.v 29,.v 30] 1 [] <|
(.lt none .not [.v 31] 1 <|
(.ite (.v 32)
(.leaf .ret [.c (.bool false)] ())
(.lt none (.bin .gtr) [.v 13,.c (.int .i64 0)] 1 <|
(.ite (.v 33)
(.lt none (.bin .sub) [.v 13,.c (.int .i64 1)] 1 <|
(.lt none .inb [.v 3,.v 34] 0 <|
(.lt none (.row 16 0 [true,true,true,true,true,true,true,true,true,true,false,true,false,true,false,false]) [.v 3,.v 34] 16 <|
(.lt none (.bin .gtr) [.v 35,.v 15] 1 <|
(.lt (some (.v 51,false)) .id [.v 35] 1 <|
(.lt (some (.v 51,false)) .id [.v 15] 1 <|
(.lt (some (.v 51,false)) (.bin .eql) [.v 52,.v 53] 1 <|
(.lt (some (.v 51,false)) .id [.v 54] 1 <|
(.lt (some (.v 55,true)) .id [.v 36] 1 <|
(.lt (some (.v 55,true)) .id [.v 16] 1 <|
(.lt (some (.v 55,true)) (.bin .geq) [.v 56,.v 57] 1 <|
(.lt (some (.v 51,false)) .pick [.v 55,.v 58,.c (.bool false)] 1 <|
(.lt none .pick [.v 51,.c (.bool true),.v 59] 1 <|
(.ite (.v 60)
(.leaf .ret [.c (.bool false)] ())
(.leaf (.yield 0) [] ())))))))))))))))
(.leaf (.yield 0) [] ())))))))) <|
(.lt none (.bin .add) [.v 13,.c (.int .i64 1)] 1 <|
(.leaf .cont [.v 15] ())))
(.leaf (.yield 1) [] ())))) <|
(.leaf .ret [.c (.bool true)] ()))))))))))))
def Kbw:Tm Unit :=
(.call none 23 [.v 0] 1 [] <|
(.lt none .not [.v 2] 1 <|
(.lt (some (.v 3,false)) .len [.v 1] 1 <|
(.lt (some (.v 3,false)) .id [.v 0] 1 <|
(.lt (some (.v 3,false)) (.bin .neq) [.v 4,.v 5] 1 <|
(.lt none .pick [.v 3,.c (.bool true),.v 6] 1 <|
(.ite (.v 7)
(.leaf .ret [.c (.bool false)] ())
(.lt none .len [.v 1] 1 <|
(.bind 1
(.loop [.c (.int .i64 0)]
(.lt none (.bin .lss) [.v 9,.v 8] 1 <|
(.ite (.v 10)
(.lt none .inb [.v 1,.v 9] 0 <|
(.lt none (.row 1 0 [false]) [.v 1,.v 9] 1 <|
(.lt none .len [.v 11] 1 <|
(.bind 3
(.loop [.c (.int .i64 0)]
(.lt none (.bin .lss) [.v 13,.v 12] 1 <|
(.ite (.v 14)
(.lt none .inb [.v 11,.v 13] 0 <|
(.lt none (.row 10 0 [true,true,true,true,true,true,true,true,true,false]) [.v 11,.v 13] 10 <|
(.call none 24 [.v 0,.v 15,.v 16,.v 17,.v 18,.v 19,.v 20,.v 21,.v 22,.v 23,.v 24] 1 [] <|
(.lt none .not [.v 25] 1 <|
(.ite (.v 26)
(.leaf .ret [.c (.bool false)] ())
(.lt none (.bin .add) [.v 13,.c (.int .i64 1)] 1 <|
(.leaf .cont [.v 27] ())))))))
(.leaf (.yield 3) [] ())))) <|
(.lt none .len [.v 11] 1 <|
(.lt none (.bin .gtr) [.v 13,.c (.int .i64 6)] 1 <|
(.ite (.v 14)
(.leaf .ret [.c (.bool false)] ())
(.lt none (.bin .add) [.v 9,.c (.int .i64 1)] 1 <|
(.leaf .cont [.v 15] ())))))))))
(.leaf (.yield 1) [] ())))) <|
(.leaf .ret [.c (.bool true)] ()))))))))))
def Kbv:Tm Unit :=
(.lt none (.bin .eql) [.v 0,.c (.int .i64 3)] 1 <|
(.lt (some (.v 1,false)) .id [.v 0] 1 <|
(.lt (some (.v 1,false)) (.bin .eql) [.v 2,.c (.int .i64 5)] 1 <|
(.lt none .pick [.v 1,.c (.bool true),.v 3] 1 <|
(.leaf .ret [.v 4] ())))))
def Kbu:Tm Unit :=
(.call none 25 [.v 1,.c (.int .i64 0),.c (.int .i64 9999)] 1 [] <|
(.lt none .not [.v 11] 1 <|
(.lt (some (.v 12,false)) .id [.v 2] 1 <|
(.lt (some (.v 12,false)) .id [.v 1] 1 <|
(.call (some (.v 12,false)) 25 [.v 13,.c (.int .i64 0),.v 14] 1 [] <|
(.lt (some (.v 12,false)) .not [.v 15] 1 <|
(.lt none .pick [.v 12,.c (.bool true),.v 16] 1 <|
(.lt (some (.v 17,false)) .id [.v 3] 1 <|
(.call (some (.v 17,false)) 25 [.v 18,.c (.int .i64 0),.c (.int .i64 3)] 1 [] <|
(.lt (some (.v 17,false)) .not [.v 19] 1 <|
(.lt none .pick [.v 17,.c (.bool true),.v 20] 1 <|
(.ite (.v 21)
(.leaf .ret [.c (.bool false)] ())
(.lt none (.bin .eql) [.v 3,.c (.int .i64 0)] 1 <|
(.ite (.v 22)
(.lt none (.bin .eql) [.v 2,.c (.int .i64 0)] 1 <|
(.lt (some (.v 23,true)) (.eqs [0,0,0,0,0]) [.v 4,.v 5,.v 6,.v 7,.v 8,.c (.int .i64 0),.c (.int .i64 0),.c (.int .i64 0),.c (.int .i64 0),.c (.int .i64 0)] 1 <|
(.lt none .pick [.v 23,.v 24,.c (.bool false)] 1 <|
(.lt (some (.v 25,true)) .id [.v 0] 1 <|
(.call (some (.v 25,true)) 26 [.v 26] 2 [] <|
(.call (some (.v 25,true)) 27 [.v 9,.v 10,.v 27,.v 28] 1 [] <|
(.lt none .pick [.v 25,.v 29,.c (.bool false)] 1 <|
(.leaf .ret [.v 30] ()))))))))
(.call none 29 [.v 4,.v 5,.v 6,.v 7,.v 8] 1 [] <|
(.lt (some (.v 23,true)) .id [.v 0] 1 <|
(.call (some (.v 23,true)) 32 [.v 24,.v 9,.v 10] 1 [] <|
(.lt none .pick [.v 23,.v 25,.c (.bool false)] 1 <|
(.leaf .ret [.v 26] ())))))))))))))))))))
def Kbt:Tm Unit :=
(.lt none (.bin .geq) [.v 0,.v 1] 1 <|
(.lt (some (.v 3,true)) .id [.v 0] 1 <|
(.lt (some (.v 3,true)) .id [.v 2] 1 <|
(.lt (some (.v 3,true)) (.bin .leq) [.v 4,.v 5] 1 <|
(.lt none .pick [.v 3,.v 6,.c (.bool false)] 1 <|
(.leaf .ret [.v 7] ()))))))
def Fbo:Tm Unit :=
(.lt none (.make 8 [(.int .i64 0)]) [.v 0] 1 <|
(.leaf .ret [.c (.int .i64 0),.v 1] ()))
def Kbs:Tm Unit :=
(.lt none (.bin .eql) [.v 0,.v 2] 1 <|
(.call (some (.v 4,true)) 28 [.v 1,.v 3] 1 [] <|
(.lt none .pick [.v 4,.v 5,.c (.bool false)] 1 <|
(.leaf .ret [.v 6] ()))))
def Kbr:Tm Unit :=
(.lt none .len [.v 0] 1 <|
(.lt none .len [.v 1] 1 <|
(.lt none (.bin .neq) [.v 2,.v 3] 1 <|
(.ite (.v 4)
(.leaf .ret [.c (.bool false)] ())
(.lt none .len [.v 0] 1 <|
(.bind 1
(.loop [.c (.int .i64 0)]
(.lt none (.bin .lss) [.v 6,.v 5] 1 <|
(.ite (.v 7)
(.lt none .inb [.v 0,.v 6] 0 <|
(.lt none (.row 1 0 [true]) [.v 0,.v 6] 1 <|
(.lt none .inb [.v 1,.v 6] 0 <|
(.lt none (.row 1 0 [true]) [.v 1,.v 6] 1 <|
(.lt none (.bin .neq) [.v 8,.v 9] 1 <|
(.ite (.v 10)
(.leaf .ret [.c (.bool false)] ())
(.lt none (.bin .add) [.v 6,.c (.int .i64 1)] 1 <|
(.leaf .cont [.v 11] ()))))))))
(.leaf (.yield 1) [] ())))) <|
(.leaf .ret [.c (.bool true)] ())))))))
def Kbq:Tm Unit :=
(.lt none (.bin .eql) [.v 0,.c (.int .i64 0)] 1 <|
(.ite (.v 5)
(.lt none (.eqs [0,0,0,0,0]) [.v 0,.v 1,.v 2,.v 3,.v 4,.c (.int .i64 0),.c (.int .i64 0),.c (.int .i64 0),.c (.int .i64 0),.c (.int .i64 0)] 1 <|
(.leaf .ret [.v 6] ()))
(.lt none (.bin .eql) [.v 0,.c (.int .i64 1)] 1 <|
(.ite (.v 6)
(.call none 30 [.v 0,.v 1,.v 2,.v 3,.v 4] 1 [] <|
(.lt none (.bin .eql) [.v 7,.c (.int .i64 0)] 1 <|
(.leaf .ret [.v 8] ())))
(.lt none (.bin .eql) [.v 0,.c (.int .i64 2)] 1 <|
(.ite (.v 7)
(.call none 30 [.v 0,.v 1,.v 2,.v 3,.v 4] 1 [] <|
(.lt none (.bin .eql) [.v 8,.c (.int .i64 0)] 1 <|
(.lt (some (.v 9,true)) .id [.v 3] 1 <|
(.lt (some (.v 9,true)) (.bin .eql) [.v 10,.c (.int .i64 0)] 1 <|
(.lt none .pick [.v 9,.v 11,.c (.bool false)] 1 <|
(.lt (some (.v 12,true)) .id [.v 4] 1 <|
(.lt (some (.v 12,true)) (.bin .eql) [.v 13,.c (.int .i64 0)] 1 <|
(.lt none .pick [.v 12,.v 14,.c (.bool false)] 1 <|
(.leaf .ret [.v 15] ())))))))))
(.leaf .ret [.c (.bool false)] ())))))))
def Kbp:Tm Unit :=
(.lt none (.bin .eql) [.v 0,.c (.int .i64 1)] 1 <|
(.call none 31 [.v 2] 1 [] <|
(.lt none .not [.v 6] 1 <|
(.lt (some (.v 7,false)) .id [.v 5] 1 <|
(.lt (some (.v 7,false)) .id [.v 8] 1 <|
(.lt (some (.v 9,true)) .id [.v 3] 1 <|
(.call (some (.v 9,true)) 31 [.v 10] 1 [] <|
(.lt (some (.v 9,true)) .not [.v 11] 1 <|
(.lt (some (.v 7,false)) .pick [.v 9,.v 12,.c (.bool false)] 1 <|
(.lt none .pick [.v 7,.c (.bool true),.v 13] 1 <|
(.ite (.v 14)
(.leaf .ret [.c (.int .i64 4)] ())
(.lt (some (.v 5,true)) .id [.v 2] 1 <|
(.lt (some (.v 5,true)) .id [.v 3] 1 <|
(.lt (some (.v 5,true)) (.bin .eql) [.v 15,.v 16] 1 <|
(.lt none .pick [.v 5,.v 17,.c (.bool false)] 1 <|
(.ite (.v 18)
(.leaf .ret [.c (.int .i64 5)] ())
(.call none 25 [.v 1,.c (.int .i64 1),.c (.int .i64 999)] 1 [] <|
(.lt none .not [.v 19] 1 <|
(.lt (some (.v 20,false)) .id [.v 5] 1 <|
(.lt (some (.v 20,false)) .id [.v 21] 1 <|
(.lt (some (.v 22,true)) .id [.v 4] 1 <|
(.call (some (.v 22,true)) 25 [.v 23,.c (.int .i64 1),.c (.int .i64 1000)] 1 [] <|
(.lt (some (.v 22,true)) .not [.v 24] 1 <|
(.lt (some (.v 20,false)) .pick [.v 22,.v 25,.c (.bool false)] 1 <|
(.lt none .pick [.v 20,.c (.bool true),.v 26] 1 <|
(.ite (.v 27)
(.leaf .ret [.c (.int .i64 6)] ())
(.leaf .ret [.c (.int .i64 0)] ())))))))))))))))))))))))))))
def Kbo:Tm Unit :=
(.call none 25 [.v 0,.c (.int .i64 0),.c (.int .i64 3)] 1 [] <|
(.leaf .ret [.v 1] ()))
def Kbn:Tm Unit :=
(.call none 25 [.v 1,.c (.int .i64 0),.c (.int .i64 999)] 1 [] <|
(.lt (some (.v 3,true)) .len [.v 2] 1 <|
(.lt (some (.v 3,true)) .id [.v 0] 1 <|
(.lt (some (.v 3,true)) (.bin .eql) [.v 4,.v 5] 1 <|
(.lt none .pick [.v 3,.v 6,.c (.bool false)] 1 <|
(.call (some (.v 7,true)) 33 [.v 2,.c (.int .i64 0),.c (.int .i64 6)] 1 [] <|
(.lt none .pick [.v 7,.v 8,.c (.bool false)] 1 <|
(.leaf .ret [.v 9] ()))))))))
def Kbm:Tm Unit :=
(.lt none .len [.v 0] 1 <|
(.bind 1
(.loop [.c (.int .i64 0)]
(.lt none (.bin .lss) [.v 4,.v 3] 1 <|
(.ite (.v 5)
(.lt none .inb [.v 0,.v 4] 0 <|
(.lt none (.row 1 0 [true]) [.v 0,.v 4] 1 <|
(.call none 25 [.v 6,.v 1,.v 2] 1 [] <|
(.lt none .not [.v 7] 1 <|
(.ite (.v 8)
(.leaf .ret [.c (.bool false)] ())
(.lt none (.bin .add) [.v 4,.c (.int .i64 1)] 1 <|
(.leaf .cont [.v 9] ())))))))
(.leaf (.yield 1) [] ())))) <|
(.leaf .ret [.c (.bool true)] ())))
def Kbl:Tm Unit :=
(.call none 35 [.v 0,.v 2,.v 3] 1 [] <|
(.lt none .not [.v 18] 1 <|
(.lt (some (.v 19,false)) .id [.v 4] 1 <|
(.call (some (.v 19,false)) 25 [.v 20,.c (.int .i64 0),.c (.int .i64 9999)] 1 [] <|
(.lt (some (.v 19,false)) .not [.v 21] 1 <|
(.lt none .pick [.v 19,.c (.bool true),.v 22] 1 <|
(.lt (some (.v 23,false)) .id [.v 0] 1 <|
(.lt (some (.v 23,false)) (.bin .sub) [.v 24,.c (.int .i64 1)] 1 <|
(.call (some (.v 23,false)) 36 [.v 16,.c (.int .i64 0),.v 25] 1 [] <|
(.lt (some (.v 23,false)) .not [.v 26] 1 <|
(.lt none .pick [.v 23,.c (.bool true),.v 27] 1 <|
(.lt (some (.v 28,false)) .id [.v 1] 1 <|
(.call (some (.v 28,false)) 37 [.v 16,.v 29] 1 [] <|
(.lt (some (.v 28,false)) .not [.v 30] 1 <|
(.lt none .pick [.v 28,.c (.bool true),.v 31] 1 <|
(.lt (some (.v 32,false)) .id [.v 0] 1 <|
(.call (some (.v 32,false)) 32 [.v 33,.v 11,.v 12] 1 [] <|
(.lt (some (.v 32,false)) .not [.v 34] 1 <|
(.lt none .pick [.v 32,.c (.bool true),.v 35] 1 <|
(.lt (some (.v 36,false)) .id [.v 0] 1 <|
(.call (some (.v 36,false)) 32 [.v 37,.v 13,.v 14] 1 [] <|
(.lt (some (.v 36,false)) .not [.v 38] 1 <|
(.lt none .pick [.v 36,.c (.bool true),.v 39] 1 <|
(.ite (.v 40)
(.leaf .ret [.c (.bool false)] ())
(.lt none .len [.v 17] 1 <|
(.bind 1
(.loop [.c (.int .i64 0)]
(.lt none (.bin .lss) [.v 42,.v 41] 1 <|
(.ite (.v 43)
(.lt none .inb [.v 17,.v 42] 0 <|
(.lt none (.row 10 0 [true,true,true,true,true,true,true,true,true,false]) [.v 17,.v 42] 10 <|
(.call none 24 [.v 0,.v 44,.v 45,.v 46,.v 47,.v 48,.v 49,.v 50,.v 51,.v 52,.v 53] 1 [] <|
(.lt none .not [.v 54] 1 <|
(.lt (some (.v 55,false)) .id [.v 46] 1 <|
(.lt (some (.v 55,false)) (.bin .eql) [.v 56,.c (.int .i64 3)] 1 <|
(.lt none .pick [.v 55,.c (.bool true),.v 57] 1 <|
(.ite (.v 58)
(.leaf .ret [.c (.bool false)] ())
(.lt none (.bin .add) [.v 42,.c (.int .i64 1)] 1 <|
(.leaf .cont [.v 59] ()))))))))))
(.leaf (.yield 1) [] ())))) <|
(.lt none (.bin .eql) [.v 5,.c (.int .i64 1)] 1 <|
(.ite (.v 42)
(.call none 29 [.v 6,.v 7,.v 8,.v 9,.v 10] 1 [] <|
(.lt (some (.v 43,true)) .len [.v 17] 1 <|
(.lt (some (.v 43,true)) (.bin .eql) [.v 44,.c (.int .i64 0)] 1 <|
(.lt none .pick [.v 43,.v 45,.c (.bool false)] 1 <|
(.leaf .ret [.v 46] ())))))
(.lt none (.bin .eql) [.v 5,.c (.int .i64 2)] 1 <|
(.ite (.v 43)
(.call none 29 [.v 6,.v 7,.v 8,.v 9,.v 10] 1 [] <|
(.lt (some (.v 44,true)) .len [.v 17] 1 <|
(.lt (some (.v 44,true)) (.bin .eql) [.v 45,.c (.int .i64 0)] 1 <|
(.lt none .pick [.v 44,.v 46,.c (.bool false)] 1 <|
(.lt (some (.v 47,true)) .id [.v 15] 1 <|
(.lt (some (.v 47,true)) .not [.v 48] 1 <|
(.lt none .pick [.v 47,.v 49,.c (.bool false)] 1 <|
(.call (some (.v 50,true)) 27 [.v 11,.v 12,.v 13,.v 14] 1 [] <|
(.lt none .pick [.v 50,.v 51,.c (.bool false)] 1 <|
(.leaf .ret [.v 52] ()))))))))))
(.lt none (.bin .eql) [.v 5,.c (.int .i64 3)] 1 <|
(.ite (.v 44)
(.call none 26 [.v 0] 2 [] <|
(.lt none (.eqs [0,0,0,0,0]) [.v 6,.v 7,.v 8,.v 9,.v 10,.c (.int .i64 0),.c (.int .i64 0),.c (.int .i64 0),.c (.int .i64 0),.c (.int .i64 0)] 1 <|
(.call (some (.v 47,true)) 27 [.v 11,.v 12,.v 45,.v 46] 1 [] <|
(.lt none .pick [.v 47,.v 48,.c (.bool false)] 1 <|
(.call (some (.v 49,true)) 27 [.v 13,.v 14,.v 45,.v 46] 1 [] <|
(.lt none .pick [.v 49,.v 50,.c (.bool false)] 1 <|
(.lt (some (.v 51,true)) .id [.v 15] 1 <|
(.lt (some (.v 51,true)) .not [.v 52] 1 <|
(.lt none .pick [.v 51,.v 53,.c (.bool false)] 1 <|
(.lt (some (.v 54,true)) .len [.v 17] 1 <|
(.lt (some (.v 54,true)) .len [.v 16] 1 <|
(.lt (some (.v 54,true)) (.bin .eql) [.v 55,.v 56] 1 <|
(.lt none .pick [.v 54,.v 57,.c (.bool false)] 1 <|
(.leaf .ret [.v 58] ()))))))))))))))
(.leaf .ret [.c (.bool false)] ())))))))))))))))))))))))))))))))))
def Kbk:Tm Unit :=
(.lt none (.bin .sub) [.v 0,.c (.int .i64 1)] 1 <|
(.call none 25 [.v 1,.c (.int .i64 0),.v 3] 1 [] <|
(.lt (some (.v 4,true)) .id [.v 2] 1 <|
(.call (some (.v 4,true)) 25 [.v 5,.c (.int .i64 1),.c (.int .i64 6)] 1 [] <|
(.lt none .pick [.v 4,.v 6,.c (.bool false)] 1 <|
(.leaf .ret [.v 7] ()))))))
def Kbj:Tm Unit :=
(.lt none .len [.v 0] 1 <|
(.bind 1
(.loop [.c (.int .i64 0)]
(.lt none (.bin .lss) [.v 4,.v 3] 1 <|
(.ite (.v 5)
(.lt none .inb [.v 0,.v 4] 0 <|
(.lt none (.row 1 0 [true]) [.v 0,.v 4] 1 <|
(.call none 25 [.v 6,.v 1,.v 2] 1 [] <|
(.lt none .not [.v 7] 1 <|
(.lt (some (.v 8,false)) .id [.v 4] 1 <|
(.lt (some (.v 8,false)) (.bin .gtr) [.v 9,.c (.int .i64 0)] 1 <|
(.lt (some (.v 8,false)) .id [.v 10] 1 <|
(.lt (some (.v 11,true)) .id [.v 4] 1 <|
(.lt (some (.v 11,true)) (.bin .sub) [.v 12,.c (.int .i64 1)] 1 <|
(.lt (some (.v 11,true)) .inb [.v 0,.v 13] 0 <|
(.lt (some (.v 11,true)) (.row 1 0 [true]) [.v 0,.v 13] 1 <|
(.lt (some (.v 11,true)) .id [.v 6] 1 <|
(.lt (some (.v 11,true)) (.bin .geq) [.v 14,.v 15] 1 <|
(.lt (some (.v 8,false)) .pick [.v 11,.v 16,.c (.bool false)] 1 <|
(.lt none .pick [.v 8,.c (.bool true),.v 17] 1 <|
(.ite (.v 18)
(.leaf .ret [.c (.bool false)] ())
(.lt none (.bin .add) [.v 4,.c (.int .i64 1)] 1 <|
(.leaf .cont [.v 19] ()))))))))))))))))))
(.leaf (.yield 1) [] ())))) <|
(.leaf .ret [.c (.bool true)] ())))
def Kbi:Tm Unit :=
(.lt none .len [.v 0] 1 <|
(.bind 1
(.loop [.c (.int .i64 0)]
(.lt none (.bin .lss) [.v 3,.v 2] 1 <|
(.ite (.v 4)
(.lt none .inb [.v 0,.v 3] 0 <|
(.lt none (.row 1 0 [true]) [.v 0,.v 3] 1 <|
(.lt none (.bin .eql) [.v 5,.v 1] 1 <|
(.ite (.v 6)
(.leaf .ret [.c (.bool true)] ())
(.lt none (.bin .add) [.v 3,.c (.int .i64 1)] 1 <|
(.leaf .cont [.v 7] ()))))))
(.leaf (.yield 1) [] ())))) <|
(.leaf .ret [.c (.bool false)] ())))
def Kbh:Tm Unit :=
(.call none 39 [.v 1,.v 2] 2 [] <|
(.lt none .len [.v 3] 1 <|
(.bind 1
(.loop [.c (.int .i64 0),.c (.rows 16 [])]
(.lt none (.bin .lss) [.v 7,.v 6] 1 <|
(.ite (.v 9)
(.lt none .inb [.v 3,.v 7] 0 <|
(.lt none (.row 16 0 [true,true,true,true,true,true,true,true,true,true,false,true,false,true,false,false]) [.v 3,.v 7] 16 <|
(.call none 44 [.v 10,.v 11,.v 12,.v 13,.v 14,.v 15,.v 16,.v 17,.v 18,.v 19,.v 20,.v 21,.v 22,.v 23,.v 24,.v 25] 16 [] <|
(.lt none (.mk 16 1) [.v 26,.v 27,.v 28,.v 29,.v 30,.v 31,.v 32,.v 33,.v 34,.v 35,.v 36,.v 37,.v 38,.v 39,.v 40,.v 41] 1 <|
(.lt none (.app 16 192 false) [.v 8,.v 42] 1 <|
(.lt none (.bin .add) [.v 7,.c (.int .i64 1)] 1 <|
(.leaf .cont [.v 44,.v 43] ())))))))
(.leaf (.yield 1) [.v 8] ())))) <|
(.leaf .ret [.v 0,.v 4,.v 5,.v 7] ()))))
def Kbg:Tm Unit :=
(.call none 40 [.v 0] 2 [] <|
(.lt none .len [.v 1] 1 <|
(.bind 1
(.loop [.c (.int .i64 0),.v 3]
(.lt none (.bin .lss) [.v 5,.v 4] 1 <|
(.ite (.v 7)
(.lt none .inb [.v 1,.v 5] 0 <|
(.lt none (.row 1 0 [false]) [.v 1,.v 5] 1 <|
(.lt none .len [.v 8] 1 <|
(.bind 3
(.loop [.c (.int .i64 0),.v 6]
(.lt none (.bin .lss) [.v 10,.v 9] 1 <|
(.ite (.v 12)
(.lt none .inb [.v 8,.v 10] 0 <|
(.lt none (.row 10 0 [true,true,true,true,true,true,true,true,true,false]) [.v 8,.v 10] 10 <|
(.lt none .inb [.v 11,.v 5] 0 <|
(.lt none (.row 1 0 [false]) [.v 11,.v 5] 1 <|
(.call none 41 [.v 13,.v 14,.v 15,.v 16,.v 17,.v 18,.v 19,.v 20,.v 21,.v 22] 10 [] <|
(.lt none (.mk 10 1) [.v 24,.v 25,.v 26,.v 27,.v 28,.v 29,.v 30,.v 31,.v 32,.v 33] 1 <|
(.lt none (.set 1 0 1) [.v 11,.v 5,.c .hole] 1 <|
(.lt none (.app 10 96 false) [.v 23,.v 34] 1 <|
(.lt none .inb [.v 35,.v 5] 0 <|
(.lt none (.set 1 0 1) [.v 35,.v 5,.v 36] 1 <|
(.lt none (.bin .add) [.v 10,.c (.int .i64 1)] 1 <|
(.leaf .cont [.v 38,.v 37] ()))))))))))))
(.leaf (.yield 3) [.v 11] ())))) <|
(.lt none (.bin .add) [.v 5,.c (.int .i64 1)] 1 <|
(.leaf .cont [.v 11,.v 10] ()))))))
(.leaf (.yield 1) [.v 6] ())))) <|
(.leaf .ret [.v 2,.v 5] ()))))
def Kbf:Tm Unit :=
(.lt none (.make 24 [(.rows 10 [])]) [.v 0] 1 <|
(.leaf .ret [.v 0,.v 1] ()))
def Kbe:Tm Unit :=
(.call none 42 [.v 8,.v 9] 2 [] <|
(.leaf .ret [.v 0,.v 1,.v 2,.v 3,.v 4,.v 5,.v 6,.v 7,.v 10,.v 11] ()))
def Kbd:Tm Unit :=
(.call none 43 [.v 1] 1 [] <|
(.leaf .ret [.v 0,.v 2] ()))
def Kbc:Tm Unit :=
(.lt none (.mk 1 0) [] 1 <|
(.lt none (.app 1 8 true) [.v 1,.v 0] 1 <|
(.leaf .ret [.v 2] ())))
def Kbb:Tm Unit :=
(.call none 42 [.v 9,.v 10] 2 [] <|
(.call none 42 [.v 11,.v 12] 2 [] <|
(.call none 43 [.v 14] 1 [] <|
(.lt none .len [.v 15] 1 <|
(.bind 1
(.loop [.c (.rows 10 []),.c (.int .i64 0)]
(.lt none (.bin .lss) [.v 23,.v 21] 1 <|
(.ite (.v 24)
(.lt none .inb [.v 15,.v 23] 0 <|
(.lt none (.row 10 0 [true,true,true,true,true,true,true,true,true,false]) [.v 15,.v 23] 10 <|
(.call none 41 [.v 25,.v 26,.v 27,.v 28,.v 29,.v 30,.v 31,.v 32,.v 33,.v 34] 10 [] <|
(.lt none (.mk 10 1) [.v 35,.v 36,.v 37,.v 38,.v 39,.v 40,.v 41,.v 42,.v 43,.v 44] 1 <|
(.lt none (.app 10 96 false) [.v 22,.v 45] 1 <|
(.lt none (.bin .add) [.v 23,.c (.int .i64 1)] 1 <|
(.leaf .cont [.v 46,.v 47] ())))))))
(.leaf (.yield 1) [.v 22] ())))) <|
(.leaf .ret [.v 0,.v 1,.v 2,.v 3,.v 4,.v 5,.v 6,.v 7,.v 8,.v 16,.v 17,.v 18,.v 19,.v 13,.v 20,.v 22] ()))))))
def Kba:Tm Unit :=
(.call none 26 [.v 0] 2 [] <|
(.lt none .len [.v 1] 1 <|
(.bind 1
(.loop [.c (.int .i64 0),.v 9,.v 10]
(.lt none (.bin .lss) [.v 12,.v 11] 1 <|
(.ite (.v 15)
(.lt none .inb [.v 1,.v 12] 0 <|
(.lt none (.row 1 0 [false]) [.v 1,.v 12] 1 <|
(.lt none .len [.v 16] 1 <|
(.bind 3
(.loop [.c (.int .i64 0),.v 13,.v 14]
(.lt none (.bin .lss) [.v 18,.v 17] 1 <|
(.ite (.v 21)
(.bind 4
(.lt none .inb [.v 16,.v 18] 0 <|
(.lt none (.row 10 0 [true,true,true,true,true,true,true,true,true,false]) [.v 16,.v 18] 10 <|
(.lt none (.bin .eql) [.v 24,.c (.int .i64 0)] 1 <|
(.call (some (.v 32,false)) 46 [.v 2,.v 3,.v 4,.v 5,.v 6,.v 25,.v 26,.v 27,.v 28,.v 29] 1 [] <|
(.lt (some (.v 32,false)) .not [.v 33] 1 <|
(.lt none .pick [.v 32,.c (.bool true),.v 34] 1 <|
(.lt (some (.v 35,false)) .id [.v 12] 1 <|
(.lt (some (.v 35,false)) .id [.v 7] 1 <|
(.lt (some (.v 35,false)) (.bin .eql) [.v 36,.v 37] 1 <|
(.lt (some (.v 35,false)) .id [.v 38] 1 <|
(.lt (some (.v 39,true)) .id [.v 18] 1 <|
(.lt (some (.v 39,true)) (.bin .add) [.v 40,.c (.int .i64 1)] 1 <|
(.lt (some (.v 39,true)) .id [.v 8] 1 <|
(.lt (some (.v 39,true)) (.bin .eql) [.v 41,.v 42] 1 <|
(.lt (some (.v 35,false)) .pick [.v 39,.v 43,.c (.bool false)] 1 <|
(.lt none .pick [.v 35,.c (.bool true),.v 44] 1 <|
(.ite (.v 45)
(.leaf (.yield 4) [.c .undef,.c .undef,.c .undef,.c .undef,.c .undef,.c .undef,.c .undef,.c .undef,.c .undef,.c .undef,.c .undef,.v 19,.v 20] ())
(.lt none (.bin .add) [.v 18,.c (.int .i64 1)] 1 <|
(.lt none .inb [.v 20,.v 12] 0 <|
(.lt none (.set 1 0 1) [.v 20,.v 12,.v 46] 1 <|
(.call none 49 [.v 19,.v 30] 1 [] <|
(.leaf (.yield 4) [.c .undef,.c .undef,.c .undef,.c .undef,.c .undef,.c .undef,.c .undef,.c .undef,.c .undef,.c .undef,.c .undef,.v 48,.v 47] ())))))))))))))))))))))) <|
(.lt none (.bin .add) [.v 18,.c (.int .i64 1)] 1 <|
(.leaf .cont [.v 35,.v 33,.v 34] ())))
(.leaf (.yield 3) [.v 19,.v 20] ())))) <|
(.lt none (.bin .add) [.v 12,.c (.int .i64 1)] 1 <|
(.leaf .cont [.v 20,.v 18,.v 19] ()))))))
(.leaf (.yield 1) [.v 13,.v 14] ())))) <|
(.lt none (.bin .add) [.v 12,.c (.int .i64 1)] 1 <|
(.leaf .ret [.v 14,.v 13] ())))))
def Jb9:Tm Unit :=
(.call none 47 [.v 0,.v 1,.v 2,.v 3,.v 4] 1 [] <|
(.lt none .len [.v 10] 1 <|
(.bind 1
(.loop [.c (.int .i64 0)]
(.lt none (.bin .lss) [.v 12,.v 11] 1 <|
(.ite (.v 13)
(.lt none .inb [.v 10,.v 12] 0 <|
(.lt none (.row 1 0 [true]) [.v 10,.v 12] 1 <|
(.call none 47 [.v 5,.v 6,.v 7,.v 8,.v 9] 1 [] <|
(.call none 37 [.v 15,.v 14] 1 [] <|
(.ite (.v 16)
(.leaf .ret [.c (.bool true)] ())
(.lt none (.bin .add) [.v 12,.c (.int .i64 1)] 1 <|
(.leaf .cont [.v 17] ())))))))
(.leaf (.yield 1) [] ())))) <|
(.leaf .ret [.c (.bool false)] ()))))
def Jb8:Tm Unit :=
(.lt none (.bin .eql) [.v 0,.c (.int .i64 1)] 1 <|
(.ite (.v 5)
(.lt none (.mk 1 1) [.v 2] 1 <|
(.call none 48 [.v 6,.v 3] 1 [] <|
(.leaf .ret [.v 7] ())))
(.lt none (.bin .eql) [.v 0,.c (.int .i64 2)] 1 <|
(.ite (.v 6)
(.lt none (.mk 1 1) [.v 2] 1 <|
(.leaf .ret [.v 7] ()))
(.leaf .ret [.c (.rows 1 [])] ())))))
def Jb7:Tm Unit :=
(.bind 1
(.loop [.c (.int .i64 0)]
(.lt none .len [.v 0] 1 <|
(.lt none (.bin .lss) [.v 2,.v 3] 1 <|
(.lt (some (.v 4,true)) .id [.v 2] 1 <|
(.lt (some (.v 4,true)) .inb [.v 0,.v 5] 0 <|
(.lt (some (.v 4,true)) (.row 1 0 [true]) [.v 0,.v 5] 1 <|
(.lt (some (.v 4,true)) .id [.v 1] 1 <|
(.lt (some (.v 4,true)) (.bin .lss) [.v 6,.v 7] 1 <|
(.lt none .pick [.v 4,.v 8,.c (.bool false)] 1 <|
(.ite (.v 9)
(.lt none (.bin .add) [.v 2,.c (.int .i64 1)] 1 <|
(.leaf .cont [.v 10] ()))
(.leaf (.yield 1) [.v 2] ()))))))))))) <|
(.lt none .len [.v 0] 1 <|
(.lt none (.bin .lss) [.v 2,.v 3] 1 <|
(.lt (some (.v 4,true)) .id [.v 2] 1 <|
(.lt (some (.v 4,true)) .inb [.v 0,.v 5] 0 <|
(.lt (some (.v 4,true)) (.row 1 0 [true]) [.v 0,.v 5] 1 <|
(.lt (some (.v 4,true)) .id [.v 1] 1 <|
(.lt (some (.v 4,true)) (.bin .eql) [.v 6,.v 7] 1 <|
(.lt none .pick [.v 4,.v 8,.c (.bool false)] 1 <|
(.ite (.v 9)
(.leaf .ret [.v 0] ())
(.lt none (.mk 1 0) [] 1 <|
(.lt none (.sub 1 false) [.v 0,.c (.int .i64 0),.v 2] 1 <|
(.lt none (.app 1 8 true) [.v 10,.v 11] 1 <|
(.lt none (.mk 1 1) [.v 1] 1 <|
(.lt none (.app 1 8 true) [.v 12,.v 13] 1 <|
(.lt none .len [.v 0] 1 <|
(.lt none (.sub 1 false) [.v 0,.v 2,.v 15] 1 <|
(.lt none (.app 1 8 true) [.v 14,.v 16] 1 <|
(.leaf .ret [.v 17] ())))))))))))))))))))
def Jb6:Tm Unit :=
(.lt none (.bin .gtr) [.v 0,.v 1] 1 <|
(.ite (.v 2)
(.leaf .ret [.v 0] ())
(.leaf .ret [.v 1] ())))
def Jb5:Tm Unit :=
(.call none 51 [.v 0,.v 1,.v 2,.v 2,.c (.int .i64 1),.v 3,.v 4,.v 5,.v 6,.v 7,.v 8,.v 9,.v 10,.v 11,.v 12,.v 13,.v 14,.v 15] 6 [] <|
(.lt none (.mk 1 1) [.v 16] 1 <|
(.call none 53 [.v 0,.v 1,.v 2,.c (.int .i64 1),.v 3,.v 4,.v 5,.v 6,.v 7,.v 8,.v 9,.v 8,.v 9,.c (.bool true),.v 22,.c (.rows 10 []),.v 16,.v 17,.v 18,.v 19,.v 20,.v 21] 6 [] <|
(.lt none (.dep 99) [.v 27] 0 <|
(.call none 55 [.c (.int .i64 1),.c (.int .i64 0),.c (.int .i64 0),.v 0,.v 1,.v 2,.c (.int .i64 0),.c (.int .i64 0),.v 3,.v 4,.v 5,.v 6,.v 7,.v 8,.v 9,.v 23,.v 24,.v 25,.v 26,.v 27,.v 28] 6 [] <|
(.lt none (.dep 99) [.v 33] 0 <|
(.leaf .ret [.v 29,.v 30,.v 31,.v 32,.v 33,.v 34] ())))))))
def Jb4:Tm Unit :=
(.lt (some (.v 17,true)) .id [.v 13] 1 <|
(.call (some (.v 17,true)) 24 [.v 18,.v 2,.v 3,.v 4,.v 5,.v 6,.v 7,.v 8,.v 9,.v 10,.v 11] 1 [] <|
(.lt none .pick [.v 17,.v 19,.c (.bool false)] 1 <|
(.call none 52 [.v 13,.v 14,.v 0,.v 1,.v 2,.v 3,.v 4,.v 5,.v 6,.v 7,.v 8,.v 9,.v 10,.v 11] 2 [] <|
(.leaf .ret [.v 12,.v 21,.v 22,.v 15,.v 16,.v 20] ())))))
def Jb3:Tm Unit :=
(.call none 39 [.v 0,.v 1] 2 [] <|
(.bind 1
(.loop [.v 15]
(.lt none .inb [.v 16,.v 2] 0 <|
(.lt none (.row 1 0 [false]) [.v 16,.v 2] 1 <|
(.lt none .len [.v 17] 1 <|
(.lt none (.bin .lss) [.v 18,.v 3] 1 <|
(.ite (.v 19)
(.lt none .inb [.v 16,.v 2] 0 <|
(.lt none (.row 1 0 [false]) [.v 16,.v 2] 1 <|
(.call none 26 [.v 0] 2 [] <|
(.lt none (.mk 10 1) [.c (.int .i64 0),.c (.int .i64 0),.c (.int .i64 0),.c (.int .i64 0),.c (.int .i64 0),.c (.int .i64 0),.c (.int .i64 0),.c (.int .i64 0),.v 21,.v 22] 1 <|
(.lt none (.set 1 0 1) [.v 16,.v 2,.c .hole] 1 <|
(.lt none (.app 10 96 false) [.v 20,.v 23] 1 <|
(.lt none .inb [.v 24,.v 2] 0 <|
(.lt none (.set 1 0 1) [.v 24,.v 2,.v 25] 1 <|
(.leaf .cont [.v 26] ())))))))))
(.leaf (.yield 1) [.v 16] ()))))))) <|
(.lt none .inb [.v 16,.v 2] 0 <|
(.lt none (.row 1 0 [false]) [.v 16,.v 2] 1 <|
(.lt none (.bin .sub) [.v 3,.c (.int .i64 1)] 1 <|
(.call none 41 [.v 4,.v 5,.v 6,.v 7,.v 8,.v 9,.v 10,.v 11,.v 12,.v 13] 10 [] <|
(.lt none .inb [.v 17,.v 18] 0 <|
(.lt none (.set 10 0 10) [.v 17,.v 18,.v 19,.v 20,.v 21,.v 22,.v 23,.v 24,.v 25,.v 26,.v 27,.v 28] 1 <|
(.lt none (.set 1 0 1) [.v 16,.v 2,.v 29] 1 <|
(.leaf .ret [.v 14,.v 30] ()))))))))))
def Jb2:Tm Unit :=
(.call none 54 [.v 0,.v 1,.v 16,.v 17,.v 18,.v 19,.v 20,.v 21] 6 [] <|
(.bind 1
(.loop [.c (.int .i64 0)]
(.lt none .len [.v 25] 1 <|
(.lt none (.bin .lss) [.v 28,.v 29] 1 <|
(.lt (some (.v 30,true)) .id [.v 28] 1 <|
(.lt (some (.v 30,true)) .inb [.v 25,.v 31] 0 <|
(.lt (some (.v 30,true)) (.row 16 0 [true]) [.v 25,.v 31] 1 <|
(.lt (some (.v 30,true)) .id [.v 0] 1 <|
(.lt (some (.v 30,true)) (.bin .lss) [.v 32,.v 33] 1 <|
(.lt (some (.v 30,true)) .id [.v 34] 1 <|
(.lt (some (.v 35,false)) .id [.v 28] 1 <|
(.lt (some (.v 35,false)) .inb [.v 25,.v 36] 0 <|
(.lt (some (.v 35,false)) (.row 16 0 [true]) [.v 25,.v 36] 1 <|
(.lt (some (.v 35,false)) .id [.v 0] 1 <|
(.lt (some (.v 35,false)) (.bin .eql) [.v 37,.v 38] 1 <|
(.lt (some (.v 35,false)) .id [.v 39] 1 <|
(.lt (some (.v 40,true)) .id [.v 28] 1 <|
(.lt (some (.v 40,true)) .inb [.v 25,.v 41] 0 <|
(.lt (some (.v 40,true)) (.row 16 1 [true]) [.v 25,.v 41] 1 <|
(.lt (some (.v 40,true)) .id [.v 1] 1 <|
(.lt (some (.v 40,true)) (.bin .lss) [.v 42,.v 43] 1 <|
(.lt (some (.v 35,false)) .pick [.v 40,.v 44,.c (.bool false)] 1 <|
(.lt (some (.v 30,true)) .pick [.v 35,.c (.bool true),.v 45] 1 <|
(.lt none .pick [.v 30,.v 46,.c (.bool false)] 1 <|
(.ite (.v 47)
(.lt none (.bin .add) [.v 28,.c (.int .i64 1)] 1 <|
(.leaf .cont [.v 48] ()))
(.leaf (.yield 1) [.v 28] ()))))))))))))))))))))))))) <|
(.lt none (.mk 16 0) [] 1 <|
(.lt none .len [.v 25] 1 <|
(.lt none (.sub 16 false) [.v 25,.v 28,.v 30] 1 <|
(.lt none (.app 16 192 false) [.v 29,.v 31] 1 <|
(.lt none (.mk 16 0) [] 1 <|
(.lt none (.sub 16 false) [.v 25,.c (.int .i64 0),.v 28] 1 <|
(.lt none (.app 16 192 false) [.v 33,.v 34] 1 <|
(.call none 44 [.v 0,.v 1,.v 2,.v 3,.v 4,.v 5,.v 6,.v 7,.v 8,.v 9,.v 10,.v 11,.v 12,.v 13,.v 14,.v 15] 16 [] <|
(.lt none (.mk 16 1) [.v 36,.v 37,.v 38,.v 39,.v 40,.v 41,.v 42,.v 43,.v 44,.v 45,.v 46,.v 47,.v 48,.v 49,.v 50,.v 51] 1 <|
(.lt none (.app 16 192 false) [.v 35,.v 52] 1 <|
(.lt none (.app 16 192 false) [.v 53,.v 32] 1 <|
(.leaf .ret [.v 22,.v 23,.v 24,.v 54,.v 26,.v 27] ()))))))))))))))
def Jb1:Tm Unit :=
(.lt none .len [.v 5] 1 <|
(.bind 1
(.loop [.c (.rows 16 []),.c (.int .i64 0)]
(.lt none (.bin .lss) [.v 10,.v 8] 1 <|
(.ite (.v 11)
(.bind 0
(.lt none .inb [.v 5,.v 10] 0 <|
(.lt none (.row 16 0 [true,true,true,true,true,true,true,true,true,true,false,true,false,true,false,false]) [.v 5,.v 10] 16 <|
(.lt none (.bin .neq) [.v 12,.v 0] 1 <|
(.lt (some (.v 28,false)) .id [.v 13] 1 <|
(.lt (some (.v 28,false)) .id [.v 1] 1 <|
(.lt (some (.v 28,false)) (.bin .neq) [.v 29,.v 30] 1 <|
(.lt none .pick [.v 28,.c (.bool true),.v 31] 1 <|
(.ite (.v 32)
(.lt none (.mk 16 1) [.v 12,.v 13,.v 14,.v 15,.v 16,.v 17,.v 18,.v 19,.v 20,.v 21,.v 22,.v 23,.v 24,.v 25,.v 26,.v 27] 1 <|
(.lt none (.app 16 192 false) [.v 9,.v 33] 1 <|
(.leaf (.yield 0) [.v 34,.c .undef,.c .undef,.c .undef] ())))
(.leaf (.yield 0) [.v 9,.c .undef,.c .undef,.c .undef] ()))))))))) <|
(.lt none (.bin .add) [.v 10,.c (.int .i64 1)] 1 <|
(.leaf .cont [.v 12,.v 16] ())))
(.leaf (.yield 1) [.v 9] ())))) <|
(.leaf .ret [.v 2,.v 3,.v 4,.v 9,.v 6,.v 7] ())))
def Jb0:Tm Unit :=
(.bind 1
(.loop [.c (.int .i64 0),.v 15,.v 16,.v 17,.v 18,.v 19,.v 20]
(.lt none (.bin .lss) [.v 21,.v 23] 1 <|
(.ite (.v 28)
(.bind 0
(.lt none (.bin .neq) [.v 21,.v 22] 1 <|
(.ite (.v 29)
(.call none 56 [.v 21,.v 0,.v 1,.v 2,.v 3,.v 4,.v 5,.v 6,.v 7,.v 8,.v 9,.v 10,.v 11,.v 12,.v 13,.v 14,.v 22,.v 23,.v 24,.v 25,.v 26,.v 27] 6 [] <|
(.leaf (.yield 0) [.v 30,.v 31,.v 32,.v 33,.v 34,.v 35] ()))
(.leaf (.yield 0) [.v 22,.v 23,.v 24,.v 25,.v 26,.v 27] ()))) <|
(.lt none (.bin .add) [.v 21,.c (.int .i64 1)] 1 <|
(.leaf .cont [.v 35,.v 29,.v 30,.v 31,.v 32,.v 33,.v 34] ())))
(.leaf (.yield 1) [.v 22,.v 23,.v 24,.v 25,.v 26,.v 27] ())))) <|
(.leaf .ret [.v 21,.v 22,.v 23,.v 24,.v 25,.v 26] ()))
def Jbz:Tm Unit :=
(.bind 0
(.lt none .len [.v 15] 1 <|
(.lt none (.bin .eql) [.v 22,.c (.int .i64 0)] 1 <|
(.ite (.v 23)
(.call none 26 [.v 17] 2 [] <|
(.leaf (.yield 0) [.v 24,.v 25] ()))
(.leaf (.yield 0) [.v 14,.v 15] ())))) <|
(.call none 42 [.v 22,.v 23] 2 [] <|
(.lt none (.mk 15 1) [.v 1,.v 16,.v 0,.v 4,.v 5,.v 6,.v 7,.v 8,.v 9,.v 10,.v 11,.v 12,.v 13,.v 24,.v 25] 1 <|
(.lt none (.app 15 136 false) [.v 20,.v 26] 1 <|
(.leaf .ret [.v 16,.v 17,.v 18,.v 19,.v 27,.v 21] ())))))
def Fbn:Tm Unit :=
(.lt none .not [.v 5] 1 <|
(.call (some (.v 6,false)) 21 [.v 0,.v 1,.v 2,.v 3] 1 [] <|
(.lt (some (.v 6,false)) .not [.v 7] 1 <|
(.lt none .pick [.v 6,.c (.bool true),.v 8] 1 <|
(.ite (.v 9)
(.leaf .ret [.c (.int .i64 0),.c (.int .i64 0),.c (.rows 1 []),.c (.rows 16 []),.c (.rows 15 []),.c (.bool false)] ())
(.leaf .ret [.v 0,.v 1,.v 2,.v 3,.v 4,.c (.bool true)] ()))))))
def Jby:Tm Unit :=
(.call none 59 [.v 0,.v 1,.v 2,.v 3] 1 [] <|
(.lt none .not [.v 9] 1 <|
(.call (some (.v 10,false)) 70 [.v 4,.v 5,.v 6,.v 7,.v 8] 1 [] <|
(.lt (some (.v 10,false)) .not [.v 11] 1 <|
(.lt none .pick [.v 10,.c (.bool true),.v 12] 1 <|
(.lt (some (.v 13,false)) .id [.v 4] 1 <|
(.lt (some (.v 13,false)) (.bin .eql) [.v 14,.c (.int .i64 0)] 1 <|
(.lt none .pick [.v 13,.c (.bool true),.v 15] 1 <|
(.lt (some (.v 16,false)) .id [.v 0] 1 <|
(.lt (some (.v 16,false)) .inb [.v 2,.v 17] 0 <|
(.lt (some (.v 16,false)) (.row 1 0 [false]) [.v 2,.v 17] 1 <|
(.lt (some (.v 16,false)) .len [.v 18] 1 <|
(.lt (some (.v 16,false)) (.bin .geq) [.v 19,.c (.int .i64 6)] 1 <|
(.lt none .pick [.v 16,.c (.bool true),.v 20] 1 <|
(.ite (.v 21)
(.leaf .ret [.c (.int .i64 0),.c (.int .i64 0),.c (.rows 1 []),.c (.rows 16 []),.c (.rows 15 []),.c (.bool false)] ())
(.call none 94 [.v 0,.v 1,.v 2,.v 3] 6 [] <|
(.lt none .inb [.v 2,.v 0] 0 <|
(.lt none (.row 1 0 [false]) [.v 2,.v 0] 1 <|
(.lt none .len [.v 28] 1 <|
(.lt none (.bin .add) [.v 29,.c (.int .i64 1)] 1 <|
(.call none 102 [.v 23,.v 24,.v 4,.v 5,.v 6,.v 7,.v 8,.v 0,.v 30] 3 [] <|
(.lt none (.dep 99) [.v 32] 0 <|
(.lt none .not [.v 33] 1 <|
(.ite (.v 34)
(.leaf .ret [.c (.int .i64 0),.c (.int .i64 0),.c (.rows 1 []),.c (.rows 16 []),.c (.rows 15 []),.c (.bool false)] ())
(.call none 110 [.v 0,.v 30,.c (.int .i64 0),.v 4,.v 5,.v 6,.v 7,.v 8,.v 31,.v 32,.v 22,.v 23,.v 24,.v 25,.v 26,.v 27] 6 [] <|
(.lt none (.dep 99) [.v 37] 0 <|
(.lt none (.dep 99) [.v 38] 0 <|
(.lt none (.dep 99) [.v 39] 0 <|
(.call none 122 [.v 35,.v 36,.v 37,.v 38,.v 39,.v 40] 12 [] <|
(.leaf .ret [.v 41,.v 42,.v 43,.v 44,.v 45,.v 46] ()))))))))))))))))))))))))))))))
def Jbx:Tm Unit :=
(.call none 60 [.v 1,.v 2] 1 [] <|
(.lt none .not [.v 4] 1 <|
(.lt (some (.v 5,false)) .id [.v 0] 1 <|
(.lt (some (.v 5,false)) .id [.v 1] 1 <|
(.lt (some (.v 5,false)) (.bin .sub) [.v 7,.c (.int .i64 1)] 1 <|
(.call (some (.v 5,false)) 69 [.v 6,.c (.int .i64 0),.v 8] 1 [] <|
(.lt (some (.v 5,false)) .not [.v 9] 1 <|
(.lt none .pick [.v 5,.c (.bool true),.v 10] 1 <|
(.ite (.v 11)
(.leaf .ret [.c (.bool false)] ())
(.lt none .len [.v 3] 1 <|
(.bind 1
(.loop [.c (.int .i64 0)]
(.lt none (.bin .lss) [.v 13,.v 12] 1 <|
(.ite (.v 14)
(.lt none .inb [.v 3,.v 13] 0 <|
(.lt none (.row 16 0 [true,true,true,true,true,true,true,true,true,true,false,true,false,true,false,false]) [.v 3,.v 13] 16 <|
(.call none 79 [.v 1,.v 0,.v 15,.v 16,.v 17,.v 18,.v 19,.v 20,.v 21,.v 22,.v 23,.v 24,.v 25,.v 26,.v 27,.v 28,.v 29,.v 30] 1 [] <|
(.lt none .not [.v 31] 1 <|
(.lt (some (.v 32,false)) .id [.v 13] 1 <|
(.lt (some (.v 32,false)) (.bin .gtr) [.v 33,.c (.int .i64 0)] 1 <|
(.lt (some (.v 32,false)) .id [.v 34] 1 <|
(.lt (some (.v 35,true)) .id [.v 15] 1 <|
(.lt (some (.v 35,true)) .id [.v 16] 1 <|
(.lt (some (.v 35,true)) (.mk 1 2) [.v 36,.v 37] 1 <|
(.lt (some (.v 35,true)) .id [.v 13] 1 <|
(.lt (some (.v 35,true)) (.bin .sub) [.v 39,.c (.int .i64 1)] 1 <|
(.lt (some (.v 35,true)) .inb [.v 3,.v 40] 0 <|
(.lt (some (.v 35,true)) (.row 16 0 [true]) [.v 3,.v 40] 1 <|
(.lt (some (.v 35,true)) .id [.v 13] 1 <|
(.lt (some (.v 35,true)) (.bin .sub) [.v 42,.c (.int .i64 1)] 1 <|
(.lt (some (.v 35,true)) .inb [.v 3,.v 43] 0 <|
(.lt (some (.v 35,true)) (.row 16 1 [true]) [.v 3,.v 43] 1 <|
(.lt (some (.v 35,true)) (.mk 1 2) [.v 41,.v 44] 1 <|
(.call (some (.v 35,true)) 91 [.v 38,.v 45] 1 [] <|
(.lt (some (.v 35,true)) (.bin .leq) [.v 46,.c (.int .i64 0)] 1 <|
(.lt (some (.v 32,false)) .pick [.v 35,.v 47,.c (.bool false)] 1 <|
(.lt none .pick [.v 32,.c (.bool true),.v 48] 1 <|
(.ite (.v 49)
(.leaf .ret [.c (.bool false)] ())
(.lt none (.bin .add) [.v 13,.c (.int .i64 1)] 1 <|
(.leaf .cont [.v 50] ()))))))))))))))))))))))))))
(.leaf (.yield 1) [] ())))) <|
(.leaf .ret [.c (.bool true)] ()))))))))))))
def Jbw:Tm Unit :=
(.call none 61 [.v 0] 1 [] <|
(.lt (some (.v 2,true)) .len [.v 1] 1 <|
(.lt (some (.v 2,true)) .id [.v 0] 1 <|
(.lt (some (.v 2,true)) (.bin .eql) [.v 3,.v 4] 1 <|
(.lt none .pick [.v 2,.v 5,.c (.bool false)] 1 <|
(.call (some (.v 6,true)) 62 [.v 1,.v 0,.v 1] 1 [] <|
(.lt (some (.v 6,true)) .not [.v 7] 1 <|
(.lt none .pick [.v 6,.v 8,.c (.bool false)] 1 <|
(.leaf .ret [.v 9] ())))))))))
def Jbv:Tm Unit :=
(.lt none (.bin .eql) [.v 0,.c (.int .i64 3)] 1 <|
(.lt (some (.v 1,false)) .id [.v 0] 1 <|
(.lt (some (.v 1,false)) (.bin .eql) [.v 2,.c (.int .i64 5)] 1 <|
(.lt none .pick [.v 1,.c (.bool true),.v 3] 1 <|
(.leaf .ret [.v 4] ())))))
def Jbu:Tm Unit :=
(.call none 63 [.v 0,.v 1,.v 2] 1 [] <|
(.lt none (.bin .geq) [.v 3,.c (.int .i64 0)] 1 <|
(.leaf .ret [.v 4] ())))
def Jbt:Tm Unit :=
(.lt none .len [.v 0] 1 <|
(.bind 1
(.loop [.c (.int .i64 0)]
(.lt none (.bin .lss) [.v 4,.v 3] 1 <|
(.ite (.v 5)
(.lt none .inb [.v 0,.v 4] 0 <|
(.lt none (.row 1 0 [false]) [.v 0,.v 4] 1 <|
(.call none 64 [.v 6,.v 1,.v 2] 1 [] <|
(.ite (.v 7)
(.leaf .ret [.v 4] ())
(.lt none (.bin .add) [.v 4,.c (.int .i64 1)] 1 <|
(.leaf .cont [.v 8] ()))))))
(.leaf (.yield 1) [] ())))) <|
(.leaf .ret [.c (.int .i64 (-1))] ())))
def Jbs:Tm Unit :=
(.lt none .len [.v 0] 1 <|
(.lt none (.bin .gtr) [.v 3,.c (.int .i64 6)] 1 <|
(.call (some (.v 4,false)) 65 [.v 0,.v 1,.v 2] 1 [] <|
(.lt none .pick [.v 4,.c (.bool true),.v 5] 1 <|
(.leaf .ret [.v 6] ())))))
def Jbr:Tm Unit :=
(.call none 66 [.v 0,.v 1,.v 2] 1 [] <|
(.lt none (.bin .geq) [.v 3,.c (.int .i64 0)] 1 <|
(.leaf .ret [.v 4] ())))
def Jbq:Tm Unit :=
(.lt none .len [.v 0] 1 <|
(.bind 1
(.loop [.c (.int .i64 0)]
(.lt none (.bin .lss) [.v 4,.v 3] 1 <|
(.ite (.v 5)
(.lt none .inb [.v 0,.v 4] 0 <|
(.lt none (.row 10 0 [true,true,true,true,true,true,true,true,true,false]) [.v 0,.v 4] 10 <|
(.call none 67 [.v 6,.v 7,.v 8,.v 9,.v 10,.v 11,.v 12,.v 13,.v 14,.v 15,.v 1,.v 2] 1 [] <|
(.ite (.v 16)
(.leaf .ret [.v 4] ())
(.lt none (.bin .add) [.v 4,.c (.int .i64 1)] 1 <|
(.leaf .cont [.v 17] ()))))))
(.leaf (.yield 1) [] ())))) <|
(.leaf .ret [.c (.int .i64 (-1))] ())))
def Jbp:Tm Unit :=
(.call none 68 [.v 10,.v 0,.v 1,.v 2,.v 3,.v 4,.v 5,.v 6,.v 7,.v 8,.v 9] 1 [] <|
(.lt none .not [.v 12] 1 <|
(.leaf .ret [.v 13] ())))
def Jbo:Tm Unit :=
(.call none 69 [.v 1,.c (.int .i64 0),.c (.int .i64 9999)] 1 [] <|
(.lt none .not [.v 11] 1 <|
(.lt (some (.v 12,false)) .id [.v 2] 1 <|
(.lt (some (.v 12,false)) .id [.v 1] 1 <|
(.call (some (.v 12,false)) 69 [.v 13,.c (.int .i64 0),.v 14] 1 [] <|
(.lt (some (.v 12,false)) .not [.v 15] 1 <|
(.lt none .pick [.v 12,.c (.bool true),.v 16] 1 <|
(.lt (some (.v 17,false)) .id [.v 3] 1 <|
(.call (some (.v 17,false)) 69 [.v 18,.c (.int .i64 0),.c (.int .i64 3)] 1 [] <|
(.lt (some (.v 17,false)) .not [.v 19] 1 <|
(.lt none .pick [.v 17,.c (.bool true),.v 20] 1 <|
(.call (some (.v 21,false)) 70 [.v 4,.v 5,.v 6,.v 7,.v 8] 1 [] <|
(.lt (some (.v 21,false)) .not [.v 22] 1 <|
(.lt none .pick [.v 21,.c (.bool true),.v 23] 1 <|
(.lt (some (.v 24,false)) .id [.v 0] 1 <|
(.call (some (.v 24,false)) 72 [.v 25,.v 9,.v 10] 1 [] <|
(.lt (some (.v 24,false)) .not [.v 26] 1 <|
(.lt none .pick [.v 24,.c (.bool true),.v 27] 1 <|
(.ite (.v 28)
(.leaf .ret [.c (.bool false)] ())
(.lt none (.bin .neq) [.v 3,.c (.int .i64 0)] 1 <|
(.lt (some (.v 29,false)) .id [.v 2] 1 <|
(.lt (some (.v 29,false)) (.bin .eql) [.v 30,.c (.int .i64 0)] 1 <|
(.lt (some (.v 29,false)) .id [.v 31] 1 <|
(.lt (some (.v 32,true)) (.eqs [0,0,0,0,0]) [.v 4,.v 5,.v 6,.v 7,.v 8,.c (.int .i64 0),.c (.int .i64 0),.c (.int .i64 0),.c (.int .i64 0),.c (.int .i64 0)] 1 <|
(.lt (some (.v 29,false)) .pick [.v 32,.v 33,.c (.bool false)] 1 <|
(.lt (some (.v 29,false)) .id [.v 34] 1 <|
(.lt (some (.v 35,true)) .id [.v 0] 1 <|
(.call (some (.v 35,true)) 76 [.v 36] 2 [] <|
(.call (some (.v 35,true)) 77 [.v 9,.v 10,.v 37,.v 38] 1 [] <|
(.lt (some (.v 29,false)) .pick [.v 35,.v 39,.c (.bool false)] 1 <|
(.lt none .pick [.v 29,.c (.bool true),.v 40] 1 <|
(.leaf .ret [.v 41] ()))))))))))))))))))))))))))))))))
def Jbn:Tm Unit :=
(.lt none (.bin .leq) [.v 1,.v 0] 1 <|
(.lt (some (.v 3,true)) .id [.v 0] 1 <|
(.lt (some (.v 3,true)) .id [.v 2] 1 <|
(.lt (some (.v 3,true)) (.bin .leq) [.v 4,.v 5] 1 <|
(.lt none .pick [.v 3,.v 6,.c (.bool false)] 1 <|
(.leaf .ret [.v 7] ()))))))
def Jbm:Tm Unit :=
(.lt none (.bin .eql) [.v 0,.c (.int .i64 0)] 1 <|
(.ite (.v 5)
(.lt none (.eqs [0,0,0,0,0]) [.v 0,.v 1,.v 2,.v 3,.v 4,.c (.int .i64 0),.c (.int .i64 0),.c (.int .i64 0),.c (.int .i64 0),.c (.int .i64 0)] 1 <|
(.leaf .ret [.v 6] ()))
(.lt none (.bin .eql) [.v 0,.c (.int .i64 1)] 1 <|
(.ite (.v 6)
(.call none 69 [.v 1,.c (.int .i64 1),.c (.int .i64 999)] 1 [] <|
(.lt (some (.v 7,true)) .id [.v 2] 1 <|
(.call (some (.v 7,true)) 71 [.v 8] 1 [] <|
(.lt none .pick [.v 7,.v 9,.c (.bool false)] 1 <|
(.lt (some (.v 10,true)) .id [.v 3] 1 <|
(.call (some (.v 10,true)) 71 [.v 11] 1 [] <|
(.lt none .pick [.v 10,.v 12,.c (.bool false)] 1 <|
(.lt (some (.v 13,true)) .id [.v 2] 1 <|
(.lt (some (.v 13,true)) .id [.v 3] 1 <|
(.lt (some (.v 13,true)) (.bin .neq) [.v 14,.v 15] 1 <|
(.lt none .pick [.v 13,.v 16,.c (.bool false)] 1 <|
(.lt (some (.v 17,true)) .id [.v 4] 1 <|
(.call (some (.v 17,true)) 69 [.v 18,.c (.int .i64 1),.c (.int .i64 1000)] 1 [] <|
(.lt none .pick [.v 17,.v 19,.c (.bool false)] 1 <|
(.leaf .ret [.v 20] ())))))))))))))))
(.lt none (.bin .eql) [.v 0,.c (.int .i64 2)] 1 <|
(.lt (some (.v 7,true)) .id [.v 1] 1 <|
(.call (some (.v 7,true)) 69 [.v 8,.c (.int .i64 1),.c (.int .i64 999)] 1 [] <|
(.lt none .pick [.v 7,.v 9,.c (.bool false)] 1 <|
(.lt (some (.v 10,true)) .id [.v 2] 1 <|
(.call (some (.v 10,true)) 71 [.v 11] 1 [] <|
(.lt none .pick [.v 10,.v 12,.c (.bool false)] 1 <|
(.lt (some (.v 13,true)) .id [.v 3] 1 <|
(.lt (some (.v 13,true)) (.bin .eql) [.v 14,.c (.int .i64 0)] 1 <|
(.lt none .pick [.v 13,.v 15,.c (.bool false)] 1 <|
(.lt (some (.v 16,true)) .id [.v 4] 1 <|
(.lt (some (.v 16,true)) (.bin .eql) [.v 17,.c (.int .i64 0)] 1 <|
(.lt none .pick [.v 16,.v 18,.c (.bool false)] 1 <|
(.leaf .ret [.v 19] ()))))))))))))))))))
def Jbl:Tm Unit :=
(.call none 69 [.v 0,.c (.int .i64 0),.c (.int .i64 3)] 1 [] <|
(.leaf .ret [.v 1] ()))
def Jbk:Tm Unit :=
(.call none 61 [.v 0] 1 [] <|
(.lt (some (.v 3,true)) .id [.v 1] 1 <|
(.call (some (.v 3,true)) 69 [.v 4,.c (.int .i64 0),.c (.int .i64 999)] 1 [] <|
(.lt none .pick [.v 3,.v 5,.c (.bool false)] 1 <|
(.lt (some (.v 6,true)) .len [.v 2] 1 <|
(.lt (some (.v 6,true)) .id [.v 0] 1 <|
(.lt (some (.v 6,true)) (.bin .eql) [.v 7,.v 8] 1 <|
(.lt none .pick [.v 6,.v 9,.c (.bool false)] 1 <|
(.call (some (.v 10,true)) 73 [.v 2] 1 [] <|
(.lt (some (.v 10,true)) .not [.v 11] 1 <|
(.lt none .pick [.v 10,.v 12,.c (.bool false)] 1 <|
(.leaf .ret [.v 13] ()))))))))))))
def Jbj:Tm Unit :=
(.call none 74 [.v 0] 1 [] <|
(.lt none (.bin .geq) [.v 1,.c (.int .i64 0)] 1 <|
(.leaf .ret [.v 2] ())))
def Jbi:Tm Unit :=
(.lt none .len [.v 0] 1 <|
(.bind 1
(.loop [.c (.int .i64 0)]
(.lt none (.bin .lss) [.v 2,.v 1] 1 <|
(.ite (.v 3)
(.lt none .inb [.v 0,.v 2] 0 <|
(.lt none (.row 1 0 [true]) [.v 0,.v 2] 1 <|
(.call none 75 [.v 4] 1 [] <|
(.ite (.v 5)
(.leaf .ret [.v 2] ())
(.lt none (.bin .add) [.v 2,.c (.int .i64 1)] 1 <|
(.leaf .cont [.v 6] ()))))))
(.leaf (.yield 1) [] ())))) <|
(.leaf .ret [.c (.int .i64 (-1))] ())))
def Jbh:Tm Unit :=
(.call none 69 [.v 0,.c (.int .i64 0),.c (.int .i64 6)] 1 [] <|
(.lt none .not [.v 1] 1 <|
(.leaf .ret [.v 2] ())))
def Jbg:Tm Unit :=
(.lt none (.make 8 [(.int .i64 0)]) [.v 0] 1 <|
(.leaf .ret [.c (.int .i64 0),.v 1] ()))
def Jbf:Tm Unit :=
(.lt none (.bin .eql) [.v 0,.v 2] 1 <|
(.call (some (.v 4,true)) 78 [.v 1,.v 3] 1 [] <|
(.lt none .pick [.v 4,.v 5,.c (.bool false)] 1 <|
(.leaf .ret [.v 6] ()))))
def Jbe:Tm Unit :=
(.lt none .len [.v 0] 1 <|
(.lt none .len [.v 1] 1 <|
(.lt none (.bin .neq) [.v 2,.v 3] 1 <|
(.ite (.v 4)
(.leaf .ret [.c (.bool false)] ())
(.lt none .len [.v 0] 1 <|
(.bind 1
(.loop [.c (.int .i64 0)]
(.lt none (.bin .lss) [.v 6,.v 5] 1 <|
(.ite (.v 7)
(.lt none .inb [.v 0,.v 6] 0 <|
(.lt none (.row 1 0 [true]) [.v 0,.v 6] 1 <|
(.lt none .inb [.v 1,.v 6] 0 <|
(.lt none (.row 1 0 [true]) [.v 1,.v 6] 1 <|
(.lt none (.bin .neq) [.v 8,.v 9] 1 <|
(.ite (.v 10)
(.leaf .ret [.c (.bool false)] ())
(.lt none (.bin .add) [.v 6,.c (.int .i64 1)] 1 <|
(.leaf .cont [.v 11] ()))))))))
(.leaf (.yield 1) [] ())))) <|
(.leaf .ret [.c (.bool true)] ())))))))
def Jbd:Tm Unit :=
(.call none 80 [.v 0,.v 2,.v 3] 1 [] <|
(.lt none .not [.v 18] 1 <|
(.lt (some (.v 19,false)) .id [.v 4] 1 <|
(.call (some (.v 19,false)) 69 [.v 20,.c (.int .i64 0),.c (.int .i64 9999)] 1 [] <|
(.lt (some (.v 19,false)) .not [.v 21] 1 <|
(.lt none .pick [.v 19,.c (.bool true),.v 22] 1 <|
(.lt (some (.v 23,false)) .id [.v 0] 1 <|
(.call (some (.v 23,false)) 81 [.v 24,.v 16] 1 [] <|
(.lt (some (.v 23,false)) .not [.v 25] 1 <|
(.lt none .pick [.v 23,.c (.bool true),.v 26] 1 <|
(.lt (some (.v 27,false)) .id [.v 1] 1 <|
(.call (some (.v 27,false)) 86 [.v 16,.v 28] 1 [] <|
(.lt (some (.v 27,false)) .not [.v 29] 1 <|
(.lt none .pick [.v 27,.c (.bool true),.v 30] 1 <|
(.lt (some (.v 31,false)) .id [.v 0] 1 <|
(.call (some (.v 31,false)) 72 [.v 32,.v 11,.v 12] 1 [] <|
(.lt (some (.v 31,false)) .not [.v 33] 1 <|
(.lt none .pick [.v 31,.c (.bool true),.v 34] 1 <|
(.lt (some (.v 35,false)) .id [.v 0] 1 <|
(.call (some (.v 35,false)) 72 [.v 36,.v 13,.v 14] 1 [] <|
(.lt (some (.v 35,false)) .not [.v 37] 1 <|
(.lt none .pick [.v 35,.c (.bool true),.v 38] 1 <|
(.ite (.v 39)
(.leaf .ret [.c (.bool false)] ())
(.lt none (.bin .eql) [.v 5,.c (.int .i64 1)] 1 <|
(.ite (.v 40)
(.call none 70 [.v 6,.v 7,.v 8,.v 9,.v 10] 1 [] <|
(.lt (some (.v 41,true)) .len [.v 17] 1 <|
(.lt (some (.v 41,true)) (.bin .eql) [.v 42,.c (.int .i64 0)] 1 <|
(.lt none .pick [.v 41,.v 43,.c (.bool false)] 1 <|
(.leaf .ret [.v 44] ())))))
(.lt none (.bin .eql) [.v 5,.c (.int .i64 2)] 1 <|
(.ite (.v 41)
(.call none 70 [.v 6,.v 7,.v 8,.v 9,.v 10] 1 [] <|
(.lt (some (.v 42,true)) .len [.v 17] 1 <|
(.lt (some (.v 42,true)) (.bin .eql) [.v 43,.c (.int .i64 0)] 1 <|
(.lt none .pick [.v 42,.v 44,.c (.bool false)] 1 <|
(.call (some (.v 45,true)) 77 [.v 11,.v 12,.v 13,.v 14] 1 [] <|
(.lt none .pick [.v 45,.v 46,.c (.bool false)] 1 <|
(.lt (some (.v 47,true)) .id [.v 15] 1 <|
(.lt (some (.v 47,true)) .not [.v 48] 1 <|
(.lt none .pick [.v 47,.v 49,.c (.bool false)] 1 <|
(.leaf .ret [.v 50] ()))))))))))
(.lt none (.bin .eql) [.v 5,.c (.int .i64 3)] 1 <|
(.ite (.v 42)
(.call none 76 [.v 0] 2 [] <|
(.lt none (.eqs [0,0,0,0,0]) [.v 6,.v 7,.v 8,.v 9,.v 10,.c (.int .i64 0),.c (.int .i64 0),.c (.int .i64 0),.c (.int .i64 0),.c (.int .i64 0)] 1 <|
(.call (some (.v 45,true)) 77 [.v 11,.v 12,.v 43,.v 44] 1 [] <|
(.lt none .pick [.v 45,.v 46,.c (.bool false)] 1 <|
(.call (some (.v 47,true)) 77 [.v 13,.v 14,.v 43,.v 44] 1 [] <|
(.lt none .pick [.v 47,.v 48,.c (.bool false)] 1 <|
(.lt (some (.v 49,true)) .id [.v 15] 1 <|
(.lt (some (.v 49,true)) .not [.v 50] 1 <|
(.lt none .pick [.v 49,.v 51,.c (.bool false)] 1 <|
(.lt (some (.v 52,true)) .len [.v 17] 1 <|
(.lt (some (.v 52,true)) .len [.v 16] 1 <|
(.lt (some (.v 52,true)) (.bin .eql) [.v 53,.v 54] 1 <|
(.lt none .pick [.v 52,.v 55,.c (.bool false)] 1 <|
(.call (some (.v 56,true)) 88 [.v 17,.v 0] 1 [] <|
(.lt (some (.v 56,true)) .not [.v 57] 1 <|
(.lt none .pick [.v 56,.v 58,.c (.bool false)] 1 <|
(.leaf .ret [.v 59] ())))))))))))))))))
(.leaf .ret [.c (.bool false)] ()))))))))))))))))))))))))))))))
def Jbc:Tm Unit :=
(.call none 61 [.v 0] 1 [] <|
(.lt (some (.v 3,true)) .id [.v 1] 1 <|
(.lt (some (.v 3,true)) .id [.v 0] 1 <|
(.lt (some (.v 3,true)) (.bin .sub) [.v 5,.c (.int .i64 1)] 1 <|
(.call (some (.v 3,true)) 69 [.v 4,.c (.int .i64 0),.v 6] 1 [] <|
(.lt none .pick [.v 3,.v 7,.c (.bool false)] 1 <|
(.lt (some (.v 8,true)) .id [.v 2] 1 <|
(.call (some (.v 8,true)) 69 [.v 9,.c (.int .i64 1),.c (.int .i64 6)] 1 [] <|
(.lt none .pick [.v 8,.v 10,.c (.bool false)] 1 <|
(.leaf .ret [.v 11] ()))))))))))
def Jbb:Tm Unit :=
(.call none 82 [.v 1] 1 [] <|
(.call (some (.v 2,true)) 83 [.v 1,.v 0] 1 [] <|
(.lt (some (.v 2,true)) .not [.v 3] 1 <|
(.lt none .pick [.v 2,.v 4,.c (.bool false)] 1 <|
(.leaf .ret [.v 5] ())))))
def Jba:Tm Unit :=
(.bind 1
(.loop [.c (.int .i64 1)]
(.lt none .len [.v 0] 1 <|
(.lt none (.bin .lss) [.v 1,.v 2] 1 <|
(.ite (.v 3)
(.lt none .inb [.v 0,.v 1] 0 <|
(.lt none (.row 1 0 [true]) [.v 0,.v 1] 1 <|
(.lt none (.bin .sub) [.v 1,.c (.int .i64 1)] 1 <|
(.lt none .inb [.v 0,.v 5] 0 <|
(.lt none (.row 1 0 [true]) [.v 0,.v 5] 1 <|
(.lt none (.bin .leq) [.v 4,.v 6] 1 <|
(.ite (.v 7)
(.leaf .ret [.c (.bool false)] ())
(.lt none (.bin .add) [.v 1,.c (.int .i64 1)] 1 <|
(.leaf .cont [.v 8] ())))))))))
(.leaf (.yield 1) [] ()))))) <|
(.leaf .ret [.c (.bool true)] ()))
def Ib9:Tm Unit :=
(.call none 84 [.v 0,.v 1] 1 [] <|
(.lt none (.bin .geq) [.v 2,.c (.int .i64 0)] 1 <|
(.leaf .ret [.v 3] ())))
def Ib8:Tm Unit :=
(.lt none .len [.v 0] 1 <|
(.bind 1
(.loop [.c (.int .i64 0)]
(.lt none (.bin .lss) [.v 3,.v 2] 1 <|
(.ite (.v 4)
(.lt none .inb [.v 0,.v 3] 0 <|
(.lt none (.row 1 0 [true]) [.v 0,.v 3] 1 <|
(.call none 85 [.v 5,.v 1] 1 [] <|
(.ite (.v 6)
(.leaf .ret [.v 3] ())
(.lt none (.bin .add) [.v 3,.c (.int .i64 1)] 1 <|
(.leaf .cont [.v 7] ()))))))
(.leaf (.yield 1) [] ())))) <|
(.leaf .ret [.c (.int .i64 (-1))] ())))
def Ib7:Tm Unit :=
(.lt none (.bin .sub) [.v 1,.c (.int .i64 1)] 1 <|
(.call none 69 [.v 0,.c (.int .i64 0),.v 2] 1 [] <|
(.lt none .not [.v 3] 1 <|
(.leaf .ret [.v 4] ()))))
def Ib6:Tm Unit :=
(.call none 87 [.v 0,.v 1] 1 [] <|
(.lt none (.bin .geq) [.v 2,.c (.int .i64 0)] 1 <|
(.leaf .ret [.v 3] ())))
def Ib5:Tm Unit :=
(.lt none .len [.v 0] 1 <|
(.bind 1
(.loop [.c (.int .i64 0)]
(.lt none (.bin .lss) [.v 3,.v 2] 1 <|
(.ite (.v 4)
(.lt none .inb [.v 0,.v 3] 0 <|
(.lt none (.row 1 0 [true]) [.v 0,.v 3] 1 <|
(.lt none (.bin .eql) [.v 1,.v 5] 1 <|
(.ite (.v 6)
(.leaf .ret [.v 3] ())
(.lt none (.bin .add) [.v 3,.c (.int .i64 1)] 1 <|
(.leaf .cont [.v 7] ()))))))
(.leaf (.yield 1) [] ())))) <|
(.leaf .ret [.c (.int .i64 (-1))] ())))
def Ib4:Tm Unit :=
(.call none 89 [.v 0,.v 1] 1 [] <|
(.lt none (.bin .geq) [.v 2,.c (.int .i64 0)] 1 <|
(.leaf .ret [.v 3] ())))
def Ib3:Tm Unit :=
(.lt none .len [.v 0] 1 <|
(.bind 1
(.loop [.c (.int .i64 0)]
(.lt none (.bin .lss) [.v 3,.v 2] 1 <|
(.ite (.v 4)
(.lt none .inb [.v 0,.v 3] 0 <|
(.lt none (.row 10 0 [true,true,true,true,true,true,true,true,true,false]) [.v 0,.v 3] 10 <|
(.call none 90 [.v 5,.v 6,.v 7,.v 8,.v 9,.v 10,.v 11,.v 12,.v 13,.v 14,.v 1] 1 [] <|
(.ite (.v 15)
(.leaf .ret [.v 3] ())
(.lt none (.bin .add) [.v 3,.c (.int .i64 1)] 1 <|
(.leaf .cont [.v 16] ()))))))
(.leaf (.yield 1) [] ())))) <|
(.leaf .ret [.c (.int .i64 (-1))] ())))
def Ib2:Tm Unit :=
(.call none 68 [.v 10,.v 0,.v 1,.v 2,.v 3,.v 4,.v 5,.v 6,.v 7,.v 8,.v 9] 1 [] <|
(.lt none .not [.v 11] 1 <|
(.lt (some (.v 12,false)) .id [.v 2] 1 <|
(.lt (some (.v 12,false)) (.bin .eql) [.v 13,.c (.int .i64 3)] 1 <|
(.lt none .pick [.v 12,.c (.bool true),.v 14] 1 <|
(.leaf .ret [.v 15] ()))))))
def Ib1:Tm Unit :=
(.lt none .len [.v 0] 1 <|
(.bind 1
(.loop [.c (.int .i64 0)]
(.lt none (.bin .lss) [.v 3,.v 2] 1 <|
(.ite (.v 4)
(.lt none .inb [.v 0,.v 3] 0 <|
(.lt none (.row 1 0 [true]) [.v 0,.v 3] 1 <|
(.lt none .len [.v 1] 1 <|
(.lt none (.bin .geq) [.v 3,.v 6] 1 <|
(.ite (.v 7)
(.leaf .ret [.c (.int .i64 1)] ())
(.lt none .inb [.v 1,.v 3] 0 <|
(.lt none (.row 1 0 [true]) [.v 1,.v 3] 1 <|
(.call none 92 [.v 5,.v 8] 1 [] <|
(.lt none (.bin .neq) [.v 9,.c (.int .i64 0)] 1 <|
(.ite (.v 10)
(.leaf .ret [.v 9] ())
(.lt none (.bin .add) [.v 3,.c (.int .i64 1)] 1 <|
(.leaf .cont [.v 11] ()))))))))))))
(.leaf (.yield 1) [] ())))) <|
(.lt none .len [.v 0] 1 <|
(.lt none .len [.v 1] 1 <|
(.lt none (.bin .lss) [.v 3,.v 4] 1 <|
(.ite (.v 5)
(.leaf .ret [.c (.int .i64 (-1))] ())
(.leaf .ret [.c (.int .i64 0)] ())))))))
def Ib0:Tm Unit :=
(.call none 93 [.v 0] 1 [] <|
(.call none 93 [.v 1] 1 [] <|
(.ite (.v 2)
(.ite (.v 3)
(.leaf .ret [.c (.int .i64 0)] ())
(.leaf .ret [.c (.int .i64 (-1))] ()))
(.ite (.v 3)
(.leaf .ret [.c (.int .i64 1)] ())
(.lt none (.bin .lss) [.v 0,.v 1] 1 <|
(.ite (.v 4)
(.leaf .ret [.c (.int .i64 (-1))] ())
(.lt none (.bin .gtr) [.v 0,.v 1] 1 <|
(.ite (.v 5)
(.leaf .ret [.c (.int .i64 1)] ())
(.leaf .ret [.c (.int .i64 0)] ())))))))))
def Ibz:Tm Unit :=
(.lt none (.bin .neq) [.v 0,.v 0] 1 <|
(.leaf .ret [.v 1] ()))
def Iby:Tm Unit :=
(.call none 95 [.v 0,.v 1,.v 2,.v 3] 4 [] <|
(.leaf .ret [.v 4,.v 5,.v 6,.v 7,.c (.rows 15 []),.c (.bool false)] ()))
def Ibx:Tm Unit :=
(.call none 96 [.v 1,.v 2] 2 [] <|
(.lt none .len [.v 3] 1 <|
(.bind 1
(.loop [.c (.int .i64 0),.c (.rows 16 [])]
(.lt none (.bin .lss) [.v 7,.v 6] 1 <|
(.ite (.v 9)
(.lt none .inb [.v 3,.v 7] 0 <|
(.lt none (.row 16 0 [true,true,true,true,true,true,true,true,true,true,false,true,false,true,false,false]) [.v 3,.v 7] 16 <|
(.call none 101 [.v 10,.v 11,.v 12,.v 13,.v 14,.v 15,.v 16,.v 17,.v 18,.v 19,.v 20,.v 21,.v 22,.v 23,.v 24,.v 25] 16 [] <|
(.lt none (.mk 16 1) [.v 26,.v 27,.v 28,.v 29,.v 30,.v 31,.v 32,.v 33,.v 34,.v 35,.v 36,.v 37,.v 38,.v 39,.v 40,.v 41] 1 <|
(.lt none (.app 16 192 false) [.v 8,.v 42] 1 <|
(.lt none (.bin .add) [.v 7,.c (.int .i64 1)] 1 <|
(.leaf .cont [.v 44,.v 43] ())))))))
(.leaf (.yield 1) [.v 8] ())))) <|
(.leaf .ret [.v 0,.v 4,.v 5,.v 7] ()))))
def Ibw:Tm Unit :=
(.lt none .len [.v 1] 1 <|
(.bind 1
(.loop [.c (.int .i64 0),.c (.rows 1 [])]
(.lt none (.bin .lss) [.v 3,.v 2] 1 <|
(.ite (.v 5)
(.lt none .inb [.v 1,.v 3] 0 <|
(.lt none (.row 1 0 [false]) [.v 1,.v 3] 1 <|
(.call none 97 [.v 6] 1 [] <|
(.lt none (.mk 1 1) [.v 7] 1 <|
(.lt none (.app 1 24 false) [.v 4,.v 8] 1 <|
(.lt none (.bin .add) [.v 3,.c (.int .i64 1)] 1 <|
(.leaf .cont [.v 10,.v 9] ())))))))
(.leaf (.yield 1) [.v 4] ())))) <|
(.leaf .ret [.v 0,.v 3] ())))
def Ibv:Tm Unit :=
(.lt none (.mk 10 0) [] 1 <|
(.lt none .len [.v 0] 1 <|
(.bind 1
(.loop [.v 1,.c (.int .i64 0)]
(.lt none (.bin .lss) [.v 4,.v 2] 1 <|
(.ite (.v 5)
(.lt none .inb [.v 0,.v 4] 0 <|
(.lt none (.row 10 0 [true,true,true,true,true,true,true,true,true,false]) [.v 0,.v 4] 10 <|
(.call none 98 [.v 6,.v 7,.v 8,.v 9,.v 10,.v 11,.v 12,.v 13,.v 14,.v 15] 10 [] <|
(.lt none (.mk 10 1) [.v 16,.v 17,.v 18,.v 19,.v 20,.v 21,.v 22,.v 23,.v 24,.v 25] 1 <|
(.lt none (.app 10 96 false) [.v 3,.v 26] 1 <|
(.lt none (.bin .add) [.v 4,.c (.int .i64 1)] 1 <|
(.leaf .cont [.v 27,.v 28] ())))))))
(.leaf (.yield 1) [.v 3] ())))) <|
(.leaf .ret [.v 3] ()))))
def Ibu:Tm Unit :=
(.call none 99 [.v 8,.v 9] 2 [] <|
(.leaf .ret [.v 0,.v 1,.v 2,.v 3,.v 4,.v 5,.v 6,.v 7,.v 10,.v 11] ()))
def Ibt:Tm Unit :=
(.call none 100 [.v 1] 1 [] <|
(.leaf .ret [.v 0,.v 2] ()))
def Sag:Tm Unit :=
(.lt none .ne [.v 0] 0 <|
(.lt none .emp [.v 0] 1 <|
(.ite (.v 1)
(.leaf .ret [.c (.rows 1 [])] ())
(.lt none (.mk 1 0) [] 1 <|
(.lt none (.app 1 8 true) [.v 2,.v 0] 1 <|
(.leaf .ret [.v 3] ()))))))
def Za2:Tm Unit :=
(.call none 99 [.v 9,.v 10] 2 [] <|
(.call none 99 [.v 11,.v 12] 2 [] <|
(.call none 100 [.v 14] 1 [] <|
(.call none 97 [.v 15] 1 [] <|
(.leaf .ret [.v 0,.v 1,.v 2,.v 3,.v 4,.v 5,.v 6,.v 7,.v 8,.v 16,.v 17,.v 18,.v 19,.v 13,.v 20,.v 21] ())))))
def Za1:Tm Unit :=
(.call none 76 [.v 0] 2 [] <|
(.call none 103 [.v 0,.v 1,.v 7,.v 8,.v 2,.v 3,.v 4,.v 5,.v 6,.v 9,.v 10] 2 [] <|
(.lt none (.bin .add) [.v 11,.c (.int .i64 1)] 1 <|
(.lt none (.bin .leq) [.v 13,.c (.int .i64 999)] 1 <|
(.leaf .ret [.v 13,.v 12,.v 14] ())))))
def Za0:Tm Unit :=
(.lt none .len [.v 1] 1 <|
(.bind 1
(.loop [.c (.int .i64 0),.v 9,.v 10]
(.lt none (.bin .lss) [.v 12,.v 11] 1 <|
(.ite (.v 15)
(.lt none .inb [.v 1,.v 12] 0 <|
(.lt none (.row 1 0 [false]) [.v 1,.v 12] 1 <|
(.lt none .len [.v 16] 1 <|
(.bind 3
(.loop [.c (.int .i64 0),.v 13,.v 14]
(.lt none (.bin .lss) [.v 18,.v 17] 1 <|
(.ite (.v 21)
(.lt none .inb [.v 16,.v 18] 0 <|
(.lt none (.row 10 0 [true,true,true,true,true,true,true,true,true,false]) [.v 16,.v 18] 10 <|
(.lt none (.bin .add) [.v 18,.c (.int .i64 1)] 1 <|
(.call none 104 [.v 12,.v 32,.v 22,.v 23,.v 24,.v 25,.v 26,.v 27,.v 28,.v 29,.v 30,.v 31,.v 2,.v 3,.v 4,.v 5,.v 6,.v 7,.v 8,.v 19,.v 20] 2 [] <|
(.lt none (.bin .add) [.v 18,.c (.int .i64 1)] 1 <|
(.leaf .cont [.v 35,.v 33,.v 34] ()))))))
(.leaf (.yield 3) [.v 19,.v 20] ())))) <|
(.lt none (.bin .add) [.v 12,.c (.int .i64 1)] 1 <|
(.leaf .cont [.v 20,.v 18,.v 19] ()))))))
(.leaf (.yield 1) [.v 13,.v 14] ())))) <|
(.leaf .ret [.v 12,.v 13] ())))
def Zaz:Tm Unit :=
(.lt none (.bin .neq) [.v 0,.v 12] 1 <|
(.lt (some (.v 21,false)) .id [.v 1] 1 <|
(.lt (some (.v 21,false)) .id [.v 13] 1 <|
(.lt (some (.v 21,false)) (.bin .neq) [.v 22,.v 23] 1 <|
(.lt none .pick [.v 21,.c (.bool true),.v 24] 1 <|
(.lt (some (.v 25,true)) .id [.v 4] 1 <|
(.lt (some (.v 25,true)) (.bin .neq) [.v 26,.c (.int .i64 0)] 1 <|
(.lt none .pick [.v 25,.v 27,.c (.bool false)] 1 <|
(.call (some (.v 28,true)) 105 [.v 5,.v 6,.v 7,.v 8,.v 9,.v 14,.v 15,.v 16,.v 17,.v 18] 1 [] <|
(.lt none .pick [.v 28,.v 29,.c (.bool false)] 1 <|
(.ite (.v 30)
(.lt none .inb [.v 20,.v 0] 0 <|
(.lt none (.row 1 0 [true]) [.v 20,.v 0] 1 <|
(.lt none .max [.v 31,.v 1] 1 <|
(.lt none .max [.v 19,.v 10] 1 <|
(.lt none .inb [.v 20,.v 0] 0 <|
(.lt none (.set 1 0 1) [.v 20,.v 0,.v 32] 1 <|
(.leaf .ret [.v 33,.v 34] ())))))))
(.leaf .ret [.v 19,.v 20] ()))))))))))))
def Zay:Tm Unit :=
(.call none 106 [.v 0,.v 1,.v 2,.v 3,.v 4] 1 [] <|
(.call none 107 [.v 10,.v 5,.v 6,.v 7,.v 8,.v 9] 1 [] <|
(.leaf .ret [.v 11] ())))
def Zax:Tm Unit :=
(.lt none (.bin .eql) [.v 0,.c (.int .i64 1)] 1 <|
(.ite (.v 5)
(.lt none .min [.v 2,.v 3] 1 <|
(.lt none .max [.v 2,.v 3] 1 <|
(.lt none (.mk 1 2) [.v 6,.v 7] 1 <|
(.leaf .ret [.v 8] ()))))
(.lt none (.bin .eql) [.v 0,.c (.int .i64 2)] 1 <|
(.ite (.v 6)
(.lt none (.mk 1 1) [.v 2] 1 <|
(.leaf .ret [.v 7] ()))
(.lt none (.mk 1 0) [] 1 <|
(.leaf .ret [.v 7] ()))))))
def Zaw:Tm Unit :=
(.call none 108 [.v 0,.v 1,.v 2,.v 3,.v 4,.v 5] 1 [] <|
(.lt none (.bin .geq) [.v 6,.c (.int .i64 0)] 1 <|
(.leaf .ret [.v 7] ())))
def Zav:Tm Unit :=
(.lt none .len [.v 0] 1 <|
(.bind 1
(.loop [.c (.int .i64 0)]
(.lt none (.bin .lss) [.v 7,.v 6] 1 <|
(.ite (.v 8)
(.lt none .inb [.v 0,.v 7] 0 <|
(.lt none (.row 1 0 [true]) [.v 0,.v 7] 1 <|
(.call none 109 [.v 9,.v 1,.v 2,.v 3,.v 4,.v 5] 1 [] <|
(.ite (.v 10)
(.leaf .ret [.v 7] ())
(.lt none (.bin .add) [.v 7,.c (.int .i64 1)] 1 <|
(.leaf .cont [.v 11] ()))))))
(.leaf (.yield 1) [] ())))) <|
(.leaf .ret [.c (.int .i64 (-1))] ())))
def Zau:Tm Unit :=
(.call none 106 [.v 1,.v 2,.v 3,.v 4,.v 5] 1 [] <|
(.call none 86 [.v 6,.v 0] 1 [] <|
(.leaf .ret [.v 7] ())))
def Zat:Tm Unit :=
(.call none 111 [.v 0,.v 1,.v 2,.v 2,.c (.int .i64 1),.v 3,.v 4,.v 5,.v 6,.v 7,.v 8,.v 9,.v 11,.v 12] 2 [] <|
(.lt none (.mk 1 1) [.v 10] 1 <|
(.call none 112 [.v 0,.v 1,.v 2,.c (.int .i64 1),.v 3,.v 4,.v 5,.v 6,.v 7,.v 8,.v 9,.v 8,.v 9,.c (.bool true),.v 18,.c (.rows 10 []),.v 10,.v 16,.v 17,.v 13,.v 14,.v 15] 6 [] <|
(.lt none (.dep 99) [.v 21] 0 <|
(.lt none (.dep 99) [.v 22] 0 <|
(.lt none (.dep 99) [.v 23] 0 <|
(.call none 119 [.c (.int .i64 1),.c (.int .i64 0),.c (.int .i64 0),.v 0,.v 1,.v 2,.c (.int .i64 0),.c (.int .i64 0),.v 3,.v 4,.v 5,.v 6,.v 7,.v 8,.v 9,.v 19,.v 20,.v 21,.v 22,.v 23,.v 24] 6 [] <|
(.leaf .ret [.v 25,.v 26,.v 27,.v 28,.v 29,.v 30] ()))))))))
def Zas:Tm Unit :=
(.bind 1
(.loop [.v 13]
(.lt none .inb [.v 14,.v 0] 0 <|
(.lt none (.row 1 0 [false]) [.v 14,.v 0] 1 <|
(.lt none .len [.v 15] 1 <|
(.lt none (.bin .lss) [.v 16,.v 1] 1 <|
(.ite (.v 17)
(.lt none .inb [.v 14,.v 0] 0 <|
(.lt none (.row 1 0 [false]) [.v 14,.v 0] 1 <|
(.call none 76 [.v 12] 2 [] <|
(.lt none (.mk 10 1) [.c (.int .i64 0),.c (.int .i64 0),.c (.int .i64 0),.c (.int .i64 0),.c (.int .i64 0),.c (.int .i64 0),.c (.int .i64 0),.c (.int .i64 0),.v 19,.v 20] 1 <|
(.lt none (.set 1 0 1) [.v 14,.v 0,.c .hole] 1 <|
(.lt none (.app 10 96 false) [.v 18,.v 21] 1 <|
(.lt none .inb [.v 22,.v 0] 0 <|
(.lt none (.set 1 0 1) [.v 22,.v 0,.v 23] 1 <|
(.leaf .cont [.v 24] ())))))))))
(.leaf (.yield 1) [.v 14] ()))))))) <|
(.lt none .inb [.v 14,.v 0] 0 <|
(.lt none (.row 1 0 [false]) [.v 14,.v 0] 1 <|
(.lt none (.bin .sub) [.v 1,.c (.int .i64 1)] 1 <|
(.call none 98 [.v 2,.v 3,.v 4,.v 5,.v 6,.v 7,.v 8,.v 9,.v 10,.v 11] 10 [] <|
(.lt none .inb [.v 15,.v 16] 0 <|
(.lt none (.set 10 0 10) [.v 15,.v 16,.v 17,.v 18,.v 19,.v 20,.v 21,.v 22,.v 23,.v 24,.v 25,.v 26] 1 <|
(.lt none (.set 1 0 1) [.v 14,.v 0,.v 27] 1 <|
(.leaf .ret [.v 12,.v 28] ())))))))))
def Zar:Tm Unit :=
(.call none 113 [.v 0,.v 1,.v 16,.v 17,.v 18,.v 19,.v 20,.v 21] 6 [] <|
(.call none 114 [.v 0,.v 1,.v 22,.v 23,.v 24,.v 25,.v 26,.v 27] 2 [] <|
(.call none 101 [.v 0,.v 1,.v 2,.v 3,.v 4,.v 5,.v 6,.v 7,.v 8,.v 9,.v 10,.v 11,.v 12,.v 13,.v 14,.v 15] 16 [] <|
(.lt none (.mk 16 1) [.v 30,.v 31,.v 32,.v 33,.v 34,.v 35,.v 36,.v 37,.v 38,.v 39,.v 40,.v 41,.v 42,.v 43,.v 44,.v 45] 1 <|
(.call none 118 [.v 25,.v 28,.v 46] 1 [] <|
(.leaf .ret [.v 22,.v 23,.v 24,.v 47,.v 26,.v 27] ()))))))
def Zaq:Tm Unit :=
(.call none 114 [.v 0,.v 1,.v 2,.v 3,.v 4,.v 5,.v 6,.v 7] 2 [] <|
(.ite (.v 9)
(.lt none (.bin .add) [.v 8,.c (.int .i64 1)] 1 <|
(.call none 117 [.v 5,.v 8,.v 10] 1 [] <|
(.leaf .ret [.v 2,.v 3,.v 4,.v 11,.v 6,.v 7] ())))
(.leaf .ret [.v 2,.v 3,.v 4,.v 5,.v 6,.v 7] ())))
def Zap:Tm Unit :=
(.lt none (.mk 1 2) [.v 0,.v 1] 1 <|
(.call none 115 [.v 5,.v 8] 2 [] <|
(.leaf .ret [.v 9,.v 10] ())))
def Zao:Tm Unit :=
(.lt none .len [.v 0] 1 <|
(.bind 1
(.loop [.c (.int .i64 0),.v 2]
(.lt none (.bin .lss) [.v 3,.v 4] 1 <|
(.ite (.v 5)
(.lt none (.bin .add) [.v 3,.v 4] 1 <|
(.lt none (.conv .u64) [.v 6] 1 <|
(.lt none (.bin .shr) [.v 7,.c (.int .u64 1)] 1 <|
(.lt none (.conv .i64) [.v 8] 1 <|
(.lt none .inb [.v 0,.v 9] 0 <|
(.lt none (.row 16 0 [true,true,true,true,true,true,true,true,true,true,false,true,false,true,false,false]) [.v 0,.v 9] 16 <|
(.call none 116 [.v 10,.v 11,.v 12,.v 13,.v 14,.v 15,.v 16,.v 17,.v 18,.v 19,.v 20,.v 21,.v 22,.v 23,.v 24,.v 25,.v 1] 1 [] <|
(.lt none (.bin .lss) [.v 26,.c (.int .i64 0)] 1 <|
(.ite (.v 27)
(.lt none (.bin .add) [.v 9,.c (.int .i64 1)] 1 <|
(.leaf .cont [.v 28,.v 4] ()))
(.leaf .cont [.v 3,.v 9] ()))))))))))
(.leaf (.yield 1) [.v 3] ())))) <|
(.lt none (.bin .lss) [.v 3,.v 2] 1 <|
(.lt (some (.v 4,true)) .id [.v 3] 1 <|
(.lt (some (.v 4,true)) .inb [.v 0,.v 5] 0 <|
(.lt (some (.v 4,true)) (.row 16 0 [true,true,true,true,true,true,true,true,true,true,false,true,false,true,false,false]) [.v 0,.v 5] 16 <|
(.call (some (.v 4,true)) 116 [.v 6,.v 7,.v 8,.v 9,.v 10,.v 11,.v 12,.v 13,.v 14,.v 15,.v 16,.v 17,.v 18,.v 19,.v 20,.v 21,.v 1] 1 [] <|
(.lt (some (.v 4,true)) (.bin .eql) [.v 22,.c (.int .i64 0)] 1 <|
(.lt none .pick [.v 4,.v 23,.c (.bool false)] 1 <|
(.leaf .ret [.v 3,.v 24] ()))))))))))
def Zan:Tm Unit :=
(.lt none (.mk 1 2) [.v 0,.v 1] 1 <|
(.call none 91 [.v 17,.v 16] 1 [] <|
(.leaf .ret [.v 18] ())))
def Pbk:Tm Unit:=.stuck
def Pbj:Tm Unit:=.stuck
def Zam:Tm Unit :=
(.bind 1
(.loop [.c (.int .i64 0),.v 15,.v 16,.v 17,.v 18,.v 19,.v 20]
(.lt none (.bin .lss) [.v 21,.v 16] 1 <|
(.ite (.v 28)
(.bind 0
(.lt none (.bin .neq) [.v 21,.v 22] 1 <|
(.ite (.v 29)
(.call none 120 [.v 0,.v 1,.v 2,.v 3,.v 4,.v 5,.v 6,.v 7,.v 8,.v 9,.v 10,.v 11,.v 12,.v 13,.v 14,.v 21,.v 22,.v 23,.v 24,.v 25,.v 26,.v 27] 6 [] <|
(.leaf (.yield 0) [.v 30,.v 31,.v 32,.v 33,.v 34,.v 35] ()))
(.leaf (.yield 0) [.v 22,.v 23,.v 24,.v 25,.v 26,.v 27] ()))) <|
(.lt none (.bin .add) [.v 21,.c (.int .i64 1)] 1 <|
(.leaf .cont [.v 35,.v 29,.v 30,.v 31,.v 32,.v 33,.v 34] ())))
(.leaf (.yield 1) [.v 22,.v 23,.v 24,.v 25,.v 26,.v 27] ())))) <|
(.leaf .ret [.v 21,.v 22,.v 23,.v 24,.v 25,.v 26] ()))
def Zal:Tm Unit :=
(.bind 0
(.lt none .ne [.v 14] 0 <|
(.lt none .emp [.v 14] 1 <|
(.ite (.v 22)
(.call none 76 [.v 17] 2 [] <|
(.leaf (.yield 0) [.v 23,.v 24] ()))
(.leaf (.yield 0) [.v 13,.v 14] ())))) <|
(.call none 121 [.v 0,.v 16,.v 15,.v 3,.v 4,.v 5,.v 6,.v 7,.v 8,.v 9,.v 10,.v 11,.v 12,.v 22,.v 23] 15 [] <|
(.lt none (.mk 15 1) [.v 24,.v 25,.v 26,.v 27,.v 28,.v 29,.v 30,.v 31,.v 32,.v 33,.v 34,.v 35,.v 36,.v 37,.v 38] 1 <|
(.lt none (.app 15 136 false) [.v 20,.v 39] 1 <|
(.leaf .ret [.v 16,.v 17,.v 18,.v 19,.v 40,.v 21] ())))))
def Zak:Tm Unit :=
(.call none 99 [.v 13,.v 14] 2 [] <|
(.leaf .ret [.v 0,.v 1,.v 2,.v 3,.v 4,.v 5,.v 6,.v 7,.v 8,.v 9,.v 10,.v 11,.v 12,.v 15,.v 16] ()))
def Zaj:Tm Unit :=
(.ite (.v 5)
(.leaf .ret [.c (.int .i64 0),.c (.int .i64 0),.c (.rows 1 []),.c (.rows 16 []),.c (.rows 15 []),.c (.bool false),.v 0,.v 1,.c .hole,.c .hole,.c .hole,.v 5] ())
(.leaf .ret [.v 0,.v 1,.v 2,.v 3,.v 4,.c (.bool true),.v 0,.v 1,.c .hole,.c .hole,.c .hole,.v 5] ()))
def Zai:Tm Unit :=
(.lt none (.bin .neq) [.v 0,.v 4] 1 <|
(.ite (.v 8)
(.leaf .ret [.c (.bool false)] ())
(.call none 124 [.v 1,.v 2,.v 5,.v 6] 1 [] <|
(.lt none .not [.v 9] 1 <|
(.ite (.v 10)
(.leaf .ret [.c (.bool false)] ())
(.call none 131 [.v 3,.v 7] 1 [] <|
(.lt none .not [.v 11] 1 <|
(.ite (.v 12)
(.leaf .ret [.c (.bool false)] ())
(.leaf .ret [.c (.bool true)] ())))))))))
def Zah:Tm Unit :=
(.lt none (.bin .neq) [.v 0,.v 2] 1 <|
(.ite (.v 4)
(.leaf .ret [.c (.bool false)] ())
(.call none 125 [.v 1,.v 3] 1 [] <|
(.lt none .not [.v 5] 1 <|
(.ite (.v 6)
(.leaf .ret [.c (.bool false)] ())
(.leaf .ret [.c (.bool true)] ()))))))
def Zag:Tm Unit :=
(.lt none .len [.v 0] 1 <|
(.lt none .len [.v 1] 1 <|
(.lt none (.bin .neq) [.v 2,.v 3] 1 <|
(.ite (.v 4)
(.leaf .ret [.c (.bool false)] ())
(.bind 1
(.loop [.c (.int .i64 0)]
(.lt none .len [.v 0] 1 <|
(.lt none (.bin .lss) [.v 5,.v 6] 1 <|
(.ite (.v 7)
(.lt none .inb [.v 0,.v 5] 0 <|
(.lt none (.row 1 0 [false]) [.v 0,.v 5] 1 <|
(.lt none .inb [.v 1,.v 5] 0 <|
(.lt none (.row 1 0 [false]) [.v 1,.v 5] 1 <|
(.call none 126 [.v 8,.v 9] 1 [] <|
(.lt none .not [.v 10] 1 <|
(.ite (.v 11)
(.leaf .ret [.c (.bool false)] ())
(.lt none (.bin .add) [.v 5,.c (.int .i64 1)] 1 <|
(.leaf .cont [.v 12] ())))))))))
(.leaf (.yield 1) [] ()))))) <|
(.leaf .ret [.c (.bool true)] ()))))))
def Zaf:Tm Unit :=
(.lt none .len [.v 0] 1 <|
(.lt none .len [.v 1] 1 <|
(.lt none (.bin .neq) [.v 2,.v 3] 1 <|
(.ite (.v 4)
(.leaf .ret [.c (.bool false)] ())
(.bind 1
(.loop [.c (.int .i64 0)]
(.lt none .len [.v 0] 1 <|
(.lt none (.bin .lss) [.v 5,.v 6] 1 <|
(.ite (.v 7)
(.lt none .inb [.v 0,.v 5] 0 <|
(.lt none (.row 10 0 [true,true,true,true,true,true,true,true,true,false]) [.v 0,.v 5] 10 <|
(.lt none .inb [.v 1,.v 5] 0 <|
(.lt none (.row 10 0 [true,true,true,true,true,true,true,true,true,false]) [.v 1,.v 5] 10 <|
(.call none 127 [.v 8,.v 9,.v 10,.v 11,.v 12,.v 13,.v 14,.v 15,.v 16,.v 17,.v 18,.v 19,.v 20,.v 21,.v 22,.v 23,.v 24,.v 25,.v 26,.v 27] 1 [] <|
(.lt none .not [.v 28] 1 <|
(.ite (.v 29)
(.leaf .ret [.c (.bool false)] ())
(.lt none (.bin .add) [.v 5,.c (.int .i64 1)] 1 <|
(.leaf .cont [.v 30] ())))))))))
(.leaf (.yield 1) [] ()))))) <|
(.leaf .ret [.c (.bool true)] ()))))))
def Zae:Tm Unit :=
(.lt none (.bin .neq) [.v 0,.v 10] 1 <|
(.ite (.v 20)
(.leaf .ret [.c (.bool false)] ())
(.lt none (.bin .neq) [.v 1,.v 11] 1 <|
(.ite (.v 21)
(.leaf .ret [.c (.bool false)] ())
(.lt none (.bin .neq) [.v 2,.v 12] 1 <|
(.ite (.v 22)
(.leaf .ret [.c (.bool false)] ())
(.call none 128 [.v 3,.v 4,.v 5,.v 6,.v 7,.v 13,.v 14,.v 15,.v 16,.v 17] 1 [] <|
(.lt none .not [.v 23] 1 <|
(.ite (.v 24)
(.leaf .ret [.c (.bool false)] ())
(.call none 129 [.v 8,.v 9,.v 18,.v 19] 1 [] <|
(.lt none .not [.v 25] 1 <|
(.ite (.v 26)
(.leaf .ret [.c (.bool false)] ())
(.leaf .ret [.c (.bool true)] ())))))))))))))
def Zad:Tm Unit :=
(.lt none (.bin .neq) [.v 0,.v 5] 1 <|
(.ite (.v 10)
(.leaf .ret [.c (.bool false)] ())
(.lt none (.bin .neq) [.v 1,.v 6] 1 <|
(.ite (.v 11)
(.leaf .ret [.c (.bool false)] ())
(.lt none (.bin .neq) [.v 2,.v 7] 1 <|
(.ite (.v 12)
(.leaf .ret [.c (.bool false)] ())
(.lt none (.bin .neq) [.v 3,.v 8] 1 <|
(.ite (.v 13)
(.leaf .ret [.c (.bool false)] ())
(.lt none (.bin .neq) [.v 4,.v 9] 1 <|
(.ite (.v 14)
(.leaf .ret [.c (.bool false)] ())
(.leaf .ret [.c (.bool true)] ())))))))))))
def Zac:Tm Unit :=
(.lt none (.bin .neq) [.v 0,.v 2] 1 <|
(.ite (.v 4)
(.leaf .ret [.c (.bool false)] ())
(.call none 130 [.v 1,.v 3] 1 [] <|
(.lt none .not [.v 5] 1 <|
(.ite (.v 6)
(.leaf .ret [.c (.bool false)] ())
(.leaf .ret [.c (.bool true)] ()))))))
def Zab:Tm Unit :=
(.lt none .len [.v 0] 1 <|
(.lt none .len [.v 1] 1 <|
(.lt none (.bin .neq) [.v 2,.v 3] 1 <|
(.ite (.v 4)
(.leaf .ret [.c (.bool false)] ())
(.bind 1
(.loop [.c (.int .i64 0)]
(.lt none .len [.v 0] 1 <|
(.lt none (.bin .lss) [.v 5,.v 6] 1 <|
(.ite (.v 7)
(.lt none .inb [.v 0,.v 5] 0 <|
(.lt none (.row 1 0 [true]) [.v 0,.v 5] 1 <|
(.lt none .inb [.v 1,.v 5] 0 <|
(.lt none (.row 1 0 [true]) [.v 1,.v 5] 1 <|
(.lt none (.bin .neq) [.v 8,.v 9] 1 <|
(.ite (.v 10)
(.leaf .ret [.c (.bool false)] ())
(.lt none (.bin .add) [.v 5,.c (.int .i64 1)] 1 <|
(.leaf .cont [.v 11] ()))))))))
(.leaf (.yield 1) [] ()))))) <|
(.leaf .ret [.c (.bool true)] ()))))))
def Zaa:Tm Unit :=
(.lt none .len [.v 0] 1 <|
(.lt none .len [.v 1] 1 <|
(.lt none (.bin .neq) [.v 2,.v 3] 1 <|
(.ite (.v 4)
(.leaf .ret [.c (.bool false)] ())
(.bind 1
(.loop [.c (.int .i64 0)]
(.lt none .len [.v 0] 1 <|
(.lt none (.bin .lss) [.v 5,.v 6] 1 <|
(.ite (.v 7)
(.lt none .inb [.v 0,.v 5] 0 <|
(.lt none (.row 16 0 [true,true,true,true,true,true,true,true,true,true,false,true,false,true,false,false]) [.v 0,.v 5] 16 <|
(.lt none .inb [.v 1,.v 5] 0 <|
(.lt none (.row 16 0 [true,true,true,true,true,true,true,true,true,true,false,true,false,true,false,false]) [.v 1,.v 5] 16 <|
(.call none 132 [.v 8,.v 9,.v 10,.v 11,.v 12,.v 13,.v 14,.v 15,.v 16,.v 17,.v 18,.v 19,.v 20,.v 21,.v 22,.v 23,.v 24,.v 25,.v 26,.v 27,.v 28,.v 29,.v 30,.v 31,.v 32,.v 33,.v 34,.v 35,.v 36,.v 37,.v 38,.v 39] 1 [] <|
(.lt none .not [.v 40] 1 <|
(.ite (.v 41)
(.leaf .ret [.c (.bool false)] ())
(.lt none (.bin .add) [.v 5,.c (.int .i64 1)] 1 <|
(.leaf .cont [.v 42] ())))))))))
(.leaf (.yield 1) [] ()))))) <|
(.leaf .ret [.c (.bool true)] ()))))))
def Ya9:Tm Unit :=
(.lt none (.bin .neq) [.v 0,.v 16] 1 <|
(.ite (.v 32)
(.leaf .ret [.c (.bool false)] ())
(.lt none (.bin .neq) [.v 1,.v 17] 1 <|
(.ite (.v 33)
(.leaf .ret [.c (.bool false)] ())
(.lt none (.bin .neq) [.v 2,.v 18] 1 <|
(.ite (.v 34)
(.leaf .ret [.c (.bool false)] ())
(.lt none (.bin .neq) [.v 3,.v 19] 1 <|
(.ite (.v 35)
(.leaf .ret [.c (.bool false)] ())
(.call none 128 [.v 4,.v 5,.v 6,.v 7,.v 8,.v 20,.v 21,.v 22,.v 23,.v 24] 1 [] <|
(.lt none .not [.v 36] 1 <|
(.ite (.v 37)
(.leaf .ret [.c (.bool false)] ())
(.call none 129 [.v 9,.v 10,.v 25,.v 26] 1 [] <|
(.lt none .not [.v 38] 1 <|
(.ite (.v 39)
(.leaf .ret [.c (.bool false)] ())
(.call none 129 [.v 11,.v 12,.v 27,.v 28] 1 [] <|
(.lt none .not [.v 40] 1 <|
(.ite (.v 41)
(.leaf .ret [.c (.bool false)] ())
(.lt none (.eqb true) [.v 13,.v 29] 1 <|
(.ite (.v 42)
(.leaf .ret [.c (.bool false)] ())
(.call none 130 [.v 14,.v 30] 1 [] <|
(.lt none .not [.v 43] 1 <|
(.ite (.v 44)
(.leaf .ret [.c (.bool false)] ())
(.call none 126 [.v 15,.v 31] 1 [] <|
(.lt none .not [.v 45] 1 <|
(.ite (.v 46)
(.leaf .ret [.c (.bool false)] ())
(.leaf .ret [.c (.bool true)] ()))))))))))))))))))))))))))
def Ya8:Tm Unit :=
(.lt none .len [.v 0] 1 <|
(.lt none .len [.v 1] 1 <|
(.lt none (.bin .neq) [.v 2,.v 3] 1 <|
(.ite (.v 4)
(.leaf .ret [.c (.bool false)] ())
(.bind 1
(.loop [.c (.int .i64 0)]
(.lt none .len [.v 0] 1 <|
(.lt none (.bin .lss) [.v 5,.v 6] 1 <|
(.ite (.v 7)
(.lt none .inb [.v 0,.v 5] 0 <|
(.lt none (.row 15 0 [true,true,true,true,true,true,true,true,true,true,true,true,true,true,false]) [.v 0,.v 5] 15 <|
(.lt none .inb [.v 1,.v 5] 0 <|
(.lt none (.row 15 0 [true,true,true,true,true,true,true,true,true,true,true,true,true,true,false]) [.v 1,.v 5] 15 <|
(.call none 134 [.v 8,.v 9,.v 10,.v 11,.v 12,.v 13,.v 14,.v 15,.v 16,.v 17,.v 18,.v 19,.v 20,.v 21,.v 22,.v 23,.v 24,.v 25,.v 26,.v 27,.v 28,.v 29,.v 30,.v 31,.v 32,.v 33,.v 34,.v 35,.v 36,.v 37] 1 [] <|
(.lt none .not [.v 38] 1 <|
(.ite (.v 39)
(.leaf .ret [.c (.bool false)] ())
(.lt none (.bin .add) [.v 5,.c (.int .i64 1)] 1 <|
(.leaf .cont [.v 40] ())))))))))
(.leaf (.yield 1) [] ()))))) <|
(.leaf .ret [.c (.bool true)] ()))))))
def Ya7:Tm Unit :=
(.lt none (.bin .neq) [.v 0,.v 15] 1 <|
(.ite (.v 30)
(.leaf .ret [.c (.bool false)] ())
(.lt none (.bin .neq) [.v 1,.v 16] 1 <|
(.ite (.v 31)
(.leaf .ret [.c (.bool false)] ())
(.lt none (.bin .neq) [.v 2,.v 17] 1 <|
(.ite (.v 32)
(.leaf .ret [.c (.bool false)] ())
(.lt none (.bin .neq) [.v 3,.v 18] 1 <|
(.ite (.v 33)
(.leaf .ret [.c (.bool false)] ())
(.lt none (.bin .neq) [.v 4,.v 19] 1 <|
(.ite (.v 34)
(.leaf .ret [.c (.bool false)] ())
(.lt none (.bin .neq) [.v 5,.v 20] 1 <|
(.ite (.v 35)
(.leaf .ret [.c (.bool false)] ())
(.lt none (.bin .neq) [.v 6,.v 21] 1 <|
(.ite (.v 36)
(.leaf .ret [.c (.bool false)] ())
(.lt none (.bin .neq) [.v 7,.v 22] 1 <|
(.ite (.v 37)
(.leaf .ret [.c (.bool false)] ())
(.call none 128 [.v 8,.v 9,.v 10,.v 11,.v 12,.v 23,.v 24,.v 25,.v 26,.v 27] 1 [] <|
(.lt none .not [.v 38] 1 <|
(.ite (.v 39)
(.leaf .ret [.c (.bool false)] ())
(.call none 129 [.v 13,.v 14,.v 28,.v 29] 1 [] <|
(.lt none .not [.v 40] 1 <|
(.ite (.v 41)
(.leaf .ret [.c (.bool false)] ())
(.leaf .ret [.c (.bool true)] ())))))))))))))))))))))))
def Ya6:Tm Unit :=
(.call none 136 [.v 1,.v 2,.v 4] 2 [] <|
(.call none 140 [.v 3,.v 5] 2 [] <|
(.leaf .ret [.v 7,.v 6,.v 8] ())))
def Ya5:Tm Unit :=
(.call none 137 [.v 1,.v 2] 2 [] <|
(.leaf .ret [.v 3,.v 4] ()))
def Ya4:Tm Unit :=
(.bind 1
(.loop [.v 0,.c .undef,.v 1,.c (.int .i64 0)]
(.lt none .len [.v 2] 1 <|
(.lt none (.bin .lss) [.v 5,.v 6] 1 <|
(.ite (.v 7)
(.lt none .inb [.v 2,.v 5] 0 <|
(.lt none (.row 1 0 [false]) [.v 2,.v 5] 1 <|
(.call none 138 [.v 8,.v 4] 2 [] <|
(.lt none (.set 1 0 1) [.v 2,.v 5,.v 10] 1 <|
(.lt none (.bin .add) [.v 5,.c (.int .i64 1)] 1 <|
(.leaf .cont [.v 11,.c .undef,.v 9,.v 12] ()))))))
(.leaf (.yield 1) [.v 2,.v 4] ()))))) <|
(.leaf .ret [.v 3,.v 2] ()))
def Ya3:Tm Unit :=
(.bind 1
(.loop [.v 0,.c .undef,.v 1,.c (.int .i64 0)]
(.lt none .len [.v 2] 1 <|
(.lt none (.bin .lss) [.v 5,.v 6] 1 <|
(.ite (.v 7)
(.lt none .inb [.v 2,.v 5] 0 <|
(.lt none (.set 10 0 1) [.v 2,.v 5,.v 4] 1 <|
(.lt none (.bin .add) [.v 4,.c (.int .i64 1)] 1 <|
(.lt none .inb [.v 8,.v 5] 0 <|
(.lt none (.set 10 1 1) [.v 8,.v 5,.v 9] 1 <|
(.lt none (.bin .add) [.v 9,.c (.int .i64 1)] 1 <|
(.lt none .inb [.v 10,.v 5] 0 <|
(.lt none (.set 10 2 1) [.v 10,.v 5,.v 11] 1 <|
(.lt none (.bin .add) [.v 11,.c (.int .i64 1)] 1 <|
(.lt none .inb [.v 12,.v 5] 0 <|
(.lt none (.set 10 3 1) [.v 12,.v 5,.v 13] 1 <|
(.lt none (.bin .add) [.v 13,.c (.int .i64 1)] 1 <|
(.lt none .inb [.v 14,.v 5] 0 <|
(.lt none (.set 10 4 1) [.v 14,.v 5,.v 15] 1 <|
(.lt none (.bin .add) [.v 15,.c (.int .i64 1)] 1 <|
(.lt none .inb [.v 16,.v 5] 0 <|
(.lt none (.set 10 5 1) [.v 16,.v 5,.v 17] 1 <|
(.lt none (.bin .add) [.v 17,.c (.int .i64 1)] 1 <|
(.lt none .inb [.v 18,.v 5] 0 <|
(.lt none (.set 10 6 1) [.v 18,.v 5,.v 19] 1 <|
(.lt none (.bin .add) [.v 19,.c (.int .i64 1)] 1 <|
(.lt none .inb [.v 20,.v 5] 0 <|
(.lt none (.set 10 7 1) [.v 20,.v 5,.v 21] 1 <|
(.lt none (.bin .add) [.v 21,.c (.int .i64 1)] 1 <|
(.lt none .inb [.v 22,.v 5] 0 <|
(.lt none (.set 10 8 1) [.v 22,.v 5,.v 23] 1 <|
(.lt none (.bin .add) [.v 23,.c (.int .i64 1)] 1 <|
(.lt none .inb [.v 24,.v 5] 0 <|
(.lt none (.row 10 9 [false]) [.v 24,.v 5] 1 <|
(.call none 139 [.v 26,.v 25] 2 [] <|
(.lt none (.set 10 9 1) [.v 24,.v 5,.v 28] 1 <|
(.lt none (.bin .add) [.v 5,.c (.int .i64 1)] 1 <|
(.leaf .cont [.v 29,.c .undef,.v 27,.v 30] ())))))))))))))))))))))))))))))))))
(.leaf (.yield 1) [.v 2,.v 4] ()))))) <|
(.leaf .ret [.v 3,.v 2] ()))
def Ya2:Tm Unit :=
(.bind 1
(.loop [.v 0,.c .undef,.v 1,.c (.int .i64 0)]
(.lt none .len [.v 2] 1 <|
(.lt none (.bin .lss) [.v 5,.v 6] 1 <|
(.ite (.v 7)
(.lt none .inb [.v 2,.v 5] 0 <|
(.lt none (.set 1 0 1) [.v 2,.v 5,.v 4] 1 <|
(.lt none (.bin .add) [.v 4,.c (.int .i64 1)] 1 <|
(.lt none (.bin .add) [.v 5,.c (.int .i64 1)] 1 <|
(.leaf .cont [.v 8,.c .undef,.v 9,.v 10] ())))))
(.leaf (.yield 1) [.v 2,.v 4] ()))))) <|
(.leaf .ret [.v 3,.v 2] ()))
def Ya1:Tm Unit :=
(.bind 1
(.loop [.v 0,.c .undef,.v 1,.c (.int .i64 0)]
(.lt none .len [.v 2] 1 <|
(.lt none (.bin .lss) [.v 5,.v 6] 1 <|
(.ite (.v 7)
(.lt none .inb [.v 2,.v 5] 0 <|
(.lt none (.set 16 0 1) [.v 2,.v 5,.v 4] 1 <|
(.lt none (.bin .add) [.v 4,.c (.int .i64 1)] 1 <|
(.lt none .inb [.v 8,.v 5] 0 <|
(.lt none (.set 16 1 1) [.v 8,.v 5,.v 9] 1 <|
(.lt none (.bin .add) [.v 9,.c (.int .i64 1)] 1 <|
(.lt none .inb [.v 10,.v 5] 0 <|
(.lt none (.set 16 2 1) [.v 10,.v 5,.v 11] 1 <|
(.lt none (.bin .add) [.v 11,.c (.int .i64 1)] 1 <|
(.lt none .inb [.v 12,.v 5] 0 <|
(.lt none (.set 16 3 1) [.v 12,.v 5,.v 13] 1 <|
(.lt none (.bin .add) [.v 13,.c (.int .i64 1)] 1 <|
(.lt none .inb [.v 14,.v 5] 0 <|
(.lt none (.set 16 4 1) [.v 14,.v 5,.v 15] 1 <|
(.lt none (.bin .add) [.v 15,.c (.int .i64 1)] 1 <|
(.lt none .inb [.v 16,.v 5] 0 <|
(.lt none (.set 16 5 1) [.v 16,.v 5,.v 17] 1 <|
(.lt none (.bin .add) [.v 17,.c (.int .i64 1)] 1 <|
(.lt none .inb [.v 18,.v 5] 0 <|
(.lt none (.set 16 6 1) [.v 18,.v 5,.v 19] 1 <|
(.lt none (.bin .add) [.v 19,.c (.int .i64 1)] 1 <|
(.lt none .inb [.v 20,.v 5] 0 <|
(.lt none (.set 16 7 1) [.v 20,.v 5,.v 21] 1 <|
(.lt none (.bin .add) [.v 21,.c (.int .i64 1)] 1 <|
(.lt none .inb [.v 22,.v 5] 0 <|
(.lt none (.set 16 8 1) [.v 22,.v 5,.v 23] 1 <|
(.lt none (.bin .add) [.v 23,.c (.int .i64 1)] 1 <|
(.lt none .inb [.v 24,.v 5] 0 <|
(.lt none (.set 16 9 1) [.v 24,.v 5,.v 25] 1 <|
(.lt none (.bin .add) [.v 25,.c (.int .i64 1)] 1 <|
(.lt none .inb [.v 26,.v 5] 0 <|
(.lt none (.row 16 10 [false]) [.v 26,.v 5] 1 <|
(.call none 139 [.v 28,.v 27] 2 [] <|
(.lt none (.dep 1) [.v 30] 0 <|
(.lt none (.set 16 10 1) [.v 26,.v 5,.v 30] 1 <|
(.lt none .inb [.v 31,.v 5] 0 <|
(.lt none (.set 16 11 1) [.v 31,.v 5,.v 29] 1 <|
(.lt none (.bin .add) [.v 29,.c (.int .i64 1)] 1 <|
(.lt none .inb [.v 32,.v 5] 0 <|
(.lt none (.row 16 12 [false]) [.v 32,.v 5] 1 <|
(.call none 139 [.v 34,.v 33] 2 [] <|
(.lt none (.dep 1) [.v 36] 0 <|
(.lt none (.set 16 12 1) [.v 32,.v 5,.v 36] 1 <|
(.lt none (.bin .rem) [.v 35,.c (.int .i64 3)] 1 <|
(.lt none (.bin .eql) [.v 38,.c (.int .i64 0)] 1 <|
(.lt none .inb [.v 37,.v 5] 0 <|
(.lt none (.set 16 13 1) [.v 37,.v 5,.v 39] 1 <|
(.lt none (.bin .add) [.v 35,.c (.int .i64 1)] 1 <|
(.lt none .inb [.v 40,.v 5] 0 <|
(.lt none (.row 16 14 [false]) [.v 40,.v 5] 1 <|
(.call none 139 [.v 42,.v 41] 2 [] <|
(.lt none (.dep 1) [.v 44] 0 <|
(.lt none (.set 16 14 1) [.v 40,.v 5,.v 44] 1 <|
(.lt none .inb [.v 45,.v 5] 0 <|
(.lt none (.row 16 15 [false]) [.v 45,.v 5] 1 <|
(.call none 138 [.v 46,.v 43] 2 [] <|
(.lt none (.set 16 15 1) [.v 45,.v 5,.v 48] 1 <|
(.lt none (.bin .add) [.v 5,.c (.int .i64 1)] 1 <|
(.leaf .cont [.v 49,.c .undef,.v 47,.v 50] ())))))))))))))))))))))))))))))))))))))))))))))))))))))))))))
(.leaf (.yield 1) [.v 2,.v 4] ()))))) <|
(.leaf .ret [.v 3,.v 2] ()))
def Ya0:Tm Unit :=
(.bind 1
(.loop [.v 0,.c .undef,.v 1,.c (.int .i64 0)]
(.lt none .len [.v 2] 1 <|
(.lt none (.bin .lss) [.v 5,.v 6] 1 <|
(.ite (.v 7)
(.lt none .inb [.v 2,.v 5] 0 <|
(.lt none (.set 15 0 1) [.v 2,.v 5,.v 4] 1 <|
(.lt none (.bin .add) [.v 4,.c (.int .i64 1)] 1 <|
(.lt none .inb [.v 8,.v 5] 0 <|
(.lt none (.set 15 1 1) [.v 8,.v 5,.v 9] 1 <|
(.lt none (.bin .add) [.v 9,.c (.int .i64 1)] 1 <|
(.lt none .inb [.v 10,.v 5] 0 <|
(.lt none (.set 15 2 1) [.v 10,.v 5,.v 11] 1 <|
(.lt none (.bin .add) [.v 11,.c (.int .i64 1)] 1 <|
(.lt none .inb [.v 12,.v 5] 0 <|
(.lt none (.set 15 3 1) [.v 12,.v 5,.v 13] 1 <|
(.lt none (.bin .add) [.v 13,.c (.int .i64 1)] 1 <|
(.lt none .inb [.v 14,.v 5] 0 <|
(.lt none (.set 15 4 1) [.v 14,.v 5,.v 15] 1 <|
(.lt none (.bin .add) [.v 15,.c (.int .i64 1)] 1 <|
(.lt none .inb [.v 16,.v 5] 0 <|
(.lt none (.set 15 5 1) [.v 16,.v 5,.v 17] 1 <|
(.lt none (.bin .add) [.v 17,.c (.int .i64 1)] 1 <|
(.lt none .inb [.v 18,.v 5] 0 <|
(.lt none (.set 15 6 1) [.v 18,.v 5,.v 19] 1 <|
(.lt none (.bin .add) [.v 19,.c (.int .i64 1)] 1 <|
(.lt none .inb [.v 20,.v 5] 0 <|
(.lt none (.set 15 7 1) [.v 20,.v 5,.v 21] 1 <|
(.lt none (.bin .add) [.v 21,.c (.int .i64 1)] 1 <|
(.lt none .inb [.v 22,.v 5] 0 <|
(.lt none (.set 15 8 1) [.v 22,.v 5,.v 23] 1 <|
(.lt none (.bin .add) [.v 23,.c (.int .i64 1)] 1 <|
(.lt none .inb [.v 24,.v 5] 0 <|
(.lt none (.set 15 9 1) [.v 24,.v 5,.v 25] 1 <|
(.lt none (.bin .add) [.v 25,.c (.int .i64 1)] 1 <|
(.lt none .inb [.v 26,.v 5] 0 <|
(.lt none (.set 15 10 1) [.v 26,.v 5,.v 27] 1 <|
(.lt none (.bin .add) [.v 27,.c (.int .i64 1)] 1 <|
(.lt none .inb [.v 28,.v 5] 0 <|
(.lt none (.set 15 11 1) [.v 28,.v 5,.v 29] 1 <|
(.lt none (.bin .add) [.v 29,.c (.int .i64 1)] 1 <|
(.lt none .inb [.v 30,.v 5] 0 <|
(.lt none (.set 15 12 1) [.v 30,.v 5,.v 31] 1 <|
(.lt none (.bin .add) [.v 31,.c (.int .i64 1)] 1 <|
(.lt none .inb [.v 32,.v 5] 0 <|
(.lt none (.set 15 13 1) [.v 32,.v 5,.v 33] 1 <|
(.lt none (.bin .add) [.v 33,.c (.int .i64 1)] 1 <|
(.lt none .inb [.v 34,.v 5] 0 <|
(.lt none (.row 15 14 [false]) [.v 34,.v 5] 1 <|
(.call none 139 [.v 36,.v 35] 2 [] <|
(.lt none (.set 15 14 1) [.v 34,.v 5,.v 38] 1 <|
(.lt none (.bin .add) [.v 5,.c (.int .i64 1)] 1 <|
(.leaf .cont [.v 39,.c .undef,.v 37,.v 40] ()))))))))))))))))))))))))))))))))))))))))))))))))
(.leaf (.yield 1) [.v 2,.v 4] ()))))) <|
(.leaf .ret [.v 3,.v 2] ()))
def Yaz:Tm Unit :=
(.call none 143 [.v 1,.v 2,.v 4] 1 [] <|
(.lt none (.bin .lss) [.v 5,.c (.int .i64 0)] 1 <|
(.ite (.v 6)
(.leaf .ret [.c (.int .i64 (-1))] ())
(.call none 147 [.v 3,.v 5] 1 [] <|
(.lt none (.bin .lss) [.v 7,.c (.int .i64 0)] 1 <|
(.ite (.v 8)
(.leaf .ret [.c (.int .i64 (-1))] ())
(.leaf .ret [.v 7] ())))))))
def Yay:Tm Unit :=
(.call none 144 [.v 1,.v 2] 1 [] <|
(.lt none (.bin .lss) [.v 3,.c (.int .i64 0)] 1 <|
(.ite (.v 4)
(.leaf .ret [.c (.int .i64 (-1))] ())
(.leaf .ret [.v 3] ()))))
def Yax:Tm Unit :=
(.bind 1
(.loop [.v 1,.c (.int .i64 0)]
(.lt none .len [.v 0] 1 <|
(.lt none (.bin .lss) [.v 3,.v 4] 1 <|
(.ite (.v 5)
(.lt none .inb [.v 0,.v 3] 0 <|
(.lt none (.row 1 0 [false]) [.v 0,.v 3] 1 <|
(.call none 145 [.v 6,.v 2] 1 [] <|
(.lt none (.bin .lss) [.v 7,.c (.int .i64 0)] 1 <|
(.ite (.v 8)
(.leaf .ret [.c (.int .i64 (-1))] ())
(.lt none (.bin .add) [.v 3,.c (.int .i64 1)] 1 <|
(.leaf .cont [.v 7,.v 9] ())))))))
(.leaf (.yield 1) [.v 2] ()))))) <|
(.leaf .ret [.v 2] ()))
def Yaw:Tm Unit :=
(.bind 1
(.loop [.v 1,.c (.int .i64 0)]
(.lt none .len [.v 0] 1 <|
(.lt none (.bin .lss) [.v 3,.v 4] 1 <|
(.ite (.v 5)
(.lt none .inb [.v 0,.v 3] 0 <|
(.lt none (.row 10 0 [true]) [.v 0,.v 3] 1 <|
(.lt none (.bin .neq) [.v 6,.v 2] 1 <|
(.ite (.v 7)
(.leaf .ret [.c (.int .i64 (-1))] ())
(.lt none (.bin .add) [.v 2,.c (.int .i64 1)] 1 <|
(.lt none .inb [.v 0,.v 3] 0 <|
(.lt none (.row 10 1 [true]) [.v 0,.v 3] 1 <|
(.lt none (.bin .neq) [.v 9,.v 8] 1 <|
(.ite (.v 10)
(.leaf .ret [.c (.int .i64 (-1))] ())
(.lt none (.bin .add) [.v 8,.c (.int .i64 1)] 1 <|
(.lt none .inb [.v 0,.v 3] 0 <|
(.lt none (.row 10 2 [true]) [.v 0,.v 3] 1 <|
(.lt none (.bin .neq) [.v 12,.v 11] 1 <|
(.ite (.v 13)
(.leaf .ret [.c (.int .i64 (-1))] ())
(.lt none (.bin .add) [.v 11,.c (.int .i64 1)] 1 <|
(.lt none .inb [.v 0,.v 3] 0 <|
(.lt none (.row 10 3 [true]) [.v 0,.v 3] 1 <|
(.lt none (.bin .neq) [.v 15,.v 14] 1 <|
(.ite (.v 16)
(.leaf .ret [.c (.int .i64 (-1))] ())
(.lt none (.bin .add) [.v 14,.c (.int .i64 1)] 1 <|
(.lt none .inb [.v 0,.v 3] 0 <|
(.lt none (.row 10 4 [true]) [.v 0,.v 3] 1 <|
(.lt none (.bin .neq) [.v 18,.v 17] 1 <|
(.ite (.v 19)
(.leaf .ret [.c (.int .i64 (-1))] ())
(.lt none (.bin .add) [.v 17,.c (.int .i64 1)] 1 <|
(.lt none .inb [.v 0,.v 3] 0 <|
(.lt none (.row 10 5 [true]) [.v 0,.v 3] 1 <|
(.lt none (.bin .neq) [.v 21,.v 20] 1 <|
(.ite (.v 22)
(.leaf .ret [.c (.int .i64 (-1))] ())
(.lt none (.bin .add) [.v 20,.c (.int .i64 1)] 1 <|
(.lt none .inb [.v 0,.v 3] 0 <|
(.lt none (.row 10 6 [true]) [.v 0,.v 3] 1 <|
(.lt none (.bin .neq) [.v 24,.v 23] 1 <|
(.ite (.v 25)
(.leaf .ret [.c (.int .i64 (-1))] ())
(.lt none (.bin .add) [.v 23,.c (.int .i64 1)] 1 <|
(.lt none .inb [.v 0,.v 3] 0 <|
(.lt none (.row 10 7 [true]) [.v 0,.v 3] 1 <|
(.lt none (.bin .neq) [.v 27,.v 26] 1 <|
(.ite (.v 28)
(.leaf .ret [.c (.int .i64 (-1))] ())
(.lt none (.bin .add) [.v 26,.c (.int .i64 1)] 1 <|
(.lt none .inb [.v 0,.v 3] 0 <|
(.lt none (.row 10 8 [true]) [.v 0,.v 3] 1 <|
(.lt none (.bin .neq) [.v 30,.v 29] 1 <|
(.ite (.v 31)
(.leaf .ret [.c (.int .i64 (-1))] ())
(.lt none (.bin .add) [.v 29,.c (.int .i64 1)] 1 <|
(.lt none .inb [.v 0,.v 3] 0 <|
(.lt none (.row 10 9 [false]) [.v 0,.v 3] 1 <|
(.call none 146 [.v 33,.v 32] 1 [] <|
(.lt none (.bin .lss) [.v 34,.c (.int .i64 0)] 1 <|
(.ite (.v 35)
(.leaf .ret [.c (.int .i64 (-1))] ())
(.lt none (.bin .add) [.v 3,.c (.int .i64 1)] 1 <|
(.leaf .cont [.v 34,.v 36] ()))))))))))))))))))))))))))))))))))))))))))))))))))))
(.leaf (.yield 1) [.v 2] ()))))) <|
(.leaf .ret [.v 2] ()))
def Yav:Tm Unit :=
(.bind 1
(.loop [.v 1,.c (.int .i64 0)]
(.lt none .len [.v 0] 1 <|
(.lt none (.bin .lss) [.v 3,.v 4] 1 <|
(.ite (.v 5)
(.lt none .inb [.v 0,.v 3] 0 <|
(.lt none (.row 1 0 [true]) [.v 0,.v 3] 1 <|
(.lt none (.bin .neq) [.v 6,.v 2] 1 <|
(.ite (.v 7)
(.leaf .ret [.c (.int .i64 (-1))] ())
(.lt none (.bin .add) [.v 2,.c (.int .i64 1)] 1 <|
(.lt none (.bin .add) [.v 3,.c (.int .i64 1)] 1 <|
(.leaf .cont [.v 8,.v 9] ())))))))
(.leaf (.yield 1) [.v 2] ()))))) <|
(.leaf .ret [.v 2] ()))
def Yau:Tm Unit :=
(.bind 1
(.loop [.v 1,.c (.int .i64 0)]
(.lt none .len [.v 0] 1 <|
(.lt none (.bin .lss) [.v 3,.v 4] 1 <|
(.ite (.v 5)
(.lt none .inb [.v 0,.v 3] 0 <|
(.lt none (.row 16 0 [true]) [.v 0,.v 3] 1 <|
(.lt none (.bin .neq) [.v 6,.v 2] 1 <|
(.ite (.v 7)
(.leaf .ret [.c (.int .i64 (-1))] ())
(.lt none (.bin .add) [.v 2,.c (.int .i64 1)] 1 <|
(.lt none .inb [.v 0,.v 3] 0 <|
(.lt none (.row 16 1 [true]) [.v 0,.v 3] 1 <|
(.lt none (.bin .neq) [.v 9,.v 8] 1 <|
(.ite (.v 10)
(.leaf .ret [.c (.int .i64 (-1))] ())
(.lt none (.bin .add) [.v 8,.c (.int .i64 1)] 1 <|
(.lt none .inb [.v 0,.v 3] 0 <|
(.lt none (.row 16 2 [true]) [.v 0,.v 3] 1 <|
(.lt none (.bin .neq) [.v 12,.v 11] 1 <|
(.ite (.v 13)
(.leaf .ret [.c (.int .i64 (-1))] ())
(.lt none (.bin .add) [.v 11,.c (.int .i64 1)] 1 <|
(.lt none .inb [.v 0,.v 3] 0 <|
(.lt none (.row 16 3 [true]) [.v 0,.v 3] 1 <|
(.lt none (.bin .neq) [.v 15,.v 14] 1 <|
(.ite (.v 16)
(.leaf .ret [.c (.int .i64 (-1))] ())
(.lt none (.bin .add) [.v 14,.c (.int .i64 1)] 1 <|
(.lt none .inb [.v 0,.v 3] 0 <|
(.lt none (.row 16 4 [true]) [.v 0,.v 3] 1 <|
(.lt none (.bin .neq) [.v 18,.v 17] 1 <|
(.ite (.v 19)
(.leaf .ret [.c (.int .i64 (-1))] ())
(.lt none (.bin .add) [.v 17,.c (.int .i64 1)] 1 <|
(.lt none .inb [.v 0,.v 3] 0 <|
(.lt none (.row 16 5 [true]) [.v 0,.v 3] 1 <|
(.lt none (.bin .neq) [.v 21,.v 20] 1 <|
(.ite (.v 22)
(.leaf .ret [.c (.int .i64 (-1))] ())
(.lt none (.bin .add) [.v 20,.c (.int .i64 1)] 1 <|
(.lt none .inb [.v 0,.v 3] 0 <|
(.lt none (.row 16 6 [true]) [.v 0,.v 3] 1 <|
(.lt none (.bin .neq) [.v 24,.v 23] 1 <|
(.ite (.v 25)
(.leaf .ret [.c (.int .i64 (-1))] ())
(.lt none (.bin .add) [.v 23,.c (.int .i64 1)] 1 <|
(.lt none .inb [.v 0,.v 3] 0 <|
(.lt none (.row 16 7 [true]) [.v 0,.v 3] 1 <|
(.lt none (.bin .neq) [.v 27,.v 26] 1 <|
(.ite (.v 28)
(.leaf .ret [.c (.int .i64 (-1))] ())
(.lt none (.bin .add) [.v 26,.c (.int .i64 1)] 1 <|
(.lt none .inb [.v 0,.v 3] 0 <|
(.lt none (.row 16 8 [true]) [.v 0,.v 3] 1 <|
(.lt none (.bin .neq) [.v 30,.v 29] 1 <|
(.ite (.v 31)
(.leaf .ret [.c (.int .i64 (-1))] ())
(.lt none (.bin .add) [.v 29,.c (.int .i64 1)] 1 <|
(.lt none .inb [.v 0,.v 3] 0 <|
(.lt none (.row 16 9 [true]) [.v 0,.v 3] 1 <|
(.lt none (.bin .neq) [.v 33,.v 32] 1 <|
(.ite (.v 34)
(.leaf .ret [.c (.int .i64 (-1))] ())
(.lt none (.bin .add) [.v 32,.c (.int .i64 1)] 1 <|
(.lt none .inb [.v 0,.v 3] 0 <|
(.lt none (.row 16 10 [false]) [.v 0,.v 3] 1 <|
(.call none 146 [.v 36,.v 35] 1 [] <|
(.lt none (.bin .lss) [.v 37,.c (.int .i64 0)] 1 <|
(.ite (.v 38)
(.leaf .ret [.c (.int .i64 (-1))] ())
(.lt none .inb [.v 0,.v 3] 0 <|
(.lt none (.row 16 11 [true]) [.v 0,.v 3] 1 <|
(.lt none (.bin .neq) [.v 39,.v 37] 1 <|
(.ite (.v 40)
(.leaf .ret [.c (.int .i64 (-1))] ())
(.lt none (.bin .add) [.v 37,.c (.int .i64 1)] 1 <|
(.lt none .inb [.v 0,.v 3] 0 <|
(.lt none (.row 16 12 [false]) [.v 0,.v 3] 1 <|
(.call none 146 [.v 42,.v 41] 1 [] <|
(.lt none (.bin .lss) [.v 43,.c (.int .i64 0)] 1 <|
(.ite (.v 44)
(.leaf .ret [.c (.int .i64 (-1))] ())
(.lt none .inb [.v 0,.v 3] 0 <|
(.lt none (.row 16 13 [true]) [.v 0,.v 3] 1 <|
(.lt none (.bin .rem) [.v 43,.c (.int .i64 3)] 1 <|
(.lt none (.bin .eql) [.v 46,.c (.int .i64 0)] 1 <|
(.lt none (.eqb true) [.v 45,.v 47] 1 <|
(.ite (.v 48)
(.leaf .ret [.c (.int .i64 (-1))] ())
(.lt none (.bin .add) [.v 43,.c (.int .i64 1)] 1 <|
(.lt none .inb [.v 0,.v 3] 0 <|
(.lt none (.row 16 14 [false]) [.v 0,.v 3] 1 <|
(.call none 146 [.v 50,.v 49] 1 [] <|
(.lt none (.bin .lss) [.v 51,.c (.int .i64 0)] 1 <|
(.ite (.v 52)
(.leaf .ret [.c (.int .i64 (-1))] ())
(.lt none .inb [.v 0,.v 3] 0 <|
(.lt none (.row 16 15 [false]) [.v 0,.v 3] 1 <|
(.call none 145 [.v 53,.v 51] 1 [] <|
(.lt none (.bin .lss) [.v 54,.c (.int .i64 0)] 1 <|
(.ite (.v 55)
(.leaf .ret [.c (.int .i64 (-1))] ())
(.lt none (.bin .add) [.v 3,.c (.int .i64 1)] 1 <|
(.leaf .cont [.v 54,.v 56] ()))))))))))))))))))))))))))))))))))))))))))))))))))))))))))))))))))))))))))))))))))))
(.leaf (.yield 1) [.v 2] ()))))) <|
(.leaf .ret [.v 2] ()))
def Yat:Tm Unit :=
(.bind 1
(.loop [.v 1,.c (.int .i64 0)]
(.lt none .len [.v 0] 1 <|
(.lt none (.bin .lss) [.v 3,.v 4] 1 <|
(.ite (.v 5)
(.lt none .inb [.v 0,.v 3] 0 <|
(.lt none (.row 15 0 [true]) [.v 0,.v 3] 1 <|
(.lt none (.bin .neq) [.v 6,.v 2] 1 <|
(.ite (.v 7)
(.leaf .ret [.c (.int .i64 (-1))] ())
(.lt none (.bin .add) [.v 2,.c (.int .i64 1)] 1 <|
(.lt none .inb [.v 0,.v 3] 0 <|
(.lt none (.row 15 1 [true]) [.v 0,.v 3] 1 <|
(.lt none (.bin .neq) [.v 9,.v 8] 1 <|
(.ite (.v 10)
(.leaf .ret [.c (.int .i64 (-1))] ())
(.lt none (.bin .add) [.v 8,.c (.int .i64 1)] 1 <|
(.lt none .inb [.v 0,.v 3] 0 <|
(.lt none (.row 15 2 [true]) [.v 0,.v 3] 1 <|
(.lt none (.bin .neq) [.v 12,.v 11] 1 <|
(.ite (.v 13)
(.leaf .ret [.c (.int .i64 (-1))] ())
(.lt none (.bin .add) [.v 11,.c (.int .i64 1)] 1 <|
(.lt none .inb [.v 0,.v 3] 0 <|
(.lt none (.row 15 3 [true]) [.v 0,.v 3] 1 <|
(.lt none (.bin .neq) [.v 15,.v 14] 1 <|
(.ite (.v 16)
(.leaf .ret [.c (.int .i64 (-1))] ())
(.lt none (.bin .add) [.v 14,.c (.int .i64 1)] 1 <|
(.lt none .inb [.v 0,.v 3] 0 <|
(.lt none (.row 15 4 [true]) [.v 0,.v 3] 1 <|
(.lt none (.bin .neq) [.v 18,.v 17] 1 <|
(.ite (.v 19)
(.leaf .ret [.c (.int .i64 (-1))] ())
(.lt none (.bin .add) [.v 17,.c (.int .i64 1)] 1 <|
(.lt none .inb [.v 0,.v 3] 0 <|
(.lt none (.row 15 5 [true]) [.v 0,.v 3] 1 <|
(.lt none (.bin .neq) [.v 21,.v 20] 1 <|
(.ite (.v 22)
(.leaf .ret [.c (.int .i64 (-1))] ())
(.lt none (.bin .add) [.v 20,.c (.int .i64 1)] 1 <|
(.lt none .inb [.v 0,.v 3] 0 <|
(.lt none (.row 15 6 [true]) [.v 0,.v 3] 1 <|
(.lt none (.bin .neq) [.v 24,.v 23] 1 <|
(.ite (.v 25)
(.leaf .ret [.c (.int .i64 (-1))] ())
(.lt none (.bin .add) [.v 23,.c (.int .i64 1)] 1 <|
(.lt none .inb [.v 0,.v 3] 0 <|
(.lt none (.row 15 7 [true]) [.v 0,.v 3] 1 <|
(.lt none (.bin .neq) [.v 27,.v 26] 1 <|
(.ite (.v 28)
(.leaf .ret [.c (.int .i64 (-1))] ())
(.lt none (.bin .add) [.v 26,.c (.int .i64 1)] 1 <|
(.lt none .inb [.v 0,.v 3] 0 <|
(.lt none (.row 15 8 [true]) [.v 0,.v 3] 1 <|
(.lt none (.bin .neq) [.v 30,.v 29] 1 <|
(.ite (.v 31)
(.leaf .ret [.c (.int .i64 (-1))] ())
(.lt none (.bin .add) [.v 29,.c (.int .i64 1)] 1 <|
(.lt none .inb [.v 0,.v 3] 0 <|
(.lt none (.row 15 9 [true]) [.v 0,.v 3] 1 <|
(.lt none (.bin .neq) [.v 33,.v 32] 1 <|
(.ite (.v 34)
(.leaf .ret [.c (.int .i64 (-1))] ())
(.lt none (.bin .add) [.v 32,.c (.int .i64 1)] 1 <|
(.lt none .inb [.v 0,.v 3] 0 <|
(.lt none (.row 15 10 [true]) [.v 0,.v 3] 1 <|
(.lt none (.bin .neq) [.v 36,.v 35] 1 <|
(.ite (.v 37)
(.leaf .ret [.c (.int .i64 (-1))] ())
(.lt none (.bin .add) [.v 35,.c (.int .i64 1)] 1 <|
(.lt none .inb [.v 0,.v 3] 0 <|
(.lt none (.row 15 11 [true]) [.v 0,.v 3] 1 <|
(.lt none (.bin .neq) [.v 39,.v 38] 1 <|
(.ite (.v 40)
(.leaf .ret [.c (.int .i64 (-1))] ())
(.lt none (.bin .add) [.v 38,.c (.int .i64 1)] 1 <|
(.lt none .inb [.v 0,.v 3] 0 <|
(.lt none (.row 15 12 [true]) [.v 0,.v 3] 1 <|
(.lt none (.bin .neq) [.v 42,.v 41] 1 <|
(.ite (.v 43)
(.leaf .ret [.c (.int .i64 (-1))] ())
(.lt none (.bin .add) [.v 41,.c (.int .i64 1)] 1 <|
(.lt none .inb [.v 0,.v 3] 0 <|
(.lt none (.row 15 13 [true]) [.v 0,.v 3] 1 <|
(.lt none (.bin .neq) [.v 45,.v 44] 1 <|
(.ite (.v 46)
(.leaf .ret [.c (.int .i64 (-1))] ())
(.lt none (.bin .add) [.v 44,.c (.int .i64 1)] 1 <|
(.lt none .inb [.v 0,.v 3] 0 <|
(.lt none (.row 15 14 [false]) [.v 0,.v 3] 1 <|
(.call none 146 [.v 48,.v 47] 1 [] <|
(.lt none (.bin .lss) [.v 49,.c (.int .i64 0)] 1 <|
(.ite (.v 50)
(.leaf .ret [.c (.int .i64 (-1))] ())
(.lt none (.bin .add) [.v 3,.c (.int .i64 1)] 1 <|
(.leaf .cont [.v 49,.v 51] ())))))))))))))))))))))))))))))))))))))))))))))))))))))))))))))))))))))))))))))
(.leaf (.yield 1) [.v 2] ()))))) <|
(.leaf .ret [.v 2] ()))
theorem Lb9:∀ n,sO Tryz.prog (Nay [(100,.tm Sag)]) n 100 Vaa:=fun n=>contracts Cbi (by kernel_rfl) (Rax (List.forall_mem_cons.2 ⟨Wa9 (E:=⟨tK tiL,[(100,Vaa)],0,0,false,false,[],[],[],0⟩) Tryz.func141 (by kernel_rfl) (tm:=Sag) (by kernel_rfl) (by kernel_rfl),List.forall_mem_nil _⟩)) n 100 Vaa (by simp)
def Hbh:Go.Shelf.Ren:=⟨fun|41=>141|n=>n,fun|4=>4|22=>50|23=>3|n=>n,fun n=>n⟩
theorem Db8:Go.Proofs.SlLaysE0.n41 Tryz.prog Hbh:={ mixed:=by kernel_rfl,f41:=⟨Tryz.f141.name,by kernel_rfl,Tryz.func141.trans (congrArg some (by kernel_rfl))⟩,t4:=Tryz.underlying4,a4:=Tryz.isAgg4,z4:=Tryz.sizeOf4,v4:=Tryz.zeroValue4,t22:=Tryz.underlying50,a22:=Tryz.isAgg50,z22:=Tryz.sizeOf50,v22:=Tryz.zeroValue50 }
noncomputable def Hb7:List D → Option (List D):=Cb1 1 (Nay [(100,.tm Sag)]) 100
noncomputable def T:Nat → Ent:=Nay [(0,.tm tm0),(1,.tm tm1),(2,.tm tm2),(3,.tm tm3),(4,.tm tm4),(5,.tm tm5),(6,.tm tm6),(7,.tm tm7),(8,.tm tm8),(9,.tm tm9),(10,.tm Kb8),(11,.tm Kb7),(12,.tm Kb6),(13,.tm Kb5),(14,.tm Kb4),(15,.tm Kb3),(16,.tm Kb2),(17,.tm Kb1),(18,.tm Kb0),(19,.tm Kbz),(20,.tm Kby),(21,.tm Kbx),(22,.tm Kbw),(23,.tm Kbv),(24,.tm Kbu),(25,.tm Kbt),(26,.tm Fbo),(27,.tm Kbs),(28,.tm Kbr),(29,.tm Kbq),(30,.tm Kbp),(31,.tm Kbo),(32,.tm Kbn),(33,.tm Kbm),(34,.tm Kbl),(35,.tm Kbk),(36,.tm Kbj),(37,.tm Kbi),(38,.tm Kbh),(39,.tm Kbg),(40,.tm Kbf),(41,.tm Kbe),(42,.tm Kbd),(43,.tm Kbc),(44,.tm Kbb),(45,.tm Kba),(46,.tm Jb9),(47,.tm Jb8),(48,.tm Jb7),(49,.tm Jb6),(50,.tm Jb5),(51,.tm Jb4),(52,.tm Jb3),(53,.tm Jb2),(54,.tm Jb1),(55,.tm Jb0),(56,.tm Jbz),(57,.tm Fbn),(58,.tm Jby),(59,.tm Jbx),(60,.tm Jbw),(61,.tm Jbv),(62,.tm Jbu),(63,.tm Jbt),(64,.tm Jbs),(65,.tm Jbr),(66,.tm Jbq),(67,.tm Jbp),(68,.tm Jbo),(69,.tm Jbn),(70,.tm Jbm),(71,.tm Jbl),(72,.tm Jbk),(73,.tm Jbj),(74,.tm Jbi),(75,.tm Jbh),(76,.tm Jbg),(77,.tm Jbf),(78,.tm Jbe),(79,.tm Jbd),(80,.tm Jbc),(81,.tm Jbb),(82,.tm Jba),(83,.tm Ib9),(84,.tm Ib8),(85,.tm Ib7),(86,.tm Ib6),(87,.tm Ib5),(88,.tm Ib4),(89,.tm Ib3),(90,.tm Ib2),(91,.tm Ib1),(92,.tm Ib0),(93,.tm Ibz),(94,.tm Iby),(95,.tm Ibx),(96,.tm Ibw),(97,.tm Ibv),(98,.tm Ibu),(99,.tm Ibt),(100,.ext Hb7),(101,.tm Za2),(102,.tm Za1),(103,.tm Za0),(104,.tm Zaz),(105,.tm Zay),(106,.tm Zax),(107,.tm Zaw),(108,.tm Zav),(109,.tm Zau),(110,.tm Zat),(111,.tm Zas),(112,.tm Zar),(113,.tm Zaq),(114,.tm Zap),(115,.tm Zao),(116,.tm Zan),(117,.ext (Cb0 16)),(118,.ext (Cbt 16)),(119,.tm Zam),(120,.tm Zal),(121,.tm Zak),(122,.tm Zaj),(123,.tm Zai),(124,.tm Zah),(125,.tm Zag),(126,.tm Zaf),(127,.tm Zae),(128,.tm Zad),(129,.tm Zac),(130,.tm Zab),(131,.tm Zaa),(132,.tm Ya9),(133,.tm Ya8),(134,.tm Ya7),(135,.tm Ya6),(136,.tm Ya5),(137,.tm Ya4),(138,.tm Ya3),(139,.tm Ya2),(140,.tm Ya1),(141,.tm Ya0),(142,.tm Yaz),(143,.tm Yay),(144,.tm Yax),(145,.tm Yaw),(146,.tm Yav),(147,.tm Yau),(148,.tm Yat)]
abbrev K:=Uag Tryz.prog T (tK tiL) sigs
theorem Rbj:Uag Tryz.prog T (tK tiL) sigs 100 Vaa:=Xa1 (m:=98) Db8 rfl (by kernel_rfl) Tryz.sizeOf3 Lb9 rfl
def Tryz.laysD204_ren:Go.Shelf.Ren:=⟨fun|45=>204|n=>n,fun|22=>32|23=>95|3=>3|4=>4|0=>0|n=>n,fun|n=>n⟩
theorem Tryz.laysD204:Go.Proofs.SlLaysE0.n45 Tryz.prog Tryz.laysD204_ren:={
  mixed:=by kernel_rfl
  f45:=⟨Tryz.f204.name,by decide,Tryz.func204.trans (congrArg some (by kernel_rfl))⟩
  t0:=Tryz.underlying0
  a0:=Tryz.isAgg0
  z0:=Tryz.sizeOf0
  v0:=Tryz.zeroValue0
  t3:=Tryz.underlying3
  a3:=Tryz.isAgg3
  z3:=Tryz.sizeOf3
  v3:=Tryz.zeroValue3
  t4:=Tryz.underlying4
  a4:=Tryz.isAgg4
  z4:=Tryz.sizeOf4
  v4:=Tryz.zeroValue4
  t22:=Tryz.underlying32
  a22:=Tryz.isAgg32
  z22:=Tryz.sizeOf32
  v22:=Tryz.zeroValue32 }
theorem Qb3:K 117 Gbx:=Ta5 (m:=98) Tryz.laysD204 rfl (by kernel_rfl) Tryz.sizeOf95 (by kernel_rfl) rfl
section
open Go.Shelf Go.RowKit Go.Lib Go.Proofs
set_option maxHeartbeats 4000000
theorem Taq (b off n c vb fm vc:Nat)(vs:List Value)(w:World)(eK:n+1 ≤ c)(lP:vs.length=16)
    (gl:∀ j,j<16 → (w.cell? ⟨b,off+n*16+j,none⟩).isSome=true) (kg:∀ j,j<16 → w.frozen? ⟨b,off+n*16+j,none⟩=false)
    (iw:∀ j v,vs[j]?=some v → w.cell? ⟨vb,fm+j,none⟩=some v) (qe:∀ v∈vs,v.oneCell'=true) :
    Calls Tryz.prog 154 #[.slice (some ⟨b,off,none⟩) n c,.int .i64 n,.slice (some ⟨vb,fm,none⟩) 1 vc] w fun e w' =>
      e=.returned (.slice (some ⟨b,off,none⟩) (n+1) c) ∧ w'=w.setCells b (off+n*16) vs:=by
  obtain⟨i0,kq,nz⟩:∃ i0,Tryz.prog.info? 95=some i0 ∧ i0.size=16:=⟨_,rfl,rfl⟩
  have ll:Src Tryz.prog i0.size 32 (.slice (some ⟨vb,fm,none⟩) 1 vc) 1 vs w:=by
    rw[nz];exact Src.ofSlice w Tryz.underlying32 ⟨vb,fm,none⟩ 1 vc vs (by omega) (fun j u hj=>by rw[Addr.add_lit];exact iw j u hj) qe
  have cr:∀ ty,(Builtin.append_ #[32,32] ty #[.slice (some ⟨b,off,none⟩) n c,.slice (some ⟨vb,fm,none⟩) 1 vc]).run Tryz.prog w=.ok (.slice (some ⟨b,off,none⟩) (n+1) c) (w.setCells b (off+n*16) vs):=fun ty=>by
    have h:=run_append_room_src w 32 32 ty 95 i0 Tryz.underlying32 kq b off n c _ 1 vs ll eK (by rw[nz,lP];exact gl) (by rw[nz,lP];exact kg);rw[nz]at h;exact h
  go_enter Tryz.func154,Tryz.ntmps154
  go_wp2_with (at_builtin;refine Lib.wpList_append_run _ rfl _ _ _ _ rfl _ _ rfl rfl _ _ (cr _) ?_)
  go_ret
  exact⟨rfl,rfl⟩
theorem Wau (base:Option Addr)(n c vb fm vc:Nat)(cs vs:List Value)(w:World)(eK:c<n+1)(pk:n ≤ 100000000000)(gf:cs.length=n*16)(lP:vs.length=16)(fR:base=none → n=0)
    (kO:∀ a,base=some a → ∀ j v,cs[j]?=some v → w.cell? (a.add j)=some v)
    (iw:∀ j v,vs[j]?=some v → w.cell? ⟨vb,fm+j,none⟩=some v) (qe:∀ v∈vs,v.oneCell'=true) :
    Calls Tryz.prog 154 #[.slice base n c,.int .i64 n,.slice (some ⟨vb,fm,none⟩) 1 vc] w fun e w' =>
      ∃ zs:Array Value,zs.size=(grownCap w (n+1) c 95-(n+1))*16 ∧ e=.returned (.slice (some ⟨w.heap.size,0,none⟩) (n+1) (grownCap w (n+1) c 95)) ∧ w'=w.drew.alloc (.cells ((cs++vs).toArray++zs) 95):=by
  obtain⟨i0,z,kq,nz,nu,hzb,qt⟩:∃ i0 z,Tryz.prog.info? 95=some i0 ∧ i0.size=16 ∧ i0.zero=some z ∧ i0.bytes ≤ 1000 ∧ z.cells.size=16:=⟨_,_,rfl,rfl,rfl,by decide,rfl⟩
  have ll:Src Tryz.prog i0.size 32 (.slice (some ⟨vb,fm,none⟩) 1 vc) 1 vs w:=by
    rw[nz];exact Src.ofSlice w Tryz.underlying32 ⟨vb,fm,none⟩ 1 vc vs (by omega) (fun j u hj=>by rw[Addr.add_lit];exact iw j u hj) qe
  have hold:(Builtin.firstCells i0.size n (.slice base n c)).run Tryz.prog w.drew=.ok cs.toArray w.drew:=by
    rw[nz]
    cases base with
    | none =>
      have h0:=fR rfl;subst h0;rw[List.length_eq_zero_iff.1 (show cs.length=0 by omega)];exact run_firstCells_none w.drew 16 0 0 c
    |some a=>exact run_firstCells_some w.drew 16 n a n c cs (by omega) (fun j v hj=>kO a rfl j v hj)
  have fp:(n+1)*i0.bytes ≤ 140737488355328:=Sb1 (Nat.mul_le_mul (show n+1 ≤ 100000000001 by omega) hzb) (by decide)
  have cr:∀ ty,(Builtin.append_ #[32,32] ty #[.slice base n c,.slice (some ⟨vb,fm,none⟩) 1 vc]).run Tryz.prog w=_:=fun ty =>
    run_append_grow_src w 32 32 ty 95 i0 z Tryz.underlying32 kq nu base n c cs hold _ 1 vs ll eK (by omega) (growslice_fits eK fp)
  obtain⟨zs,qn⟩:∃ zs,zs=Builtin.zeroCells z.cells (grownCap w (n+1) c 95-(n+1)):=⟨_,rfl⟩;have tv:zs.size=(grownCap w (n+1) c 95-(n+1))*16:=by rw[qn];simp[Builtin.zeroCells,qt]
  rw[← qn]at cr
  suffices hC:Calls Tryz.prog 154 #[.slice base n c,.int .i64 n,.slice (some ⟨vb,fm,none⟩) 1 vc] w fun e w'=>e=.returned (.slice (some ⟨w.heap.size,0,none⟩) (n+1) (grownCap w (n+1) c 95)) ∧ w'=w.drew.alloc (.cells ((cs++vs).toArray++zs) 95) from hC.mono fun e w' h=>⟨zs,tv,h⟩
  clear qn tv fp qt hzb nu
  go_enter Tryz.func154,Tryz.ntmps154
  cases base with
  | none =>
    have h0:=fR rfl;subst h0
    go_wp2_with (at_builtin;refine Lib.wpList_append_run _ rfl _ _ _ _ rfl _ _ rfl rfl _ _ (cr _) ?_)
    go_ret
    exact⟨rfl,rfl⟩
  | some a =>
    obtain⟨ab,ao,asp⟩:=a
    go_wp2_with (at_builtin;refine Lib.wpList_append_run _ rfl _ _ _ _ rfl _ _ rfl rfl _ _ (cr _) ?_)
    all_goals (go_ret;exact⟨rfl,rfl⟩)
theorem Pau (b off n c i vb fm vc:Nat)(cs vs:List Value)(w:World)(hi:i<n)(eK:n+1 ≤ c)(pk:n ≤ 100000000000)(hvb:vb≠b)(gf:cs.length=n*16)(lP:vs.length=16)
    (kO:∀ j v,cs[j]?=some v → w.cell? ⟨b,off+j,none⟩=some v) (gl:∀ j,j<(n+1)*16 → (w.cell? ⟨b,off+j,none⟩).isSome=true) (kg:∀ j,w.frozen? ⟨b,off+j,none⟩=false)
    (iw:∀ j v,vs[j]?=some v → w.cell? ⟨vb,fm+j,none⟩=some v) (vt:∀ v∈cs,v.oneCell'=true) (qe:∀ v∈vs,v.oneCell'=true)
    (tA tB:TypeId) (kA kB:Nat) (hsa:w.shape? vb=some (tA,kA)) (q0:w.shape? b=some (tB,kB)) (hkB:kB≠0) (tU:w.frozen? ⟨vb,fm,none⟩=false) (hfe:w.frozen? ⟨vb,kA,none⟩=false) :
    Calls Tryz.prog 154 #[.slice (some ⟨b,off,none⟩) n c,.int .i64 i,.slice (some ⟨vb,fm,none⟩) 1 vc] w fun e w' =>
      e=.returned (.slice (some ⟨b,off,none⟩) (n+1) c) ∧ w'=(w.drew.setCells b (off+(i+1)*16) (cs.drop (i*16))).setCells b (off+i*16) vs:=by
  have mixed:Tryz.prog.follows .mixedOrders=true:=by kernel_rfl
  have ef:(Tryz.prog.info? 95).map (·.size)=some 16:=by kernel_rfl
  have ny:¬ ((i:Int)=(n:Int)):=by omega
  have hov:∀ lb cb,(callFunc 206 #[.slice (some ⟨vb,fm,none⟩) 1 vc,.slice (some ⟨b,off+(i+1)*16,none⟩) lb cb]).run Tryz.prog w=.ok (.value (.bool false)) w:=fun lb cb=>by
    rw [run_callFunc_extern Tryz.func206 (by kernel_rfl) (by kernel_rfl) (by kernel_rfl) (e := Extern.SlicesOverlaps.overlaps #[32, 32] #[4]) (by kernel_rfl),
      Lib.run_overlaps_apart w 32 4 95 Tryz.underlying32 16 Tryz.sizeOf95 ⟨vb,fm,none⟩ ⟨b,off+(i+1)*16,none⟩ 1 vc lb cb hvb tA tB kA kB hsa q0 hkB tU hfe]
    rfl
  have rk:(cs.drop (i*16)).length=(n-i)*16:=by rw[Sb8,gf];omega
  have zl:IntKind.i64.wrap ((i:Int)+1)=(i:Int)+1:=by rw[IntKind.wrap_i64];omega
  have tI:IntKind.i64.wrap ((n:Int)+1)=(n:Int)+1:=by rw[IntKind.wrap_i64];omega
  have np:(0:Int) ≤ (i:Int)+1:=by omega
  have kb:i ≤ n:=by omega
  have htn:((i:Int)+1).toNat=i+1:=by omega
  have htn2:((n:Int)+1).toNat=n+1:=by omega
  have jw:¬ (c=i+1):=by omega
  have q5:(i:Int) ≤ (n:Int)+1:=by omega
  have hb4:¬ (c=i):=by omega
  have hb5:¬ ((c:Int)<(n:Int)+1):=by omega
  have a0g:∀ ty dc sc,(Builtin.copy_ #[32,32] ty #[.slice (some ⟨b,off+(i+1)*16,none⟩) (n-i) dc,.slice (some ⟨b,off+i*16,none⟩) (n+1-i) sc]).run Tryz.prog w.drew =   .ok (goInt ((n-i:Nat):Int)) (w.drew.setCells b (off+(i+1)*16) (cs.drop (i*16))):=fun ty dc sc=>by
    have h:=vZ (P:=Tryz.prog) w.drew 32 32 ty 95 b (off+(i+1)*16) (n-i) dc ⟨b,off+i*16,none⟩ (n+1-i) sc (cs.drop (i*16)) Tryz.underlying32 ef (by rw[rk];simp only[Vbi];split<;>omega)
      (fun j v hj=>by rw[Addr.add_lit,Sbf];exact kO (i*16+j) v (by rwa[Sby]at hj))
      (fun j hj=>by rw[Sbf];exact gl _ (by omega)) (fun j hj=>by rw[Sbf];exact kg _) (fun v hv=>vt v (Tbn hv))
    rw[h,show Nat.min (n+1-i) (n-i)=n-i by simp only[Vbi];split<;>omega]
  obtain⟨W1,pt⟩:∃ W1,W1=w.drew.setCells b (off+(i+1)*16) (cs.drop (i*16)):=⟨_,rfl⟩
  have a0b:∀ k,k<(n+1)*16 → (W1.cell? ⟨b,off+k,none⟩).isSome=true:=fun k hk=>by
    rw[pt];exact isSome_setCells b _ _ _ (fun j hj=>by rw[Sbf];exact gl _ (by omega)) _ (gl k hk)
  have a5f:∀ (W:World),(∀ x,W.cell? x=W1.cell? x) → (∀ x,W.frozen? x=W1.frozen? x) → ∀ ty dc,(Builtin.copy_ #[32,32] ty #[.slice (some ⟨b,off+i*16,none⟩) (n+1-i) dc,.slice (some ⟨vb,fm,none⟩) 1 vc]).run Tryz.prog W=.ok (goInt 1) (W.setCells b (off+i*16) vs):=fun W xf hWf ty dc=>by
    have h:=vZ (P:=Tryz.prog) W 32 32 ty 95 b (off+i*16) (n+1-i) dc ⟨vb,fm,none⟩ 1 vc vs Tryz.underlying32 ef (by rw[lP];simp only[Vbi];split<;>omega)
      (fun j v hj=>by
        rw[Addr.add_lit,xf,pt,World.cell?_setCells_out b _ _ _ _ (fun h _=>absurd h hvb)];exact iw j v hj)
      (fun j hj=>by rw[xf,Sbf];exact a0b _ (by omega)) (fun j hj=>by rw[hWf,pt,World.frozen?_setCells,Sbf];exact kg _) qe
    rw[h,show Nat.min 1 (n+1-i)=1 by simp only[Vbi];split<;>omega];rfl
  rw[← pt]at a0g;clear gl kg ef kO iw vt qe hsa q0 hkB tU hfe rk a0b
  go_enter Tryz.func154,Tryz.ntmps154
  go_wp2_with (simp only[hov])
  go_region_law_o (refine step_copy_runI rfl _ _ 32 32 rfl _ _ (by simp[Act.eval,Act.put]) (by simp[Act.eval,Act.put]) (a0g _ _ _) ?_)
  go_wp2_with (at_builtin;refine wpList_copy_runI _ rfl _ _ 32 32 rfl _ _ rfl rfl (a5f _ (fun _=>rfl) (fun _=>rfl) _ _) ?_)
  go_ret
  first|exact⟨rfl,rfl⟩|exact⟨rfl,by rw[pt]⟩
theorem Tar (b off n c i vb fm vc:Nat)(cs vs:List Value)(w:World)(hi:i<n)(xp:n ≤ c)(eK:c<n+1)(pk:n ≤ 100000000000)(gf:cs.length=n*16)(lP:vs.length=16)
    (kO:∀ j v,cs[j]?=some v → w.cell? ⟨b,off+j,none⟩=some v)
    (iw:∀ j v,vs[j]?=some v → w.cell? ⟨vb,fm+j,none⟩=some v) (vt:∀ v∈cs,v.oneCell'=true) (qe:∀ v∈vs,v.oneCell'=true) :
    Calls Tryz.prog 154 #[.slice (some ⟨b,off,none⟩) n c,.int .i64 i,.slice (some ⟨vb,fm,none⟩) 1 vc] w fun e w' =>
      ∃ z1 z2:Array Value,z1.size=(n+1-i)*16 ∧ z2.size=(grownCap w (n+1) c 95-(n+1))*16 ∧ e=.returned (.slice (some ⟨w.heap.size,0,none⟩) (n+1) (grownCap w (n+1) c 95)) ∧
      w'=(((w.alloc (.cells ((cs.take (i*16)).toArray++z1++z2) 95)).drew.setCells w.heap.size (i*16) vs).drew).setCells w.heap.size ((i+1)*16) (cs.drop (i*16)):=by
  have mixed:Tryz.prog.follows .mixedOrders=true:=by kernel_rfl
  obtain⟨i0,z,kq,nz,nu,hzb,qt⟩:∃ i0 z,Tryz.prog.info? 95=some i0 ∧ i0.size=16 ∧ i0.zero=some z ∧ i0.bytes ≤ 1000 ∧ z.cells.size=16:=⟨_,_,rfl,rfl,rfl,by decide,rfl⟩;have ny:¬ ((i:Int)=(n:Int)):=by omega
  have zn:(c:Int)<(n:Int)+1:=by omega
  have ef:(Tryz.prog.info? 95).map (·.size)=some 16:=by kernel_rfl
  have hbw:b<w.heap.size:=block_lt_of_cell (kO 0 _ (Rbz (by omega)));have v7:vb<w.heap.size:=block_lt_of_cell (iw 0 _ (Rbz (by omega)));have hkk:(n:Int)+1-(i:Int)=((n+1-i:Nat):Int):=by omega
  have hik:i+(n+1-i)=n+1:=by omega
  have fp:(n+1)*i0.bytes ≤ 140737488355328:=Sb1 (Nat.mul_le_mul (show n+1 ≤ 100000000001 by omega) hzb) (by decide);have qp:(n+1-i)*i0.bytes ≤ 281474976710656:=Sb1 (Nat.mul_le_mul_right _ (show n+1-i ≤ n+1 by omega)) (by omega)
  have hold:(Builtin.firstCells i0.size i (.slice (some ⟨b,off,none⟩) i c)).run Tryz.prog w.drew=.ok (cs.take (i*16)).toArray w.drew:=by
    rw[nz]
    exact run_firstCells_some w.drew 16 i ⟨b,off,none⟩ i c (cs.take (i*16)) (by rw[Sbn];omega) (fun j v hj=>by
      rw[Addr.add_lit];rw[List.getElem?_take]at hj;split at hj
      · exact kO j v hj
      · cases hj)
  obtain⟨z1,ku⟩:∃ z1,z1=Builtin.zeroCells z.cells (n+1-i):=⟨_,rfl⟩;obtain⟨G,hG⟩:∃ G,G=grownCap w (n+1) c 95:=⟨_,rfl⟩;obtain⟨z2,xn⟩:∃ z2,z2=Builtin.zeroCells z.cells (G-(n+1)):=⟨_,rfl⟩;have ka:z1.size=(n+1-i)*16:=by rw[ku];simp[Builtin.zeroCells,qt]
  have lf:z2.size=(G-(n+1))*16:=by rw[xn];simp[Builtin.zeroCells,qt]
  obtain⟨pw,uk⟩:∃ pw:Array Value,pw=(cs.take (i*16)).toArray++z1++z2:=⟨_,rfl⟩
  have hrz:∀ ty,(Builtin.append_ #[32,3] ty #[.slice (some ⟨b,off,none⟩) i c,.int .i64 ((n:Int)+1-(i:Int))]).run Tryz.prog w =
      .ok (.slice (some ⟨w.heap.size,0,none⟩) (n+1) G) (w.drew.alloc (.cells pw 95)):=fun ty=>by
    have h:=Lib.run_append_grow_zeros w 32 3 ty 95 i0 z .i64 .i64 Tryz.underlying32 Tryz.underlying3 kq nu (some ⟨b,off,none⟩) i c (cs.take (i*16)) hold (n+1-i) (by omega) (by omega) (by omega) (by omega) qp (by rw[hik];exact growslice_fits eK fp);rw[hik]at h;rw[hkk,uk,ku,xn,hG];exact h
  have hGn:n+1 ≤ G:=by rw[hG];exact grownCap_ge w _ _ _
  rw[← hG]
  have hRl:(n+1)*16 ≤ pw.size:=by
    rw[uk];simp only[Array.size_append,List.size_toArray,Sbn,ka];omega
  suffices hC:Calls Tryz.prog 154 #[.slice (some ⟨b,off,none⟩) n c,.int .i64 i,.slice (some ⟨vb,fm,none⟩) 1 vc] w fun e w' =>
      e=.returned (.slice (some ⟨w.heap.size,0,none⟩) (n+1) G) ∧
      w'=(((w.alloc (.cells pw 95)).drew.setCells w.heap.size (i*16) vs).drew).setCells w.heap.size ((i+1)*16) (cs.drop (i*16)) from hC.mono fun e w' h=>⟨z1,z2,ka,lf,h.1,by rw[← uk];exact h.2⟩
  obtain⟨W1,pt⟩:∃ W1,W1=w.drew.alloc (.cells pw 95):=⟨_,rfl⟩;rw[← pt]at hrz
  have hN:∀ j,j<(n+1)*16 → (W1.cell? ⟨w.heap.size,j,none⟩).isSome=true:=fun j hj=>by
    rw[pt,World.cell?_alloc_at (w:=w.drew) pw _ w.heap.size j rfl,Array.getElem?_eq_getElem (by omega)];rfl
  have hNf:∀ j,W1.frozen? ⟨w.heap.size,j,none⟩=false:=fun j=>by rw[pt];exact World.frozen?_alloc_at (w:=w.drew) pw _ w.heap.size j rfl
  have hOb:∀ j v,w.cell? ⟨b,j,none⟩=some v → W1.cell? ⟨b,j,none⟩=some v:=fun j v h=>by rw[pt,World.cell?_alloc_past (w:=w.drew) _ b j hbw];exact h
  have hOv:∀ j v,w.cell? ⟨vb,j,none⟩=some v → W1.cell? ⟨vb,j,none⟩=some v:=fun j v h=>by rw[pt,World.cell?_alloc_past (w:=w.drew) _ vb j v7];exact h
  have a5k:∀ (W:World),(∀ x,W.cell? x=W1.cell? x) → (∀ x,W.frozen? x=W1.frozen? x) → ∀ ty dc,(Builtin.copy_ #[32,32] ty #[.slice (some ⟨w.heap.size,i*16,none⟩) (n+1-i) dc,.slice (some ⟨vb,fm,none⟩) 1 vc]).run Tryz.prog W=.ok (goInt 1) (W.setCells w.heap.size (i*16) vs):=fun W xf hWf ty dc=>by
    have h:=vZ (P:=Tryz.prog) W 32 32 ty 95 w.heap.size (i*16) (n+1-i) dc ⟨vb,fm,none⟩ 1 vc vs Tryz.underlying32 ef (by rw[lP];simp only[Vbi];split<;>omega)
      (fun j v hj=>by rw[Addr.add_lit,xf];exact hOv _ v (iw j v hj))
      (fun j hj=>by rw[xf];exact hN _ (by omega)) (fun j hj=>by rw[hWf];exact hNf _) qe
    rw[h,show Nat.min 1 (n+1-i)=1 by simp only[Vbi];split<;>omega];rfl
  have hGi:¬ (G=i):=by omega
  have hGim:¬ (G=i+1):=by omega
  have hci:¬ (c=i):=by omega
  have hbN:b≠w.heap.size:=by omega
  have rk:(cs.drop (i*16)).length=(n-i)*16:=by rw[Sb8,gf];omega
  have a1e:∀ (W:World),(∀ x,W.cell? x=(W1.setCells w.heap.size (i*16) vs).cell? x) → (∀ x,W.frozen? x=(W1.setCells w.heap.size (i*16) vs).frozen? x) → ∀ ty dc sc,(Builtin.copy_ #[32,32] ty #[.slice (some ⟨w.heap.size,(i+1)*16,none⟩) (n-i) dc,.slice (some ⟨b,off+i*16,none⟩) (n-i) sc]).run Tryz.prog W=.ok (goInt ((n-i:Nat):Int)) (W.setCells w.heap.size ((i+1)*16) (cs.drop (i*16))):=fun W xf hWf ty dc sc=>by
    have h:=vZ (P:=Tryz.prog) W 32 32 ty 95 w.heap.size ((i+1)*16) (n-i) dc ⟨b,off+i*16,none⟩ (n-i) sc (cs.drop (i*16)) Tryz.underlying32 ef (by rw[rk];simp only[Vbi];split<;>omega)
      (fun j v hj=>by
        rw[Addr.add_lit,xf,World.cell?_setCells_out _ _ _ _ _ (fun h _=>absurd h hbN),Sbf];exact hOb _ v (kO (i*16+j) v (by rwa[Sby]at hj)))
      (fun j hj=>by rw[xf];exact isSome_setCells _ _ _ _ (fun t ht=>hN _ (by omega)) _ (hN _ (by omega)))
      (fun j hj=>by rw[hWf,World.frozen?_setCells];exact hNf _) (fun v hv=>vt v (Tbn hv))
    rw[h,show Nat.min (n-i) (n-i)=n-i by simp only[Vbi];split<;>omega]
  subst pt;have hE1:∀ x,((w.alloc (.cells pw 95)).drew).cell? x=(w.drew.alloc (.cells pw 95)).cell? x:=fun x=>rfl
  have hE2:∀ x,((w.alloc (.cells pw 95)).drew).frozen? x=(w.drew.alloc (.cells pw 95)).frozen? x:=fun x=>rfl
  have hF1:∀ x,(((w.alloc (.cells pw 95)).drew.setCells w.heap.size (i*16) vs).drew).cell? x=((w.drew.alloc (.cells pw 95)).setCells w.heap.size (i*16) vs).cell? x:=fun x=>rfl
  have hF2:∀ x,(((w.alloc (.cells pw 95)).drew.setCells w.heap.size (i*16) vs).drew).frozen? x=((w.drew.alloc (.cells pw 95)).setCells w.heap.size (i*16) vs).frozen? x:=fun x=>rfl
  have zl:IntKind.i64.wrap ((i:Int)+1)=(i:Int)+1:=by rw[IntKind.wrap_i64];omega
  have tI:IntKind.i64.wrap ((n:Int)+1)=(n:Int)+1:=by rw[IntKind.wrap_i64];omega
  have hw3:IntKind.i64.wrap ((n:Int)+1-(i:Int))=(n:Int)+1-(i:Int):=by rw[IntKind.wrap_i64];omega
  have np:(0:Int) ≤ (i:Int)+1:=by omega
  have kb:i ≤ n:=by omega
  have htn:((i:Int)+1).toNat=i+1:=by omega
  have q5:(i:Int) ≤ (n:Int):=by omega
  have hb6:i ≤ c:=by omega
  have rl:i ≤ n+1:=by omega
  have hb8:n ≤ G:=by omega
  clear hkk hik hold uk hG hRl fp qp xn ku ka lf hzb qt nu kq nz hN hNf hOb hOv ef rk vt qe kO iw
  go_enter Tryz.func154,Tryz.ntmps154
  go_wp2_with (first
    |(at_builtin;refine Lib.wpList_append_run _ rfl _ _ _ _ rfl _ _ rfl rfl _ _ (hrz _) ?_)
    |(at_builtin;refine wpList_copy_runI _ rfl _ _ 32 32 rfl _ _ rfl rfl (a5k _ hE1 hE2 _ _) ?_)
    |(at_builtin;refine wpList_copy_runI _ rfl _ _ 32 32 rfl _ _ rfl rfl (a1e _ (fun _=>rfl) (fun _=>rfl) _ _ _) ?_))
  go_region_law_o (refine step_copy_runI rfl _ _ 32 32 rfl (.slice (some ⟨w.heap.size,(i+1)*16,none⟩) (n-i) (G-(i+1))) (.slice (some ⟨b,off+i*16,none⟩) (n-i) (c-i)) (by simp[Act.eval,Act.put]) (by simp[Act.eval,Act.put]) (a1e _ hF1 hF2 _ (G-(i+1)) (c-i)) ?_)
  go_wp2
  go_ret
  exact⟨rfl,rfl⟩
theorem Tap:Qaf Tryz.prog 154 16:=by
  intro A n c i vb fm vc cs vs w kb xp pk gf lP vt qe jt hA iw hfv;have yu:=iw 0 _ (Rbz (show 0<vs.length by omega));by_cases eK:n+1 ≤ c
  · obtain⟨a,rfl⟩:∃ a,A=some a:=by
      cases A with
      |none=>have:=jt rfl;omega
      |some a=>exact⟨a,rfl⟩
    obtain⟨gl,dk,tU,kO,cQ⟩:=hA a rfl;obtain⟨b,off,s⟩:=a;obtain rfl:s=none:=gl;dsimp only at dk kO cQ;have tU:=tU (by omega)
    rcases Sbh i n with hi|hi
    · obtain⟨u0,rr⟩:=cQ 0 (by omega)
      obtain⟨tA,kA,hsa,-⟩:=zG yu;obtain⟨tB,kB,q0,hkB⟩:=zG rr;refine (Pau b off n c i vb fm vc cs vs w hi eK pk (fun e=>dk e.symm) gf lP kO (fun j hj=>by obtain⟨u,hu⟩:=cQ j (by omega);rw[hu];rfl) (fun j=>uX tU rfl) iw vt qe tA tB kA kB hsa q0 hkB (uX hfv rfl) (uX hfv rfl)).mono ?_
      rintro e w' ⟨rfl,hw⟩
      exact⟨b,off,c,rfl,Wao hi eK gf lP tU kO cQ hw⟩
    · obtain rfl:i=n:=by omega
      refine (Taq b off i c vb fm vc vs w eK lP (fun j hj=>by obtain⟨u,hu⟩:=cQ (i*16+j) (by omega);rw[← Sbf]at hu;rw[hu];rfl) (fun j _=>uX tU rfl) iw qe).mono ?_
      rintro e w' ⟨rfl,hw⟩
      exact⟨b,off,c,rfl,Ma9 eK gf lP tU kO cQ hw⟩
  · rcases Sbh i n with hi|hi
    · obtain⟨a,rfl⟩:∃ a,A=some a:=by
        cases A with
        |none=>have:=jt rfl;omega
        |some a=>exact⟨a,rfl⟩
      obtain⟨gl,dk,tU,kO,cQ⟩:=hA a rfl;obtain⟨b,off,s⟩:=a;obtain rfl:s=none:=gl;refine (Tar b off n c i vb fm vc cs vs w hi xp (by omega) pk gf lP kO iw vt qe).mono ?_
      rintro e w' ⟨z1,z2,ka,lf,rfl,hw⟩
      exact⟨w.heap.size,0,grownCap w (n+1) c 95,rfl,Ab8 hi (grownCap_ge w _ _ _) gf lP ka lf hw⟩
    · obtain rfl:i=n:=by omega
      refine (Wau A i c vb fm vc cs vs w (by omega) pk gf lP (fun e=>by have:=jt e;omega) (fun a e j u hj=>by
        obtain⟨gl,-,-,kO,-⟩:=hA a e;obtain⟨b,off,s⟩:=a;obtain rfl:s=none:=gl;rw[Addr.add_lit];exact kO j u hj) iw qe).mono ?_
      rintro e w' ⟨zs,hl,rfl,hw⟩
      exact⟨w.heap.size,0,grownCap w (i+1) c 95,rfl,Naa (grownCap_ge w _ _ _) gf lP hl hw⟩
end
theorem Qb2:K 118 Gbw:=Ebe (m:=98) Tryz.func154 (by kernel_rfl) rfl (by decide) Tap rfl
theorem o0:K 0 sg0:=fnK (E:=E0) (tm:=tm0) Tryz.func5 (by kernel_rfl)
theorem o1:K 1 sg1:=fnK (E:=E0) (tm:=tm1) Tryz.func9 (by kernel_rfl)
theorem o2:K 2 sg2:=fnK (E:=E0) (tm:=tm2) Tryz.func49 (by kernel_rfl)
theorem o3:K 3 sg3:=fnK (E:=E0) (tm:=tm3) Tryz.func130 (by kernel_rfl)
theorem o4:K 4 sg4:=fnK (E:=E0) (tm:=tm4) Tryz.func201 (by kernel_rfl)
theorem o5:K 5 sg5:=fnK (E:=E0) (tm:=tm5) Tryz.func230 (by kernel_rfl)
theorem o6:K 6 sg6:=fnK (E:=E0) (tm:=tm6) Tryz.func91 (by kernel_rfl)
theorem o7:K 7 sg7:=fnK (E:=E0) (tm:=tm7) Tryz.func163 (by kernel_rfl)
theorem o8:K 8 sg8:=fnK (E:=E0) (tm:=tm8) Tryz.func50 (by kernel_rfl)
theorem o9:K 9 sg9:=fnK (E:=E0) (tm:=tm9) Tryz.func131 (by kernel_rfl)
theorem o10:K 10 Ob7:=fnK (E:=E0) (tm:=Kb8) Tryz.func11 (by kernel_rfl)
theorem o11:K 11 Ob6:=fnK (E:=E0) (tm:=Kb7) Tryz.func56 (by kernel_rfl)
theorem o12:K 12 Ob5:=fnK (E:=E0) (tm:=Kb6) Tryz.func135 (by kernel_rfl)
theorem o13:K 13 Ob4:=fnK (E:=E0) (tm:=Kb5) Tryz.func203 (by kernel_rfl)
theorem o14:K 14 Ob3:=fnK (E:=E0) (tm:=Kb4) Tryz.func231 (by kernel_rfl)
theorem o15:K 15 Ob2:=fnK (E:=E0) (tm:=Kb3) Tryz.func22 (by kernel_rfl)
theorem o16:K 16 Ob1:=fnK (E:=E0) (tm:=Kb2) Tryz.func95 (by kernel_rfl)
theorem o17:K 17 Ob0:=fnK (E:=E0) (tm:=Kb1) Tryz.func173 (by kernel_rfl)
theorem o18:K 18 Obz:=fnK (E:=E0) (tm:=Kb0) Tryz.func57 (by kernel_rfl)
theorem o19:K 19 Oby:=fnK (E:=E0) (tm:=Kbz) Tryz.func136 (by kernel_rfl)
theorem o20:K 20 Obx:=fnK (E:=E0) (tm:=Kby) Tryz.func21 (by kernel_rfl)
theorem o21:K 21 Obw:=fnK (E:=E0) (tm:=Kbx) Tryz.func40 (by kernel_rfl)
theorem o22:K 22 Obv:=fnK (E:=⟨tK tiL,sigs,0,0,false,false,[],[(7,[(84,0,0,0)],[3,12,60,63,66,78,81,84,1],0,[]),(4,[(66,0,0,0)],[3,60,63,66,1],1,[])],[],0⟩) (tm:=Kbw) Tryz.func114 (by kernel_rfl)
theorem o23:K 23 Obu:=fnK (E:=E0) (tm:=Kbv) Tryz.func127 (by kernel_rfl)
theorem o24:K 24 Obt:=fnK (E:=E0) (tm:=Kbu) Tryz.func151 (by kernel_rfl)
theorem o25:K 25 Obs:=fnK (E:=E0) (tm:=Kbt) Tryz.func115 (by kernel_rfl)
theorem o26:K 26 Obr:=fnK (E:=E0) (tm:=Fbo) Tryz.func75 (by kernel_rfl)
theorem o27:K 27 Obq:=fnK (E:=E0) (tm:=Kbs) Tryz.func165 (by kernel_rfl)
theorem o28:K 28 Obp:=fnK (E:=E0) (tm:=Kbr) Tryz.func214 (by kernel_rfl)
theorem o29:K 29 Obo:=fnK (E:=E0) (tm:=Kbq) Tryz.func85 (by kernel_rfl)
theorem o30:K 30 Obn:=fnK (E:=E0) (tm:=Kbp) Tryz.func156 (by kernel_rfl)
theorem o31:K 31 Obm:=fnK (E:=E0) (tm:=Kbo) Tryz.func209 (by kernel_rfl)
theorem o32:K 32 Obl:=fnK (E:=E0) (tm:=Kbn) Tryz.func164 (by kernel_rfl)
theorem o33:K 33 Obk:=fnK (E:=E0) (tm:=Kbm) Tryz.func213 (by kernel_rfl)
theorem o34:K 34 Obi:=fnK (E:=⟨tK tiL,sigs,0,0,false,false,[],[(4,[(165,0,0,0)],[0,15,159,162,165,1],0,[])],[],0⟩) (tm:=Kbl) Tryz.func116 (by kernel_rfl)
theorem o35:K 35 Obh:=fnK (E:=E0) (tm:=Kbk) Tryz.func73 (by kernel_rfl)
theorem o36:K 36 Obg:=fnK (E:=E0) (tm:=Kbj) Tryz.func194 (by kernel_rfl)
theorem o37:K 37 Obf:=fnK (E:=E0) (tm:=Kbi) Tryz.func195 (by kernel_rfl)
theorem o38:K 38 Obe:=fnK (E:=E0) (tm:=Kbh) Tryz.func51 (by kernel_rfl)
theorem o39:K 39 Obd:=fnK (E:=⟨tK tiL,sigs,0,0,false,false,[],[(6,[(63,0,0,0),(16,1,2,99)],[6,9,12,36,39,42,57,60,63,1,4,16],177,[546]),(3,[(42,0,0,0),(16,1,2,99)],[6,9,36,39,42,1,4,16],180,[0])],[],0⟩) (tm:=Kbg) Tryz.func123 (by kernel_rfl)
theorem o40:K 40 Obc:=fnK (E:=E0) (tm:=Kbf) Tryz.func128 (by kernel_rfl)
theorem o41:K 41 Obb:=fnK (E:=E0) (tm:=Kbe) Tryz.func133 (by kernel_rfl)
theorem o42:K 42 Oba:=fnK (E:=E0) (tm:=Kbd) Tryz.func172 (by kernel_rfl)
theorem o43:K 43 Nb9:=fnK (E:=E0) (tm:=Kbc) Tryz.func202 (by kernel_rfl)
theorem o44:K 44 Nb8:=fnK (E:=E0) (tm:=Kbb) Tryz.func132 (by kernel_rfl)
theorem o45:K 45 Nb7:=fnK (E:=⟨tK tiL,sigs,0,0,false,false,[],[(6,[(81,0,0,0),(19,0,0,0),(19,1,2,99)],[6,9,15,24,27,30,54,57,60,75,78,81,1,4,7,19],13,[63]),(3,[(60,0,0,0),(19,0,0,0),(19,1,2,99)],[6,9,15,24,27,54,57,60,1,4,7,19],18,[0])],[],0⟩) (tm:=Kba) Tryz.func87 (by kernel_rfl)
theorem o46:K 46 Nb6:=fnK (E:=E0) (tm:=Jb9) Tryz.func157 (by kernel_rfl)
theorem o47:K 47 Nb5:=fnK (E:=E0) (tm:=Jb8) Tryz.func210 (by kernel_rfl)
theorem o48:K 48 Nb4:=fnK (E:=E0) (tm:=Jb7) Tryz.func216 (by kernel_rfl)
theorem o49:K 49 Nb3:=fnK (E:=E0) (tm:=Jb6) Tryz.func158 (by kernel_rfl)
theorem o50:K 50 Nb2:=fnK (E:=E0) (tm:=Jb5) Tryz.func86 (by kernel_rfl)
theorem o51:K 51 Nb1:=fnK (E:=E0) (tm:=Jb4) Tryz.func77 (by kernel_rfl)
theorem o52:K 52 Nb0:=fnK (E:=E0) (tm:=Jb3) Tryz.func152 (by kernel_rfl)
theorem o53:K 53 Nbz:=fnK (E:=E0) (tm:=Jb2) Tryz.func76 (by kernel_rfl)
theorem o54:K 54 Nby:=fnK (E:=E0) (tm:=Jb1) Tryz.func134 (by kernel_rfl)
theorem o55:K 55 Nbx:=fnK (E:=E0) (tm:=Jb0) Tryz.func78 (by kernel_rfl)
theorem o56:K 56 Nbw:=fnK (E:=E0) (tm:=Jbz) Tryz.func94 (by kernel_rfl)
theorem o57:K 57 Nbv:=fnK (E:=E0) (tm:=Fbn) Tryz.func55 (by kernel_rfl)
theorem o58:K 58 Nbu:=fnK (E:=E0) (tm:=Jby) Tryz.func23 (by kernel_rfl)
theorem o59:K 59 Nbt:=fnK (E:=E0) (tm:=Jbx) Tryz.func39 (by kernel_rfl)
theorem o60:K 60 Nbs:=fnK (E:=E0) (tm:=Jbw) Tryz.func104 (by kernel_rfl)
theorem o61:K 61 Nbr:=fnK (E:=E0) (tm:=Jbv) Tryz.func125 (by kernel_rfl)
theorem o62:K 62 Nbq:=fnK (E:=E0) (tm:=Jbu) Tryz.func182 (by kernel_rfl)
theorem o63:K 63 Nbp:=fnK (E:=E0) (tm:=Jbt) Tryz.func223 (by kernel_rfl)
theorem o64:K 64 Nbo:=fnK (E:=E0) (tm:=Jbs) Tryz.func183 (by kernel_rfl)
theorem o65:K 65 Nbn:=fnK (E:=E0) (tm:=Jbr) Tryz.func184 (by kernel_rfl)
theorem o66:K 66 Nbm:=fnK (E:=E0) (tm:=Jbq) Tryz.func224 (by kernel_rfl)
theorem o67:K 67 Nbl:=fnK (E:=E0) (tm:=Jbp) Tryz.func185 (by kernel_rfl)
theorem o68:K 68 Nbk:=fnK (E:=E0) (tm:=Jbo) Tryz.func117 (by kernel_rfl)
theorem o69:K 69 Nbj:=fnK (E:=E0) (tm:=Jbn) Tryz.func111 (by kernel_rfl)
theorem o70:K 70 Nbi:=fnK (E:=E0) (tm:=Jbm) Tryz.func88 (by kernel_rfl)
theorem o71:K 71 Nbh:=fnK (E:=E0) (tm:=Jbl) Tryz.func159 (by kernel_rfl)
theorem o72:K 72 Nbg:=fnK (E:=E0) (tm:=Jbk) Tryz.func119 (by kernel_rfl)
theorem o73:K 73 Nbf:=fnK (E:=E0) (tm:=Jbj) Tryz.func196 (by kernel_rfl)
theorem o74:K 74 Nbe:=fnK (E:=E0) (tm:=Jbi) Tryz.func229 (by kernel_rfl)
theorem o75:K 75 Nbd:=fnK (E:=E0) (tm:=Jbh) Tryz.func197 (by kernel_rfl)
theorem o76:K 76 Nbc:=fnK (E:=E0) (tm:=Jbg) Tryz.func81 (by kernel_rfl)
theorem o77:K 77 Nbb:=fnK (E:=E0) (tm:=Jbf) Tryz.func120 (by kernel_rfl)
theorem o78:K 78 Nba:=fnK (E:=E0) (tm:=Jbe) Tryz.func198 (by kernel_rfl)
theorem o79:K 79 Mb9:=fnK (E:=E0) (tm:=Jbd) Tryz.func112 (by kernel_rfl)
theorem o80:K 80 Mb8:=fnK (E:=E0) (tm:=Jbc) Tryz.func105 (by kernel_rfl)
theorem o81:K 81 Mb7:=fnK (E:=E0) (tm:=Jbb) Tryz.func190 (by kernel_rfl)
theorem o82:K 82 Mb6:=fnK (E:=E0) (tm:=Jba) Tryz.func225 (by kernel_rfl)
theorem o83:K 83 Mb5:=fnK (E:=E0) (tm:=Ib9) Tryz.func196 (by kernel_rfl)
theorem o84:K 84 Mb4:=fnK (E:=E0) (tm:=Ib8) Tryz.func229 (by kernel_rfl)
theorem o85:K 85 Mb3:=fnK (E:=E0) (tm:=Ib7) Tryz.func226 (by kernel_rfl)
theorem o86:K 86 Mb2:=fnK (E:=E0) (tm:=Ib6) Tryz.func191 (by kernel_rfl)
theorem o87:K 87 Mb1:=fnK (E:=E0) (tm:=Ib5) Tryz.func227 (by kernel_rfl)
theorem o88:K 88 Mb0:=fnK (E:=E0) (tm:=Ib4) Tryz.func184 (by kernel_rfl)
theorem o89:K 89 Mbz:=fnK (E:=E0) (tm:=Ib3) Tryz.func224 (by kernel_rfl)
theorem o90:K 90 Mby:=fnK (E:=E0) (tm:=Ib2) Tryz.func192 (by kernel_rfl)
theorem o91:K 91 Mbx:=fnK (E:=E0) (tm:=Ib1) Tryz.func113 (by kernel_rfl)
theorem o92:K 92 Mbw:=fnK (E:=E0) (tm:=Ib0) Tryz.func193 (by kernel_rfl)
theorem o93:K 93 Mbv:=fnK (E:=E0) (tm:=Ibz) Tryz.func228 (by kernel_rfl)
theorem o94:K 94 Mbu:=fnK (E:=E0) (tm:=Iby) Tryz.func59 (by kernel_rfl)
theorem o95:K 95 Mbt:=fnK (E:=E0) (tm:=Ibx) Tryz.func122 (by kernel_rfl)
theorem o96:K 96 Mbs:=fnK (E:=E0) (tm:=Ibw) Tryz.func199 (by kernel_rfl)
theorem o97:K 97 Mbr:=fnK (E:=E0) (tm:=Ibv) Tryz.func142 (by kernel_rfl)
theorem o98:K 98 Mbq:=fnK (E:=E0) (tm:=Ibu) Tryz.func153 (by kernel_rfl)
theorem o99:K 99 Mbp:=fnK (E:=E0) (tm:=Ibt) Tryz.func140 (by kernel_rfl)
theorem Rbi:K 101 Hbd:=fnK (E:=E0) (tm:=Za2) Tryz.func63 (by kernel_rfl)
theorem Rbh:K 102 Hbc:=fnK (E:=E0) (tm:=Za1) Tryz.func89 (by kernel_rfl)
theorem Rbg:K 103 Hbb:=fnK (E:=⟨tK tiL,sigs,0,0,false,false,[],[(5,[(54,0,0,0),(10,0,0,0),(10,1,2,99)],[93,96,99,102,3,12,27,30,33,48,51,54,1,4,7,10,13],1,[27]),(2,[(33,0,0,0),(10,0,0,0),(10,1,2,99)],[93,96,99,102,3,27,30,33,1,4,7,10,13],6,[0])],[],0⟩) (tm:=Za0) Tryz.func160 (by kernel_rfl)
theorem Rbf:K 104 Hba:=fnK (E:=E0) (tm:=Zaz) Tryz.func161 (by kernel_rfl)
theorem Rbe:K 105 Gb9:=fnK (E:=E0) (tm:=Zay) Tryz.func162 (by kernel_rfl)
theorem Rbd:K 106 Gb8:=fnK (E:=E0) (tm:=Zax) Tryz.func211 (by kernel_rfl)
theorem Rbc:K 107 Gb7:=fnK (E:=E0) (tm:=Zaw) Tryz.func196 (by kernel_rfl)
theorem Rbb:K 108 Gb6:=fnK (E:=E0) (tm:=Zav) Tryz.func229 (by kernel_rfl)
theorem Rba:K 109 Gb5:=fnK (E:=E0) (tm:=Zau) Tryz.func212 (by kernel_rfl)
theorem Qb9:K 110 Gb4:=fnK (E:=E0) (tm:=Zat) Tryz.func90 (by kernel_rfl)
theorem o111:K 111 Gb3:=fnK (E:=E0) (tm:=Zas) Tryz.func83 (by kernel_rfl)
theorem Qb8:K 112 Gb2:=fnK (E:=E0) (tm:=Zar) Tryz.func82 (by kernel_rfl)
theorem Qb7:K 113 Gb1:=fnK (E:=E0) (tm:=Zaq) Tryz.func139 (by kernel_rfl)
theorem Qb6:K 114 Gb0:=fnK (E:=E0) (tm:=Zap) Tryz.func60 (by kernel_rfl)
theorem Qb5:K 115 Gbz:=fnK (E:=E0) (tm:=Zao) Tryz.func137 (by kernel_rfl)
theorem Qb4:K 116 Gby:=fnK (E:=E0) (tm:=Zan) Tryz.func138 (by kernel_rfl)
theorem Qb1:K 119 Gbv:=fnK (E:=E0) (tm:=Zam) Tryz.func84 (by kernel_rfl)
theorem Qb0:K 120 Gbu:=fnK (E:=E0) (tm:=Zal) Tryz.func155 (by kernel_rfl)
theorem Qbz:K 121 Gbt:=fnK (E:=E0) (tm:=Zak) Tryz.func208 (by kernel_rfl)
theorem Qby:K 122 Gbs:=fnK (E:=E0) (tm:=Zaj) Tryz.func64 (by kernel_rfl)
theorem Qbx:K 123 Gbr:=fnK (E:=E0) (tm:=Zai) Tryz.func13 (by kernel_rfl)
theorem Qbw:K 124 Gbq:=fnK (E:=E0) (tm:=Zah) Tryz.func65 (by kernel_rfl)
theorem Qbv:K 125 Gbp:=fnK (E:=E0) (tm:=Zag) Tryz.func143 (by kernel_rfl)
theorem Qbu:K 126 Gbo:=fnK (E:=E0) (tm:=Zaf) Tryz.func205 (by kernel_rfl)
theorem Qbt:K 127 Gbn:=fnK (E:=E0) (tm:=Zae) Tryz.func232 (by kernel_rfl)
theorem Qbs:K 128 Gbm:=fnK (E:=E0) (tm:=Zad) Tryz.func97 (by kernel_rfl)
theorem Qbr:K 129 Gbl:=fnK (E:=E0) (tm:=Zac) Tryz.func98 (by kernel_rfl)
theorem Qbq:K 130 Gbk:=fnK (E:=E0) (tm:=Zab) Tryz.func177 (by kernel_rfl)
theorem Qbp:K 131 Gbj:=fnK (E:=E0) (tm:=Zaa) Tryz.func66 (by kernel_rfl)
theorem Qbo:K 132 Gbi:=fnK (E:=E0) (tm:=Ya9) Tryz.func144 (by kernel_rfl)
theorem Qbn:K 133 Gbh:=fnK (E:=E0) (tm:=Ya8) Tryz.func14 (by kernel_rfl)
theorem Qbm:K 134 Gbg:=fnK (E:=E0) (tm:=Ya7) Tryz.func28 (by kernel_rfl)
theorem Qbl:K 135 Gbf:=fnK (E:=E0) (tm:=Ya6) Tryz.func15 (by kernel_rfl)
theorem Qbk:K 136 Gbe:=fnK (E:=E0) (tm:=Ya5) Tryz.func67 (by kernel_rfl)
theorem Qbj:K 137 Gbd:=fnK (E:=E0) (tm:=Ya4) Tryz.func145 (by kernel_rfl)
theorem Qbi:K 138 Gbc:=fnK (E:=E0) (tm:=Ya3) Tryz.func146 (by kernel_rfl)
theorem Qbh:K 139 Gbb:=fnK (E:=E0) (tm:=Ya2) Tryz.func69 (by kernel_rfl)
theorem Qbg:K 140 Gba:=fnK (E:=⟨tK tiL,sigs,0,0,false,false,[],[(2,[(408,0,2,3),(0,0,6,0),(3,0,0,0),(15,0,0,0)],[408,0,3,15],0,[0])],[],0⟩) (tm:=Ya1) Tryz.func68 (by kernel_rfl)
theorem Qbf:K 141 Fb9:=fnK (E:=E0) (tm:=Ya0) Tryz.func16 (by kernel_rfl)
theorem Qbe:K 142 Fb8:=fnK (E:=E0) (tm:=Yaz) Tryz.func17 (by kernel_rfl)
theorem Qbd:K 143 Fb7:=fnK (E:=E0) (tm:=Yay) Tryz.func70 (by kernel_rfl)
theorem Qbc:K 144 Fb6:=fnK (E:=E0) (tm:=Yax) Tryz.func147 (by kernel_rfl)
theorem Qbb:K 145 Fb5:=fnK (E:=⟨tK tiL,sigs,0,0,false,false,[],[(2,[(3,0,0,0),(15,0,0,0)],[0,3,15],0,[])],[],0⟩) (tm:=Yaw) Tryz.func148 (by kernel_rfl)
theorem Qba:K 146 Fb4:=fnK (E:=E0) (tm:=Yav) Tryz.func72 (by kernel_rfl)
theorem Pb9:K 147 Fb3:=fnK (E:=⟨tK tiL,sigs,0,0,false,false,[],[(2,[(3,0,0,0),(15,0,0,0)],[0,3,15],0,[])],[],0⟩) (tm:=Yau) Tryz.func71 (by kernel_rfl)
theorem Pb8:K 148 Fb2:=fnK (E:=⟨tK tiL,sigs,0,0,false,false,[],[(2,[(3,0,0,0),(15,0,0,0)],[0,3,15],0,[])],[],0⟩) (tm:=Yat) Tryz.func18 (by kernel_rfl)
theorem Hb6:∀ key s,(key,s)∈sigs → Uag Tryz.prog T (tK tiL) sigs key s:=Rax (fc o0 <| fc o1 <| fc o2 <| fc o3 <| fc o4 <| fc o5 <| fc o6 <| fc o7 <| fc o8 <| fc o9 <| fc o10 <| fc o11 <| fc o12 <| fc o13 <| fc o14 <| fc o15 <| fc o16 <| fc o17 <| fc o18 <| fc o19 <| fc o20 <| fc o21 <| fc o22 <| fc o23 <| fc o24 <| fc o25 <| fc o26 <| fc o27 <| fc o28 <| fc o29 <| fc o30 <| fc o31 <| fc o32 <| fc o33 <| fc o34 <| fc o35 <| fc o36 <| fc o37 <| fc o38 <| fc o39 <| fc o40 <| fc o41 <| fc o42 <| fc o43 <| fc o44 <| fc o45 <| fc o46 <| fc o47 <| fc o48 <| fc o49 <| fc o50 <| fc o51 <| fc o52 <| fc o53 <| fc o54 <| fc o55 <| fc o56 <| fc o57 <| fc o58 <| fc o59 <| fc o60 <| fc o61 <| fc o62 <| fc o63 <| fc o64 <| fc o65 <| fc o66 <| fc o67 <| fc o68 <| fc o69 <| fc o70 <| fc o71 <| fc o72 <| fc o73 <| fc o74 <| fc o75 <| fc o76 <| fc o77 <| fc o78 <| fc o79 <| fc o80 <| fc o81 <| fc o82 <| fc o83 <| fc o84 <| fc o85 <| fc o86 <| fc o87 <| fc o88 <| fc o89 <| fc o90 <| fc o91 <| fc o92 <| fc o93 <| fc o94 <| fc o95 <| fc o96 <| fc o97 <| fc o98 <| fc o99 <| fc Rbj <| fc Rbi <| fc Rbh <| fc Rbg <| fc Rbf <| fc Rbe <| fc Rbd <| fc Rbc <| fc Rbb <| fc Rba <| fc Qb9 <| fc o111 <| fc Qb8 <| fc Qb7 <| fc Qb6 <| fc Qb5 <| fc Qb4 <| fc Qb3 <| fc Qb2 <| fc Qb1 <| fc Qb0 <| fc Qbz <| fc Qby <| fc Qbx <| fc Qbw <| fc Qbv <| fc Qbu <| fc Qbt <| fc Qbs <| fc Qbr <| fc Qbq <| fc Qbp <| fc Qbo <| fc Qbn <| fc Qbm <| fc Qbl <| fc Qbk <| fc Qbj <| fc Qbi <| fc Qbh <| fc Qbg <| fc Qbf <| fc Qbe <| fc Qbd <| fc Qbc <| fc Qbb <| fc Qba <| fc Pb9 <| fc Pb8 <| fc0)
theorem contract:∀ n,sO Tryz.prog T n 0 sg0:=fun n=>contracts Cbi (by kernel_rfl) Hb6 n 0 sg0 (by simp[sigs])
end FnExactSubmitTo
end Go.Proofs.YtgpamlpecmldfaaGreat
