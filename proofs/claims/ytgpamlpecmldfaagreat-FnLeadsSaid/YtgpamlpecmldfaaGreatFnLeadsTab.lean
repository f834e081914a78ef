import Derived.Test.YtgpamlpecmldfaaGreatChecked
import Derived.Test.YtgpamlpecmldfaaGreatRf10
import Derived.KernelRfl
set_option linter.all false
open List renaming getElem?_eq_getElem → Vbq, length_take → Wbh, getElem?_drop → Wbt, length_drop → Wb4, mem_of_mem_drop → Xbj
open Nat renaming add_assoc → Vb8, lt_or_ge → Wbc, le_trans → Xb3, min_def → Yb8
namespace Go.Proofs.YtgpamlpecmldfaaGreat
namespace FnLeads
open Go Go.Proofs.YtgpamlpecmldfaaGreat.Rf
set_option maxRecDepth 100000
def t3:TI:=⟨false,1,8,[.sc (.int .i64 0)],[],none,(some .i64),false,false,false,false⟩
theorem ti3:Fao Tryz.prog 3=some t3:=by kernel_rfl
def t4:TI:=⟨false,1,1,[.sc (.bool false)],[],none,none,true,false,false,false⟩
theorem ti4:Fao Tryz.prog 4=some t4:=by kernel_rfl
def t5:TI:=⟨false,1,1,[.sc (.int .u8 0)],[],none,(some .u8),false,false,false,false⟩
theorem ti5:Fao Tryz.prog 5=some t5:=by kernel_rfl
def t29:TI:=⟨false,1,24,[.sl 1],[],(some 68),none,false,false,false,false⟩
theorem Tbk:Fao Tryz.prog 29=some t29:=by kernel_rfl
def t31:TI:=⟨true,2,32,[.sc (.int .i64 0),.sl 1],[(0,3),(1,29)],none,none,false,false,false,false⟩
theorem Tbj:Fao Tryz.prog 31=some t31:=by kernel_rfl
def t32:TI:=⟨false,1,24,[.sl 16],[],(some 95),none,false,false,false,false⟩
theorem Tbi:Fao Tryz.prog 32=some t32:=by kernel_rfl
def t34:TI:=⟨true,4,64,[.sc (.int .i64 0),.sc (.int .i64 0),.sl 1,.sl 16],[(0,3),(1,31),(3,32)],none,none,false,false,false,false⟩
theorem Tbh:Fao Tryz.prog 34=some t34:=by kernel_rfl
def t35:TI:=⟨false,1,24,[.sl 15],[],(some 59),none,false,false,false,false⟩
theorem Tbg:Fao Tryz.prog 35=some t35:=by kernel_rfl
def t47:TI:=⟨true,5,40,[.sc (.int .i64 0),.sc (.int .i64 0),.sc (.int .i64 0),.sc (.int .i64 0),.sc (.int .i64 0)],[(0,3),(1,3),(2,3),(3,3),(4,3)],none,none,false,false,false,true⟩
theorem Tbf:Fao Tryz.prog 47=some t47:=by kernel_rfl
def t50:TI:=⟨false,1,24,[.sl 1],[],(some 3),none,false,false,false,false⟩
theorem Tbe:Fao Tryz.prog 50=some t50:=by kernel_rfl
def t57:TI:=⟨true,2,32,[.sc (.int .i64 0),.sl 1],[(0,3),(1,50)],none,none,false,false,false,false⟩
theorem Tbd:Fao Tryz.prog 57=some t57:=by kernel_rfl
def t59:TI:=⟨true,15,136,[.sc (.int .i64 0),.sc (.int .i64 0),.sc (.int .i64 0),.sc (.int .i64 0),.sc (.int .i64 0),.sc (.int .i64 0),.sc (.int .i64 0),.sc (.int .i64 0),.sc (.int .i64 0),.sc (.int .i64 0),.sc (.int .i64 0),.sc (.int .i64 0),.sc (.int .i64 0),.sc (.int .i64 0),.sl 1],[(0,3),(1,3),(2,3),(3,3),(4,3),(5,3),(6,3),(7,3),(8,47),(13,57)],none,none,false,false,false,false⟩
theorem Tbc:Fao Tryz.prog 59=some t59:=by kernel_rfl
def t64:TI:=⟨false,1,24,[.sl 1],[],(some 5),none,false,false,false,false⟩
theorem Tbb:Fao Tryz.prog 64=some t64:=by kernel_rfl
def t68:TI:=⟨false,1,24,[.sl 10],[],(some 70),none,false,false,false,false⟩
theorem Tba:Fao Tryz.prog 68=some t68:=by kernel_rfl
def t70:TI:=⟨true,10,96,[.sc (.int .i64 0),.sc (.int .i64 0),.sc (.int .i64 0),.sc (.int .i64 0),.sc (.int .i64 0),.sc (.int .i64 0),.sc (.int .i64 0),.sc (.int .i64 0),.sc (.int .i64 0),.sl 1],[(0,3),(1,3),(2,3),(3,47),(8,57)],none,none,false,false,false,false⟩
theorem Sb9:Fao Tryz.prog 70=some t70:=by kernel_rfl
def t91:TI:=⟨true,6,96,[.sc (.int .i64 0),.sc (.int .i64 0),.sl 1,.sl 16,.sl 15,.sc (.bool false)],[(0,34),(4,35),(5,4)],none,none,false,false,false,false⟩
theorem Sb8:Fao Tryz.prog 91=some t91:=by kernel_rfl
def t95:TI:=⟨true,16,192,[.sc (.int .i64 0),.sc (.int .i64 0),.sc (.int .i64 0),.sc (.int .i64 0),.sc (.int .i64 0),.sc (.int .i64 0),.sc (.int .i64 0),.sc (.int .i64 0),.sc (.int .i64 0),.sc (.int .i64 0),.sl 1,.sc (.int .i64 0),.sl 1,.sc (.bool false),.sl 1,.sl 10],[(0,3),(1,3),(2,3),(3,3),(4,47),(9,57),(11,57),(13,4),(14,50),(15,68)],none,none,false,false,false,false⟩
theorem Sb7:Fao Tryz.prog 95=some t95:=by kernel_rfl
def Pb9:TI:=⟨true,6,96,[.sc (.int .i64 0),.sc (.int .i64 0),.sl 1,.sl 16,.sl 15,.sc (.bool false)],[(0,34),(4,35),(5,4)],none,none,false,false,false,false⟩
theorem Ob6:Fao Tryz.prog 106=some Pb9:=by kernel_rfl
def Pb8:TI:=⟨false,1,8,[.sc (.int .u64 0)],[],none,(some .u64),false,false,false,false⟩
theorem Ob5:Fao Tryz.prog 133=some Pb8:=by kernel_rfl
def Pb7:TI:=⟨true,3,40,[.sl 1,.sc (.int .i64 0),.sc (.int .u64 0)],[(0,64),(1,3),(2,133)],none,none,false,false,false,false⟩
theorem Ob4:Fao Tryz.prog 135=some Pb7:=by kernel_rfl
def Pb6:TI:=⟨false,1,8,[.sc (.int .u64 0)],[],none,(some .u64),false,false,false,false⟩
theorem Ob3:Fao Tryz.prog 200=some Pb6:=by kernel_rfl
def tiL:List (Nat×TI):=[(3,t3),(4,t4),(5,t5),(29,t29),(31,t31),(32,t32),(34,t34),(35,t35),(47,t47),(50,t50),(57,t57),(59,t59),(64,t64),(68,t68),(70,t70),(91,t91),(95,t95),(106,Pb9),(133,Pb8),(135,Pb7),(200,Pb6)]
theorem Eb6:vV Tryz.prog (lX tiL):=Sa3 (l:=tiL) (fc ti3 <| fc ti4 <| fc ti5 <| fc Tbk <| fc Tbj <| fc Tbi <| fc Tbh <| fc Tbg <| fc Tbf <| fc Tbe <| fc Tbd <| fc Tbc <| fc Tbb <| fc Tba <| fc Sb9 <| fc Sb8 <| fc Sb7 <| fc Ob6 <| fc Ob5 <| fc Ob4 <| fc Ob3 <| fc0)
def sg0:Sig:=⟨7,[(false,[.fz false]),(false,[.fz false])],[],[(false,[.sc])]⟩
def sg1:Sig:=⟨30,[(false,[.fz false]),(false,[.fz false])],[],[(false,[.sc])]⟩
def sg2:Sig:=⟨31,[(false,[.fz false])],[],[(true,[.sc,.sc,.fz,.ow 1]),(true,[.sc,.sc,.sc,.sc,.sc])]⟩
def sg3:Sig:=⟨100,[(false,[.px 0])],[(false,[(.fz false,.fz),(.sc,.sc),(.sc,.sc)])],[(true,[.sc,.sc,.fz,.ow 1])]⟩
def sg4:Sig:=⟨178,[(false,[.px 0]),(false,[.fz false])],[(false,[(.fz false,.fz),(.sc,.sc),(.sc,.sc)])],[(false,[.sc])]⟩
def sg5:Sig:=⟨109,[(false,[.px 0]),(false,[.sc])],[(false,[(.fz false,.fz),(.sc,.sc),(.sc,.sc)])],[(false,[.sc])]⟩
def sg6:Sig:=⟨186,[(false,[.px 0])],[(false,[(.fz false,.fz),(.sc,.sc),(.sc,.sc)])],[(false,[.sc])]⟩
def sg7:Sig:=⟨47,[(false,[.sc]),(false,[.sc])],[],[(true,[.sc,.sc,.ow 99,.ow 99]),(false,[.sc])]⟩
def sg8:Sig:=⟨127,[(false,[.sc])],[],[(false,[.sc])]⟩
def sg9:Sig:=⟨115,[(false,[.sc]),(false,[.sc]),(false,[.sc])],[],[(false,[.sc])]⟩
def Sbs:Sig:=⟨128,[(false,[.sc])],[],[(true,[.sc,.ow 99])]⟩
def Sbr:Sig:=⟨179,[(false,[.px 0])],[(false,[(.fz false,.fz),(.sc,.sc),(.sc,.sc)])],[(true,[.sc,.sc,.sc,.sc,.sc])]⟩
def Sbq:Sig:=⟨108,[(false,[.px 0]),(false,[.sc])],[(false,[(.fz false,.fz),(.sc,.sc),(.sc,.sc)])],[(false,[.sc])]⟩
def Sbp:Sig:=⟨21,[(true,[.sc,.sc,.fz false,.mu 1]),(true,[.sc,.sc,.sc,.sc,.sc])],[],[(true,[.sc,.sc,.fz,.ow 1]),(false,[.ow 99]),(false,[.sc])]⟩
def Sbo:Sig:=⟨40,[(true,[.sc,.sc,.fz false,.fz false])],[],[(false,[.sc])]⟩
def Sbn:Sig:=⟨114,[(true,[.sc,.fz false])],[],[(false,[.sc])]⟩
def Sbm:Sig:=⟨151,[(false,[.sc]),(true,[.sc,.sc,.sc,.sc,.sc,.sc,.sc,.sc,.sc,.fz false])],[],[(false,[.sc])]⟩
def Sbl:Sig:=⟨75,[(false,[.sc])],[],[(true,[.sc,.ow 99])]⟩
def Sbk:Sig:=⟨165,[(true,[.sc,.fz false]),(true,[.sc,.fz false])],[],[(false,[.sc])]⟩
def Sbj:Sig:=⟨214,[(false,[.fz false]),(false,[.fz false])],[],[(false,[.sc])]⟩
def Sbi:Sig:=⟨85,[(true,[.sc,.sc,.sc,.sc,.sc])],[],[(false,[.sc])]⟩
def Sbh:Sig:=⟨156,[(true,[.sc,.sc,.sc,.sc,.sc])],[],[(false,[.sc])]⟩
def Sbg:Sig:=⟨209,[(false,[.sc])],[],[(false,[.sc])]⟩
def Sbf:Sig:=⟨164,[(false,[.sc]),(true,[.sc,.fz false])],[],[(false,[.sc])]⟩
def Sbe:Sig:=⟨213,[(false,[.fz false]),(false,[.sc]),(false,[.sc])],[],[(false,[.sc])]⟩
def Sbd:Sig:=⟨116,[(false,[.sc]),(false,[.sc]),(true,[.sc,.sc,.sc,.sc,.sc,.sc,.sc,.sc,.sc,.sc,.fz false,.sc,.fz false,.sc,.fz false,.fz false])],[],[(false,[.sc])]⟩
def Sbc:Sig:=⟨73,[(false,[.sc]),(false,[.sc]),(false,[.sc])],[],[(false,[.sc])]⟩
def Sbb:Sig:=⟨194,[(false,[.fz false]),(false,[.sc]),(false,[.sc])],[],[(false,[.sc])]⟩
def Sba:Sig:=⟨195,[(false,[.fz false]),(false,[.sc])],[],[(false,[.sc])]⟩
def Rb9:Sig:=⟨51,[(true,[.sc,.sc,.fz false,.mu 1])],[],[(true,[.sc,.sc,.fz,.ow 1])]⟩
def Rb8:Sig:=⟨123,[(true,[.sc,.fz false])],[],[(true,[.sc,.ow 99])]⟩
def Rb7:Sig:=⟨133,[(true,[.sc,.sc,.sc,.sc,.sc,.sc,.sc,.sc,.sc,.fz false])],[],[(true,[.sc,.sc,.sc,.sc,.sc,.sc,.sc,.sc,.sc,.ow 99])]⟩
def Rb6:Sig:=⟨172,[(true,[.sc,.fz false])],[],[(true,[.sc,.ow 99])]⟩
def Rb5:Sig:=⟨202,[(false,[.fz false])],[],[(false,[.ow 99])]⟩
def Rb4:Sig:=⟨132,[(true,[.sc,.sc,.sc,.sc,.sc,.sc,.sc,.sc,.sc,.sc,.fz false,.sc,.fz false,.sc,.fz false,.fz false])],[],[(true,[.sc,.sc,.sc,.sc,.sc,.sc,.sc,.sc,.sc,.sc,.ow 99,.sc,.ow 99,.sc,.ow 99,.ow 99])]⟩
def Rb3:Sig:=⟨87,[(true,[.sc,.fz false]),(true,[.sc,.sc,.sc,.sc,.sc]),(false,[.sc]),(false,[.sc])],[],[(true,[.sc,.ow 99])]⟩
def Rb2:Sig:=⟨157,[(true,[.sc,.sc,.sc,.sc,.sc]),(true,[.sc,.sc,.sc,.sc,.sc])],[],[(false,[.sc])]⟩
def Rb1:Sig:=⟨210,[(true,[.sc,.sc,.sc,.sc,.sc])],[],[(false,[.ow 99])]⟩
def Rb0:Sig:=⟨216,[(false,[.ow 99]),(false,[.sc])],[],[(false,[.ow 99])]⟩
def Rbz:Sig:=⟨158,[(false,[.sc]),(false,[.sc])],[],[(false,[.sc])]⟩
def Rby:Sig:=⟨86,[(false,[.px 0]),(false,[.sc]),(false,[.sc]),(false,[.sc]),(true,[.sc,.sc,.sc,.sc,.sc]),(true,[.sc,.ow 99])],[(false,[(.sc,.sc),(.sc,.sc),(.fz false,.fz),(.ow 1,.ow 1),(.ow 99,.ow 99),(.sc,.sc)])],[]⟩
def Rbx:Sig:=⟨77,[(false,[.px 0]),(false,[.sc]),(false,[.sc]),(true,[.sc,.sc,.sc,.sc,.sc,.sc,.sc,.sc,.sc,.fz false])],[(false,[(.sc,.sc),(.sc,.sc),(.fz false,.fz),(.ow 1,.ow 1),(.ow 99,.ow 99),(.sc,.sc)])],[]⟩
def Rbw:Sig:=⟨152,[(true,[.sc,.fz false]),(false,[.sc]),(false,[.sc]),(true,[.sc,.sc,.sc,.sc,.sc,.sc,.sc,.sc,.sc,.fz false])],[],[(true,[.sc,.ow 99])]⟩
def Rbv:Sig:=⟨76,[(false,[.px 0]),(true,[.sc,.sc,.sc,.sc,.sc,.sc,.sc,.sc,.sc,.sc,.fz false,.sc,.fz false,.sc,.fz false,.fz false])],[(false,[(.sc,.sc),(.sc,.sc),(.fz false,.fz),(.ow 1,.ow 1),(.ow 99,.ow 99),(.sc,.sc)])],[]⟩
def Rbu:Sig:=⟨134,[(false,[.px 0]),(false,[.sc]),(false,[.sc])],[(false,[(.sc,.sc),(.sc,.sc),(.fz false,.fz),(.ow 1,.ow 1),(.ow 99,.ow 99),(.sc,.sc)])],[]⟩
def Rbt:Sig:=⟨78,[(false,[.px 0]),(true,[.sc,.sc,.sc,.sc,.sc,.sc,.sc,.sc,.sc,.sc,.sc,.sc,.sc,.sc,.fz false])],[(false,[(.sc,.sc),(.sc,.sc),(.fz false,.fz),(.ow 1,.ow 1),(.ow 99,.ow 99),(.sc,.sc)])],[]⟩
def Rbs:Sig:=⟨94,[(false,[.px 0]),(false,[.sc]),(true,[.sc,.sc,.sc,.sc,.sc,.sc,.sc,.sc,.sc,.sc,.sc,.sc,.sc,.sc,.fz false])],[(false,[(.sc,.sc),(.sc,.sc),(.fz false,.fz),(.ow 1,.ow 1),(.ow 99,.ow 99),(.sc,.sc)])],[]⟩
def Rbr:Sig:=⟨55,[(false,[.px 0])],[(false,[(.sc,.sc),(.sc,.sc),(.fz false,.fz),(.ow 1,.dead),(.ow 99,.dead),(.sc,.sc)])],[(true,[.sc,.sc,.fz,.ow 1]),(false,[.ow 99]),(false,[.sc])]⟩
def Rbq:Sig:=⟨107,[(false,[.px 0])],[(false,[(.fz false,.fz),(.sc,.sc),(.sc,.sc)])],[(false,[.sc]),(false,[.sc])]⟩
def Rbp:Sig:=⟨19,[(true,[.sc,.sc,.fz false,.mu 1]),(false,[.sc]),(false,[.sc])],[],[(true,[.sc,.sc,.fz,.ow 1]),(false,[.ow 99]),(false,[.sc])]⟩
def Rbo:Sig:=⟨53,[(true,[.sc,.fz false]),(false,[.sc]),(false,[.sc])],[],[(true,[.sc,.sc,.sc,.sc,.sc,.sc,.sc,.sc,.sc,.ow 99])]⟩
def Rbn:Sig:=⟨74,[(true,[.sc,.fz false]),(false,[.sc]),(false,[.sc]),(false,[.sc])],[],[(false,[.sc]),(false,[.sc])]⟩
def Rbm:Sig:=⟨149,[(true,[.sc,.fz false]),(false,[.sc]),(false,[.sc])],[],[(false,[.sc])]⟩
def Rbl:Sig:=⟨150,[(true,[.sc,.fz false]),(false,[.sc]),(false,[.sc]),(false,[.sc])],[],[(false,[.sc])]⟩
def Rbk:Sig:=⟨110,[(false,[.px 0]),(true,[.sc,.sc,.fz false,.mu 1])],[(false,[(.fz false,.fz),(.sc,.sc),(.sc,.sc)])],[(true,[.sc,.sc,.sc,.sc,.sc,.sc,.sc,.sc,.sc,.sc,.sc,.sc,.sc,.sc,.ow 99])]⟩
def Rbj:Sig:=⟨187,[(false,[.px 0]),(false,[.sc])],[(false,[(.fz false,.fz),(.sc,.sc),(.sc,.sc)])],[(true,[.sc,.sc,.sc,.sc,.sc,.sc,.sc,.sc,.sc,.sc,.sc,.sc,.sc,.sc,.ow 99])]⟩
def Rbi:Sig:=⟨188,[(false,[.px 0]),(false,[.sc])],[(false,[(.fz false,.fz),(.sc,.sc),(.sc,.sc)])],[(true,[.sc,.ow 99])]⟩
def Rbh:Sig:=⟨189,[(false,[.px 0]),(false,[.sc])],[(false,[(.fz false,.fz),(.sc,.sc),(.sc,.sc)])],[(true,[.sc,.sc,.sc,.sc,.sc,.sc,.sc,.sc,.sc,.ow 99])]⟩
def Rbg:Sig:=⟨101,[(false,[.px 0])],[(false,[(.fz false,.fz),(.sc,.sc),(.sc,.sc)])],[(true,[.sc,.sc,.sc,.sc,.sc])]⟩
def Rbf:Sig:=⟨25,[(true,[.sc,.sc,.fz false,.mu 1]),(true,[.sc,.sc,.sc,.sc,.sc,.sc,.sc,.sc,.sc,.sc,.sc,.sc,.sc,.sc,.fz false])],[],[(true,[.sc,.sc,.fz,.ow 1]),(false,[.ow 99]),(false,[.sc])]⟩
def Rbe:Sig:=⟨92,[(false,[.sc]),(true,[.sc,.sc,.sc,.sc,.sc,.sc,.sc,.sc,.sc,.sc,.sc,.sc,.sc,.sc,.fz false])],[],[(false,[.sc])]⟩
def Rbd:Sig:=⟨93,[(false,[.px 0]),(true,[.sc,.sc,.sc,.sc,.sc,.sc,.sc,.sc,.sc,.sc,.sc,.sc,.sc,.sc,.fz false]),(true,[.sc,.sc,.sc,.sc,.sc,.sc,.sc,.sc,.sc,.fz false])],[(false,[(.sc,.sc),(.sc,.sc),(.fz false,.fz),(.ow 1,.ow 1),(.ow 99,.ow 99),(.sc,.sc)])],[]⟩
def Rbc:Sig:=⟨166,[(false,[.px 0]),(true,[.sc,.sc,.sc,.sc,.sc,.sc,.sc,.sc,.sc,.sc,.sc,.sc,.sc,.sc,.fz false]),(true,[.sc,.sc,.sc,.sc,.sc,.sc,.sc,.sc,.sc,.fz false])],[(false,[(.sc,.sc),(.sc,.sc),(.fz false,.fz),(.ow 1,.ow 1),(.ow 99,.ow 99),(.sc,.sc)])],[]⟩
def Rbb:Sig:=⟨215,[(true,[.sc,.fz false]),(true,[.sc,.fz false])],[],[(true,[.sc,.ow 99])]⟩
def Rba:Sig:=⟨167,[(false,[.px 0]),(true,[.sc,.sc,.sc,.sc,.sc,.sc,.sc,.sc,.sc,.sc,.sc,.sc,.sc,.sc,.fz false])],[(false,[(.sc,.sc),(.sc,.sc),(.fz false,.fz),(.ow 1,.ow 1),(.ow 99,.ow 99),(.sc,.sc)])],[]⟩
def Qb9:Sig:=⟨168,[(false,[.px 0]),(true,[.sc,.sc,.sc,.sc,.sc,.sc,.sc,.sc,.sc,.sc,.sc,.sc,.sc,.sc,.fz false]),(false,[.sc])],[(true,[(.sc,.sc),(.sc,.sc),(.fz false,.fz),(.fz false,.fz),(.ot,.dead),(.sc,.sc)])],[(true,[.sc,.sc,.sc,.sc,.sc,.sc,.sc,.sc,.sc,.sc,.ow 99,.sc,.ow 99,.sc,.ow 99,.ow 99]),(false,[.sc])]⟩
def Qb8:Sig:=⟨52,[(false,[.px 0]),(false,[.sc]),(false,[.sc])],[(true,[(.sc,.sc),(.sc,.sc),(.fz false,.fz),(.fz false,.fz),(.ot,.dead),(.sc,.sc)])],[(false,[.sc])]⟩
def Qb7:Sig:=⟨169,[(false,[.px 0]),(false,[.sc]),(false,[.sc]),(true,[.sc,.sc,.sc,.sc,.sc]),(true,[.sc,.fz false])],[(false,[(.sc,.sc),(.sc,.sc),(.fz false,.fz),(.ow 1,.ow 1),(.ow 99,.ow 99),(.sc,.sc)])],[]⟩
def Qb6:Sig:=⟨170,[(false,[.px 0]),(false,[.sc]),(false,[.sc]),(true,[.sc,.sc,.sc,.sc,.sc]),(true,[.sc,.fz false])],[(false,[(.sc,.sc),(.sc,.sc),(.fz false,.fz),(.ow 1,.ow 1),(.ow 99,.ow 99),(.sc,.sc)])],[]⟩
def Qb5:Sig:=⟨54,[(false,[.px 0]),(true,[.sc,.sc,.sc,.sc,.sc,.sc,.sc,.sc,.sc,.sc,.fz false,.sc,.fz false,.sc,.fz false,.fz false])],[(false,[(.sc,.sc),(.sc,.sc),(.fz false,.fz),(.ow 1,.ow 1),(.ow 99,.ow 99),(.sc,.sc)])],[]⟩
def Qb4:Sig:=⟨171,[(false,[.px 0]),(true,[.sc,.sc,.sc,.sc,.sc,.sc,.sc,.sc,.sc,.sc,.sc,.sc,.sc,.sc,.fz false])],[(false,[(.sc,.sc),(.sc,.sc),(.fz false,.fz),(.ow 1,.ow 1),(.ow 99,.ow 99),(.sc,.sc)])],[]⟩
def Qb3:Sig:=⟨217,[(false,[.sc]),(false,[.fz false])],[],[(false,[.sc]),(true,[.sc,.sc,.sc,.sc,.sc]),(true,[.sc,.ow 99])]⟩
def Qb2:Sig:=⟨23,[(true,[.sc,.sc,.fz false,.fz false]),(true,[.sc,.sc,.sc,.sc,.sc])],[],[(true,[.sc,.sc,.ow 99,.ow 99]),(false,[.ow 99]),(false,[.sc])]⟩
def Qb1:Sig:=⟨39,[(true,[.sc,.sc,.fz false,.fz false])],[],[(false,[.sc])]⟩
def Qb0:Sig:=⟨104,[(true,[.sc,.fz false])],[],[(false,[.sc])]⟩
def Qbz:Sig:=⟨125,[(false,[.sc])],[],[(false,[.sc])]⟩
def Qby:Sig:=⟨182,[(false,[.fz false]),(false,[.clo 183 [.px 0]])],[(true,[(.sc,.sc),(.fz false,.fz)])],[(false,[.sc])]⟩
def Qbx:Sig:=⟨223,[(false,[.fz false]),(false,[.clo 183 [.px 0]])],[(true,[(.sc,.sc),(.fz false,.fz)])],[(false,[.sc])]⟩
def Qbw:Sig:=⟨183,[(false,[.fz false]),(false,[.px 0])],[(true,[(.sc,.sc),(.fz false,.fz)])],[(false,[.sc])]⟩
def Qbv:Sig:=⟨184,[(false,[.fz false]),(false,[.clo 185 [.px 0]])],[(true,[(.sc,.sc),(.fz false,.fz)])],[(false,[.sc])]⟩
def Qbu:Sig:=⟨224,[(false,[.fz false]),(false,[.clo 185 [.px 0]])],[(true,[(.sc,.sc),(.fz false,.fz)])],[(false,[.sc])]⟩
def Qbt:Sig:=⟨185,[(true,[.sc,.sc,.sc,.sc,.sc,.sc,.sc,.sc,.sc,.fz false]),(false,[.px 0])],[(true,[(.sc,.sc),(.fz false,.fz)])],[(false,[.sc])]⟩
def Qbs:Sig:=⟨117,[(false,[.sc]),(true,[.sc,.sc,.sc,.sc,.sc,.sc,.sc,.sc,.sc,.fz false])],[],[(false,[.sc])]⟩
def Qbr:Sig:=⟨111,[(false,[.sc]),(false,[.sc]),(false,[.sc])],[],[(false,[.sc])]⟩
def Qbq:Sig:=⟨88,[(true,[.sc,.sc,.sc,.sc,.sc])],[],[(false,[.sc])]⟩
def Qbp:Sig:=⟨159,[(false,[.sc])],[],[(false,[.sc])]⟩
def Qbo:Sig:=⟨119,[(false,[.sc]),(true,[.sc,.fz false])],[],[(false,[.sc])]⟩
def Qbn:Sig:=⟨196,[(false,[.fz false]),(false,[.clo 197 []])],[],[(false,[.sc])]⟩
def Qbm:Sig:=⟨229,[(false,[.fz false]),(false,[.clo 197 []])],[],[(false,[.sc])]⟩
def Qbl:Sig:=⟨197,[(false,[.sc])],[],[(false,[.sc])]⟩
def Qbk:Sig:=⟨81,[(false,[.sc])],[],[(true,[.sc,.ow 99])]⟩
def Qbj:Sig:=⟨120,[(true,[.sc,.fz false]),(true,[.sc,.fz false])],[],[(false,[.sc])]⟩
def Qbi:Sig:=⟨198,[(false,[.fz false]),(false,[.fz false])],[],[(false,[.sc])]⟩
def Qbh:Sig:=⟨112,[(false,[.sc]),(false,[.sc]),(true,[.sc,.sc,.sc,.sc,.sc,.sc,.sc,.sc,.sc,.sc,.fz false,.sc,.fz false,.sc,.fz false,.fz false])],[],[(false,[.sc])]⟩
def Qbg:Sig:=⟨105,[(false,[.sc]),(false,[.sc]),(false,[.sc])],[],[(false,[.sc])]⟩
def Qbf:Sig:=⟨190,[(false,[.sc]),(false,[.fz false])],[],[(false,[.sc])]⟩
def Qbe:Sig:=⟨225,[(false,[.fz false])],[],[(false,[.sc])]⟩
def Qbd:Sig:=⟨196,[(false,[.fz false]),(false,[.clo 226 [.px 0]])],[(true,[(.sc,.sc)])],[(false,[.sc])]⟩
def Qbc:Sig:=⟨229,[(false,[.fz false]),(false,[.clo 226 [.px 0]])],[(true,[(.sc,.sc)])],[(false,[.sc])]⟩
def Qbb:Sig:=⟨226,[(false,[.sc]),(false,[.px 0])],[(true,[(.sc,.sc)])],[(false,[.sc])]⟩
def Kbq:Sig:=⟨191,[(false,[.fz false]),(false,[.sc])],[],[(false,[.sc])]⟩
def Kbp:Sig:=⟨227,[(false,[.fz false]),(false,[.sc])],[],[(false,[.sc])]⟩
def Kbo:Sig:=⟨184,[(false,[.fz false]),(false,[.clo 192 [.px 0]])],[(true,[(.sc,.sc)])],[(false,[.sc])]⟩
def Kbn:Sig:=⟨224,[(false,[.fz false]),(false,[.clo 192 [.px 0]])],[(true,[(.sc,.sc)])],[(false,[.sc])]⟩
def Kbm:Sig:=⟨192,[(true,[.sc,.sc,.sc,.sc,.sc,.sc,.sc,.sc,.sc,.fz false]),(false,[.px 0])],[(true,[(.sc,.sc)])],[(false,[.sc])]⟩
def Kbl:Sig:=⟨113,[(false,[.fz false]),(false,[.fz false])],[],[(false,[.sc])]⟩
def Kbk:Sig:=⟨193,[(false,[.sc]),(false,[.sc])],[],[(false,[.sc])]⟩
def Kbj:Sig:=⟨228,[(false,[.sc])],[],[(false,[.sc])]⟩
def Kbi:Sig:=⟨59,[(true,[.sc,.sc,.fz false,.fz false])],[],[(false,[.bx [.sc,.sc,.ow 99,.ow 99,.ow 99,.sc]])]⟩
def Kbh:Sig:=⟨122,[(true,[.sc,.sc,.fz false,.fz false])],[],[(true,[.sc,.sc,.ow 99,.ow 99])]⟩
def Kbg:Sig:=⟨199,[(true,[.sc,.fz false])],[],[(true,[.sc,.ow 99])]⟩
def Kbf:Sig:=⟨142,[(false,[.fz false])],[],[(false,[.ow 99])]⟩
def Kbe:Sig:=⟨153,[(true,[.sc,.sc,.sc,.sc,.sc,.sc,.sc,.sc,.sc,.fz false])],[],[(true,[.sc,.sc,.sc,.sc,.sc,.sc,.sc,.sc,.sc,.ow 99])]⟩
def Kbd:Sig:=⟨140,[(true,[.sc,.fz false])],[],[(true,[.sc,.ow 99])]⟩
def Xas:Sig:=⟨141,[(false,[.fz false])],[],[(false,[.ow 99])]⟩
def Kbc:Sig:=⟨63,[(true,[.sc,.sc,.sc,.sc,.sc,.sc,.sc,.sc,.sc,.sc,.fz false,.sc,.fz false,.sc,.fz false,.fz false])],[],[(true,[.sc,.sc,.sc,.sc,.sc,.sc,.sc,.sc,.sc,.sc,.ow 99,.sc,.ow 99,.sc,.ow 99,.ow 99])]⟩
def Kbb:Sig:=⟨89,[(true,[.sc,.fz false]),(true,[.sc,.sc,.sc,.sc,.sc]),(false,[.sc]),(false,[.sc])],[],[(true,[.sc,.ow 99]),(false,[.sc])]⟩
def Kba:Sig:=⟨160,[(true,[.sc,.fz false]),(false,[.clo 161 [.px 0,.px 1,.px 2,.px 3]])],[(true,[(.sc,.sc)]),(true,[(.sc,.sc)]),(true,[(.sc,.sc),(.sc,.sc),(.sc,.sc),(.sc,.sc),(.sc,.sc)]),(false,[(.sc,.sc),(.ow 99,.ow 99)])],[]⟩
def Jb9:Sig:=⟨161,[(false,[.sc]),(false,[.sc]),(true,[.sc,.sc,.sc,.sc,.sc,.sc,.sc,.sc,.sc,.fz false]),(false,[.px 0]),(false,[.px 1]),(false,[.px 2]),(false,[.px 3])],[(true,[(.sc,.sc)]),(true,[(.sc,.sc)]),(true,[(.sc,.sc),(.sc,.sc),(.sc,.sc),(.sc,.sc),(.sc,.sc)]),(false,[(.sc,.sc),(.ow 99,.ow 99)])],[]⟩
def Jb8:Sig:=⟨162,[(true,[.sc,.sc,.sc,.sc,.sc]),(true,[.sc,.sc,.sc,.sc,.sc])],[],[(false,[.sc])]⟩
def Jb7:Sig:=⟨211,[(true,[.sc,.sc,.sc,.sc,.sc])],[],[(false,[.ow 99])]⟩
def Jb6:Sig:=⟨196,[(false,[.fz false]),(false,[.clo 212 [.px 0]])],[(true,[(.sc,.sc),(.sc,.sc),(.sc,.sc),(.sc,.sc),(.sc,.sc)])],[(false,[.sc])]⟩
def Jb5:Sig:=⟨229,[(false,[.fz false]),(false,[.clo 212 [.px 0]])],[(true,[(.sc,.sc),(.sc,.sc),(.sc,.sc),(.sc,.sc),(.sc,.sc)])],[(false,[.sc])]⟩
def Jb4:Sig:=⟨212,[(false,[.sc]),(false,[.px 0])],[(true,[(.sc,.sc),(.sc,.sc),(.sc,.sc),(.sc,.sc),(.sc,.sc)])],[(false,[.sc])]⟩
def Jb3:Sig:=⟨90,[(false,[.px 0]),(false,[.sc]),(false,[.sc]),(false,[.sc]),(true,[.sc,.sc,.sc,.sc,.sc]),(true,[.sc,.fz false])],[(false,[(.sc,.sc),(.sc,.sc),(.ow 99,.ow 99),(.ow 99,.ow 99),(.ow 99,.ow 99),(.sc,.sc)])],[]⟩
def Jb2:Sig:=⟨83,[(false,[.px 0]),(false,[.sc]),(false,[.sc]),(true,[.sc,.sc,.sc,.sc,.sc,.sc,.sc,.sc,.sc,.fz false])],[(false,[(.sc,.sc),(.ow 99,.ow 99)])],[]⟩
def Jb1:Sig:=⟨82,[(false,[.px 0]),(true,[.sc,.sc,.sc,.sc,.sc,.sc,.sc,.sc,.sc,.sc,.fz false,.sc,.fz false,.sc,.fz false,.fz false])],[(false,[(.sc,.sc),(.sc,.sc),(.ow 99,.ow 99),(.ow 99,.ow 99),(.ow 99,.ow 99),(.sc,.sc)])],[]⟩
def Jb0:Sig:=⟨139,[(false,[.px 0]),(false,[.sc]),(false,[.sc])],[(false,[(.sc,.sc),(.sc,.sc),(.ow 99,.ow 99),(.ow 99,.ow 99),(.ow 99,.ow 99),(.sc,.sc)])],[]⟩
def Jbz:Sig:=⟨60,[(false,[.px 0]),(false,[.sc]),(false,[.sc])],[(true,[(.sc,.sc),(.sc,.sc),(.fz false,.fz),(.fz false,.fz),(.fz false,.fz),(.sc,.sc)])],[(false,[.sc]),(false,[.sc])]⟩
def Jby:Sig:=⟨137,[(false,[.fz false]),(false,[.fz false]),(false,[.clo 138 []])],[],[(false,[.sc]),(false,[.sc])]⟩
def Jbx:Sig:=⟨138,[(true,[.sc,.sc,.sc,.sc,.sc,.sc,.sc,.sc,.sc,.sc,.fz false,.sc,.fz false,.sc,.fz false,.fz false]),(false,[.fz false])],[],[(false,[.sc])]⟩
def Jbw:Sig:=⟨204,[(false,[.ow 99]),(false,[.sc]),(false,[.sc])],[],[(false,[.ow 99])]⟩
def Jbv:Sig:=⟨154,[(false,[.ow 99]),(false,[.sc]),(false,[.ow 99])],[],[(false,[.ow 99])]⟩
def Jbu:Sig:=⟨84,[(false,[.px 0]),(true,[.sc,.sc,.sc,.sc,.sc,.sc,.sc,.sc,.sc,.sc,.sc,.sc,.sc,.sc,.fz true])],[(false,[(.sc,.sc),(.sc,.sc),(.ow 99,.ow 99),(.ow 99,.ow 99),(.ow 99,.ow 99),(.sc,.sc)])],[]⟩
def Jbt:Sig:=⟨155,[(false,[.px 0]),(true,[.sc,.sc,.sc,.sc,.sc,.sc,.sc,.sc,.sc,.sc,.sc,.sc,.sc,.sc,.fz true]),(false,[.sc])],[(false,[(.sc,.sc),(.sc,.sc),(.ow 99,.ow 99),(.ow 99,.ow 99),(.ow 99,.ow 99),(.sc,.sc)])],[]⟩
def Jbs:Sig:=⟨208,[(true,[.sc,.sc,.sc,.sc,.sc,.sc,.sc,.sc,.sc,.sc,.sc,.sc,.sc,.sc,.fz false])],[],[(true,[.sc,.sc,.sc,.sc,.sc,.sc,.sc,.sc,.sc,.sc,.sc,.sc,.sc,.sc,.ow 99])]⟩
def Jbr:Sig:=⟨64,[(false,[.px 0])],[(false,[(.sc,.sc),(.sc,.sc),(.ow 99,.dead),(.ow 99,.dead),(.ow 99,.dead),(.sc,.sc)])],[(true,[.sc,.sc,.ow 99,.ow 99]),(false,[.ow 99]),(false,[.sc])]⟩
def Jbq:Sig:=⟨32,[(true,[.sc,.sc,.fz false,.fz false]),(true,[.sc,.sc,.fz false,.fz false])],[],[(false,[.sc])]⟩
def Jbp:Sig:=⟨48,[(true,[.sc,.fz false]),(true,[.sc,.fz false])],[],[(false,[.sc])]⟩
def Jbo:Sig:=⟨129,[(false,[.fz false]),(false,[.fz false])],[],[(false,[.sc])]⟩
def Jbn:Sig:=⟨106,[(true,[.sc,.sc,.sc,.sc,.sc,.sc,.sc,.sc,.sc,.fz false]),(true,[.sc,.sc,.sc,.sc,.sc,.sc,.sc,.sc,.sc,.fz false])],[],[(false,[.sc])]⟩
def Jbm:Sig:=⟨180,[(true,[.sc,.fz false]),(true,[.sc,.fz false])],[],[(false,[.sc])]⟩
def Jbl:Sig:=⟨181,[(false,[.fz false]),(false,[.fz false])],[],[(false,[.sc])]⟩
def Jbk:Sig:=⟨102,[(true,[.sc,.sc,.sc,.sc,.sc,.sc,.sc,.sc,.sc,.sc,.fz false,.sc,.fz false,.sc,.fz false,.fz false]),(true,[.sc,.sc,.sc,.sc,.sc,.sc,.sc,.sc,.sc,.sc,.fz false,.sc,.fz false,.sc,.fz false,.fz false])],[],[(false,[.sc])]⟩
def Jbj:Sig:=⟨33,[(false,[.fz false]),(false,[.fz false])],[],[(false,[.sc])]⟩
def Jbi:Sig:=⟨103,[(true,[.sc,.sc,.sc,.sc,.sc,.sc,.sc,.sc,.sc,.sc,.sc,.sc,.sc,.sc,.fz false]),(true,[.sc,.sc,.sc,.sc,.sc,.sc,.sc,.sc,.sc,.sc,.sc,.sc,.sc,.sc,.fz false])],[],[(false,[.sc])]⟩
def Jbh:Sig:=⟨34,[(true,[.sc,.fz false]),(false,[.sc]),(false,[.sc])],[],[(true,[.sc,.sc,.sc,.sc,.sc,.sc,.sc,.sc,.sc,.ow 99]),(false,[.sc])]⟩
def Jbg:Sig:=⟨80,[(true,[.sc,.fz false]),(false,[.sc]),(false,[.sc])],[],[(true,[.sc,.sc,.sc,.sc,.sc,.sc,.sc,.sc,.sc,.ow 99])]⟩
def Jbf:Sig:=⟨35,[(true,[.sc,.fz false]),(true,[.sc,.fz false])],[],[(false,[.sc])]⟩
def Jbe:Sig:=⟨36,[(false,[.fz false])],[],[(true,[.sc,.sc,.fz,.ow 1]),(false,[.sc]),(false,[.sc])]⟩
def Jbd:Sig:=⟨20,[(true,[.sc,.sc,.fz false,.fz false]),(false,[.sc]),(false,[.sc])],[],[(true,[.sc,.sc,.ow 99,.ow 99]),(false,[.ow 99]),(false,[.sc])]⟩
def Jbc:Sig:=⟨58,[(true,[.sc,.sc,.fz false,.fz false]),(false,[.sc]),(false,[.sc])],[],[(false,[.sc])]⟩
def Jbb:Sig:=⟨79,[(true,[.sc,.fz false]),(false,[.sc]),(false,[.sc]),(false,[.sc])],[],[(false,[.sc]),(false,[.sc])]⟩
def Jba:Sig:=⟨37,[(false,[.fz false])],[],[(true,[.sc,.sc,.fz,.ow 1]),(false,[.sc]),(false,[.sc])]⟩
def Ib9:Sig:=⟨12,[(true,[.sc,.sc,.fz false,.fz false]),(false,[.sc]),(false,[.sc])],[],[(true,[.sc,.sc,.ow 99,.ow 99]),(false,[.ow 99]),(false,[.sc])]⟩
def Ib8:Sig:=⟨61,[(false,[.sc]),(false,[.sc])],[],[(false,[.sc])]⟩
def Ib7:Sig:=⟨62,[(false,[.px 0]),(true,[.sc,.sc,.sc,.sc,.sc,.sc,.sc,.sc,.sc,.sc,.fz false,.sc,.fz false,.sc,.fz false,.fz false])],[(false,[(.sc,.sc),(.sc,.sc),(.ow 99,.ow 99),(.ow 99,.ow 99),(.ow 99,.ow 99),(.sc,.sc)])],[]⟩
def Ib6:Sig:=⟨10,[(true,[.sc,.sc,.fz false,.mu 1]),(false,[.sc]),(false,[.sc])],[],[(true,[.sc,.sc,.fz,.fz]),(false,[.ow 99]),(false,[.sc])]⟩
def sigs:List (Nat×Sig):=[(0,sg0),(1,sg1),(2,sg2),(3,sg3),(4,sg4),(5,sg5),(6,sg6),(7,sg7),(8,sg8),(9,sg9),(10,Sbs),(11,Sbr),(12,Sbq),(13,Sbp),(14,Sbo),(15,Sbn),(16,Sbm),(17,Sbl),(18,Sbk),(19,Sbj),(20,Sbi),(21,Sbh),(22,Sbg),(23,Sbf),(24,Sbe),(25,Sbd),(26,Sbc),(27,Sbb),(28,Sba),(29,Rb9),(30,Rb8),(31,Rb7),(32,Rb6),(33,Rb5),(34,Rb4),(35,Rb3),(36,Rb2),(37,Rb1),(38,Rb0),(39,Rbz),(40,Rby),(41,Rbx),(42,Rbw),(43,Rbv),(44,Rbu),(45,Rbt),(46,Rbs),(47,Rbr),(48,Rbq),(49,Rbp),(50,Rbo),(51,Rbn),(52,Rbm),(53,Rbl),(54,Rbk),(55,Rbj),(56,Rbi),(57,Rbh),(58,Rbg),(59,Rbf),(60,Rbe),(61,Rbd),(62,Rbc),(63,Rbb),(64,Rba),(65,Qb9),(66,Qb8),(67,Qb7),(68,Qb6),(69,Qb5),(70,Qb4),(71,Qb3),(72,Qb2),(73,Qb1),(74,Qb0),(75,Qbz),(76,Qby),(77,Qbx),(78,Qbw),(79,Qbv),(80,Qbu),(81,Qbt),(82,Qbs),(83,Qbr),(84,Qbq),(85,Qbp),(86,Qbo),(87,Qbn),(88,Qbm),(89,Qbl),(90,Qbk),(91,Qbj),(92,Qbi),(93,Qbh),(94,Qbg),(95,Qbf),(96,Qbe),(97,Qbd),(98,Qbc),(99,Qbb),(100,Kbq),(101,Kbp),(102,Kbo),(103,Kbn),(104,Kbm),(105,Kbl),(106,Kbk),(107,Kbj),(108,Kbi),(109,Kbh),(110,Kbg),(111,Kbf),(112,Kbe),(113,Kbd),(114,Xas),(115,Kbc),(116,Kbb),(117,Kba),(118,Jb9),(119,Jb8),(120,Jb7),(121,Jb6),(122,Jb5),(123,Jb4),(124,Jb3),(125,Jb2),(126,Jb1),(127,Jb0),(128,Jbz),(129,Jby),(130,Jbx),(131,Jbw),(132,Jbv),(133,Jbu),(134,Jbt),(135,Jbs),(136,Jbr),(137,Jbq),(138,Jbp),(139,Jbo),(140,Jbn),(141,Jbm),(142,Jbl),(143,Jbk),(144,Jbj),(145,Jbi),(146,Jbh),(147,Jbg),(148,Jbf),(149,Jbe),(150,Jbd),(151,Jbc),(152,Jbb),(153,Jba),(154,Ib9),(155,Ib8),(156,Ib7),(157,Ib6)]
abbrev E0:Env:=⟨lX tiL,sigs,0,0,false,false,[],[],[],0,[]⟩
def tm0:Tm Unit :=
(.call none 1 [.v 0,.v 1] 1 [] <|
(.ite (.v 2)
(.leaf .ret [.c (.bool true)] ())
(.call none 2 [.v 0] 9 [] <|
(.call none 72 [.v 3,.v 4,.v 5,.v 6,.v 7,.v 8,.v 9,.v 10,.v 11] 6 [] <|
(.lt none (.dep 99) [.v 14] 0 <|
(.lt none (.dep 99) [.v 15] 0 <|
(.lt none (.dep 99) [.v 16] 0 <|
(.call none 13 [.v 3,.v 4,.v 5,.v 6,.v 7,.v 8,.v 9,.v 10,.v 11] 7 [] <|
(.lt none (.eqb true) [.v 17,.v 23] 1 <|
(.call (some (.v 25,false)) 137 [.v 12,.v 13,.v 14,.v 15,.v 18,.v 19,.v 20,.v 21] 1 [] <|
(.lt (some (.v 25,false)) .not [.v 26] 1 <|
(.lt none .pick [.v 25,.c (.bool true),.v 27] 1 <|
(.call (some (.v 28,false)) 144 [.v 16,.v 22] 1 [] <|
(.lt (some (.v 28,false)) .not [.v 29] 1 <|
(.lt none .pick [.v 28,.c (.bool true),.v 30] 1 <|
(.ite (.v 31)
(.leaf .ret [.c (.bool false)] ())
(.bind 0
(.ite (.v 17)
(.lt none .inb [.v 5,.v 3] 0 <|
(.lt none (.row 1 0 [false]) [.v 5,.v 3] 1 <|
(.lt none .len [.v 32] 1 <|
(.lt none (.bin .add) [.v 33,.c (.int .i64 1)] 1 <|
(.call none 146 [.v 13,.v 14,.v 3,.v 34] 11 [] <|
(.lt none (.dep 99) [.v 44] 0 <|
(.lt none .not [.v 45] 1 <|
(.lt (some (.v 46,false)) (.eqs [0,0,0,0,0]) [.v 38,.v 39,.v 40,.v 41,.v 42,.v 7,.v 8,.v 9,.v 10,.v 11] 1 <|
(.lt (some (.v 46,false)) .not [.v 47] 1 <|
(.lt none .pick [.v 46,.c (.bool true),.v 48] 1 <|
(.lt (some (.v 49,false)) .id [.v 37] 1 <|
(.lt (some (.v 49,false)) (.bin .neq) [.v 50,.c (.int .i64 1)] 1 <|
(.lt none .pick [.v 49,.c (.bool true),.v 51] 1 <|
(.lt (some (.v 52,false)) .id [.v 35] 1 <|
(.lt (some (.v 52,false)) (.bin .neq) [.v 53,.c (.int .i64 0)] 1 <|
(.lt none .pick [.v 52,.c (.bool true),.v 54] 1 <|
(.lt (some (.v 55,false)) .len [.v 16] 1 <|
(.lt (some (.v 55,false)) .id [.v 4] 1 <|
(.lt (some (.v 55,false)) (.bin .sub) [.v 57,.c (.int .i64 1)] 1 <|
(.lt (some (.v 55,false)) (.bin .neq) [.v 56,.v 58] 1 <|
(.lt none .pick [.v 55,.c (.bool true),.v 59] 1 <|
(.call (some (.v 60,false)) 148 [.v 4,.v 5,.v 13,.v 14] 1 [] <|
(.lt (some (.v 60,false)) .not [.v 61] 1 <|
(.lt none .pick [.v 60,.c (.bool true),.v 62] 1 <|
(.ite (.v 63)
(.leaf .ret [.c (.bool false)] ())
(.leaf (.yield 0) [] ()))))))))))))))))))))))))))
(.leaf (.yield 0) [] ())) <|
(.call none 149 [.v 1] 6 [] <|
(.call none 150 [.v 32,.v 33,.v 34,.v 35,.v 36,.v 37] 6 [] <|
(.lt none (.dep 99) [.v 40] 0 <|
(.lt none (.dep 99) [.v 41] 0 <|
(.lt none (.dep 99) [.v 42] 0 <|
(.call none 49 [.v 32,.v 33,.v 34,.v 35,.v 36,.v 37] 7 [] <|
(.lt none (.eqb true) [.v 43,.v 49] 1 <|
(.call (some (.v 51,false)) 137 [.v 38,.v 39,.v 40,.v 41,.v 44,.v 45,.v 46,.v 47] 1 [] <|
(.lt (some (.v 51,false)) .not [.v 52] 1 <|
(.lt none .pick [.v 51,.c (.bool true),.v 53] 1 <|
(.call (some (.v 54,false)) 144 [.v 42,.v 48] 1 [] <|
(.lt (some (.v 54,false)) .not [.v 55] 1 <|
(.lt none .pick [.v 54,.c (.bool true),.v 56] 1 <|
(.ite (.v 57)
(.leaf .ret [.c (.bool false)] ())
(.bind 0
(.ite (.v 43)
(.call none 146 [.v 33,.v 34,.v 36,.v 37] 11 [] <|
(.call none 146 [.v 39,.v 40,.v 36,.v 37] 11 [] <|
(.lt none (.dep 99) [.v 78] 0 <|
(.lt none .not [.v 68] 1 <|
(.lt (some (.v 80,false)) .id [.v 79] 1 <|
(.lt (some (.v 80,false)) .not [.v 81] 1 <|
(.lt none .pick [.v 80,.c (.bool true),.v 82] 1 <|
(.lt (some (.v 83,false)) .id [.v 69] 1 <|
(.lt (some (.v 83,false)) .id [.v 58] 1 <|
(.lt (some (.v 83,false)) (.bin .leq) [.v 84,.v 85] 1 <|
(.lt none .pick [.v 83,.c (.bool true),.v 86] 1 <|
(.lt (some (.v 87,false)) .id [.v 69] 1 <|
(.lt (some (.v 87,false)) (.bin .rem) [.v 88,.c (.int .i64 8)] 1 <|
(.lt (some (.v 87,false)) .id [.v 32] 1 <|
(.lt (some (.v 87,false)) (.bin .neq) [.v 89,.v 90] 1 <|
(.lt none .pick [.v 87,.c (.bool true),.v 91] 1 <|
(.lt (some (.v 92,false)) .id [.v 71] 1 <|
(.lt (some (.v 92,false)) .id [.v 60] 1 <|
(.lt (some (.v 92,false)) (.bin .neq) [.v 93,.v 94] 1 <|
(.lt none .pick [.v 92,.c (.bool true),.v 95] 1 <|
(.lt (some (.v 96,false)) .id [.v 70] 1 <|
(.lt (some (.v 96,false)) .id [.v 59] 1 <|
(.lt (some (.v 96,false)) (.bin .neq) [.v 97,.v 98] 1 <|
(.lt none .pick [.v 96,.c (.bool true),.v 99] 1 <|
(.lt (some (.v 100,false)) .len [.v 42] 1 <|
(.lt (some (.v 100,false)) .id [.v 33] 1 <|
(.lt (some (.v 100,false)) (.bin .sub) [.v 102,.c (.int .i64 1)] 1 <|
(.lt (some (.v 100,false)) (.bin .neq) [.v 101,.v 103] 1 <|
(.lt none .pick [.v 100,.c (.bool true),.v 104] 1 <|
(.ite (.v 105)
(.leaf .ret [.c (.bool false)] ())
(.leaf (.yield 0) [] ())))))))))))))))))))))))))))))))
(.leaf (.yield 0) [] ())) <|
(.call none 153 [.v 1] 6 [] <|
(.call none 154 [.v 58,.v 59,.v 60,.v 61,.v 62,.v 63] 6 [] <|
(.lt none (.dep 99) [.v 66] 0 <|
(.lt none (.dep 99) [.v 67] 0 <|
(.lt none (.dep 99) [.v 68] 0 <|
(.call none 157 [.v 58,.v 59,.v 60,.v 61,.v 62,.v 63] 7 [] <|
(.lt none (.eqb false) [.v 69,.v 75] 1 <|
(.call (some (.v 77,true)) 137 [.v 64,.v 65,.v 66,.v 67,.v 70,.v 71,.v 72,.v 73] 1 [] <|
(.lt none .pick [.v 77,.v 78,.c (.bool false)] 1 <|
(.call (some (.v 79,true)) 144 [.v 68,.v 74] 1 [] <|
(.lt none .pick [.v 79,.v 80,.c (.bool false)] 1 <|
(.leaf .ret [.v 81] ()))))))))))))))))))))))))))))))))))))))))))))
def tm1:Tm Unit :=
(.lt none .len [.v 0] 1 <|
(.lt none (.bin .gtr) [.v 2,.c (.int .i64 1048576)] 1 <|
(.lt (some (.v 3,false)) .len [.v 1] 1 <|
(.lt (some (.v 3,false)) .len [.v 0] 1 <|
(.lt (some (.v 3,false)) (.bin .sub) [.c (.int .i64 1048576),.v 5] 1 <|
(.lt (some (.v 3,false)) (.bin .gtr) [.v 4,.v 6] 1 <|
(.lt none .pick [.v 3,.c (.bool true),.v 7] 1 <|
(.leaf .ret [.v 8] ()))))))))
def tm2:Tm Unit :=
(.call none 3 [.v 0,.c (.int .i64 0),.c (.int .u64 0)] 7 [] <|
(.call none 58 [.v 5,.v 6,.v 7] 8 [] <|
(.leaf .ret [.v 1,.v 2,.v 3,.v 4,.v 8,.v 9,.v 10,.v 11,.v 12] ())))
def tm3:Tm Unit :=
(.lt none (.mk 1 4) [.c (.int .i64 3),.c (.int .i64 3),.c (.int .i64 3),.c (.int .i64 5)] 1 <|
(.call none 4 [.v 3,.v 0,.v 1,.v 2] 4 [] <|
(.call none 5 [.c (.int .i64 3),.v 5,.v 6,.v 7] 4 [] <|
(.call none 7 [.v 4,.v 8] 5 [] <|
(.call none 5 [.c (.int .i64 7),.v 9,.v 10,.v 11] 4 [] <|
(.bind 1
(.loop [.v 17,.v 18,.v 19,.v 20,.v 12,.v 13,.v 14,.v 15]
(.lt none (.bin .gtr) [.v 21,.c (.int .i64 0)] 1 <|
(.ite (.v 29)
(.bind 0
(.bind 0
(.call none 5 [.c (.int .i64 4),.v 22,.v 23,.v 24] 4 [] <|
(.lt none (.bin .eql) [.v 30,.c (.int .i64 0)] 1 <|
(.ite (.v 34)
(.call none 11 [.v 31,.v 32,.v 33] 8 [] <|
(.call none 13 [.v 25,.v 26,.v 27,.v 28,.v 35,.v 36,.v 37,.v 38,.v 39] 7 [] <|
(.leaf (.yield 0) [.v 48,.v 40,.v 41,.v 42,.v 49,.v 43,.v 44,.v 45,.v 46] ())))
(.lt none (.bin .eql) [.v 30,.c (.int .i64 1)] 1 <|
(.ite (.v 35)
(.call none 48 [.v 31,.v 32,.v 33] 5 [] <|
(.call none 49 [.v 25,.v 26,.v 27,.v 28,.v 36,.v 37] 7 [] <|
(.leaf (.yield 0) [.v 46,.v 38,.v 39,.v 40,.v 47,.v 41,.v 42,.v 43,.v 44] ())))
(.call none 54 [.v 25,.v 26,.v 27,.v 28,.v 31,.v 32,.v 33] 19 [] <|
(.call none 59 [.v 25,.v 26,.v 27,.v 51,.v 36,.v 37,.v 38,.v 39,.v 40,.v 41,.v 42,.v 43,.v 44,.v 45,.v 46,.v 47,.v 48,.v 49,.v 50] 7 [] <|
(.leaf (.yield 0) [.v 60,.v 52,.v 53,.v 54,.v 61,.v 55,.v 56,.v 57,.v 58] ())))))))) <|
(.ite (.v 30)
(.leaf (.yield 0) [.v 31,.v 32,.v 33,.v 35,.v 36,.v 37,.v 38] ())
(.leaf (.yield 0) [.v 31,.v 32,.v 33,.v 25,.v 26,.v 27,.v 34] ()))) <|
(.lt none (.bin .sub) [.v 21,.c (.int .i64 1)] 1 <|
(.leaf .cont [.v 37,.v 30,.v 31,.v 32,.v 33,.v 34,.v 35,.v 36] ())))
(.leaf (.yield 1) [.v 22,.v 23,.v 24,.v 25,.v 26,.v 27,.v 28] ())))) <|
(.bind 0
(.call none 5 [.c (.int .i64 40),.v 21,.v 22,.v 23] 4 [] <|
(.lt none (.bin .eql) [.v 28,.c (.int .i64 0)] 1 <|
(.ite (.v 32)
(.call none 5 [.c (.int .i64 6),.v 29,.v 30,.v 31] 4 [] <|
(.leaf (.yield 0) [.v 34,.v 35,.v 36,.v 33,.v 27] ()))
(.lt none (.bin .eql) [.v 28,.c (.int .i64 1)] 1 <|
(.ite (.v 33)
(.lt none (.mk 16 1) [.c (.int .i64 0),.c (.int .i64 0),.c (.int .i64 0),.c (.int .i64 0),.c (.int .i64 0),.c (.int .i64 0),.c (.int .i64 0),.c (.int .i64 0),.c (.int .i64 0),.c (.int .i64 0),.c (.rows 1 []),.c (.int .i64 0),.c (.rows 1 []),.c (.bool false),.c (.rows 1 []),.c (.rows 10 [])] 1 <|
(.lt none (.app 16 192 false) [.v 27,.v 34] 1 <|
(.leaf (.yield 0) [.v 29,.v 30,.v 31,.v 24,.v 35] ())))
(.leaf (.yield 0) [.v 29,.v 30,.v 31,.v 24,.v 27] ())))))) <|
(.leaf .ret [.v 31,.v 25,.v 26,.v 32,.v 28,.v 29,.v 30] ()))))))))
def tm4:Tm Unit :=
(.lt none .len [.v 0] 1 <|
(.call none 5 [.v 4,.v 1,.v 2,.v 3] 4 [] <|
(.lt none .inb [.v 0,.v 5] 0 <|
(.lt none (.row 1 0 [true]) [.v 0,.v 5] 1 <|
(.leaf .ret [.v 9,.v 6,.v 7,.v 8] ())))))
def tm5:Tm Unit :=
(.lt none (.bin .leq) [.v 0,.c (.int .i64 1)] 1 <|
(.ite (.v 4)
(.leaf .ret [.c (.int .i64 0),.v 1,.v 2,.v 3] ())
(.call none 6 [.v 1,.v 2,.v 3] 4 [] <|
(.bind 0
(.lt none (.bin .gtr) [.v 0,.c (.int .i64 200)] 1 <|
(.ite (.v 9)
(.lt none (.bin .mul) [.v 5,.c (.int .i64 256)] 1 <|
(.call none 6 [.v 6,.v 7,.v 8] 4 [] <|
(.lt none (.bin .add) [.v 10,.v 11] 1 <|
(.leaf (.yield 0) [.v 15,.v 12,.v 13,.v 14] ()))))
(.leaf (.yield 0) [.v 5,.v 6,.v 7,.v 8] ()))) <|
(.lt none (.bin .rem) [.v 9,.v 0] 1 <|
(.leaf .ret [.v 13,.v 10,.v 11,.v 12] ()))))))
def tm6:Tm Unit :=
(.bind 0
(.lt none .len [.v 0] 1 <|
(.lt none (.bin .lss) [.v 1,.v 3] 1 <|
(.ite (.v 4)
(.lt none .inb [.v 0,.v 1] 0 <|
(.lt none (.row 1 0 [true]) [.v 0,.v 1] 1 <|
(.lt none (.conv .i64) [.v 5] 1 <|
(.leaf (.yield 0) [.v 6] ()))))
(.leaf (.yield 0) [.c (.int .i64 0)] ())))) <|
(.lt none (.bin .add) [.v 1,.c (.int .i64 1)] 1 <|
(.lt none (.bin .mul) [.v 2,.c (.int .u64 6364136223846793005)] 1 <|
(.lt none (.conv .u64) [.v 3] 1 <|
(.lt none (.bin .add) [.v 5,.v 6] 1 <|
(.lt none (.bin .add) [.v 7,.c (.int .u64 1442695040888963407)] 1 <|
(.lt none .len [.v 0] 1 <|
(.lt none (.bin .leq) [.v 4,.v 9] 1 <|
(.ite (.v 10)
(.leaf .ret [.v 3,.v 0,.v 4,.v 8] ())
(.lt none (.bin .shr) [.v 8,.c (.int .u64 40)] 1 <|
(.lt none (.bin .and) [.v 11,.c (.int .u64 255)] 1 <|
(.lt none (.conv .i64) [.v 12] 1 <|
(.leaf .ret [.v 13,.v 0,.v 4,.v 8] ())))))))))))))
def tm7:Tm Unit :=
(.call none 8 [.v 0] 1 [] <|
(.lt none .not [.v 2] 1 <|
(.lt (some (.v 3,false)) .id [.v 1] 1 <|
(.lt (some (.v 3,false)) .id [.v 0] 1 <|
(.lt (some (.v 3,false)) (.bin .sub) [.v 5,.c (.int .i64 1)] 1 <|
(.call (some (.v 3,false)) 9 [.v 4,.c (.int .i64 0),.v 6] 1 [] <|
(.lt (some (.v 3,false)) .not [.v 7] 1 <|
(.lt none .pick [.v 3,.c (.bool true),.v 8] 1 <|
(.ite (.v 9)
(.leaf .ret [.c (.int .i64 0),.c (.int .i64 0),.c (.rows 1 []),.c (.rows 16 []),.c (.bool false)] ())
(.call none 10 [.v 0] 2 [] <|
(.leaf .ret [.v 1,.v 10,.v 11,.c (.rows 16 []),.c (.bool true)] ())))))))))))
def tm8:Tm Unit :=
(.lt none (.bin .eql) [.v 0,.c (.int .i64 3)] 1 <|
(.lt (some (.v 1,false)) .id [.v 0] 1 <|
(.lt (some (.v 1,false)) (.bin .eql) [.v 2,.c (.int .i64 5)] 1 <|
(.lt none .pick [.v 1,.c (.bool true),.v 3] 1 <|
(.leaf .ret [.v 4] ())))))
def tm9:Tm Unit :=
(.lt none (.bin .geq) [.v 0,.v 1] 1 <|
(.lt (some (.v 3,true)) .id [.v 0] 1 <|
(.lt (some (.v 3,true)) .id [.v 2] 1 <|
(.lt (some (.v 3,true)) (.bin .leq) [.v 4,.v 5] 1 <|
(.lt none .pick [.v 3,.v 6,.c (.bool false)] 1 <|
(.leaf .ret [.v 7] ()))))))
def Obk:Tm Unit :=
(.lt none (.make 24 [(.rows 10 [])]) [.v 0] 1 <|
(.leaf .ret [.v 0,.v 1] ()))
def Obi:Tm Unit :=
(.call none 5 [.c (.int .i64 9),.v 0,.v 1,.v 2] 4 [] <|
(.lt none (.bin .add) [.c (.int .i64 1),.v 3] 1 <|
(.call none 5 [.c (.int .i64 4),.v 4,.v 5,.v 6] 4 [] <|
(.call none 5 [.c (.int .i64 30),.v 9,.v 10,.v 11] 4 [] <|
(.lt none (.bin .add) [.c (.int .i64 1),.v 12] 1 <|
(.lt none (.bin .add) [.v 8,.c (.int .i64 1)] 1 <|
(.call none 5 [.c (.int .i64 3),.v 13,.v 14,.v 15] 4 [] <|
(.lt none (.bin .add) [.v 17,.v 18] 1 <|
(.lt none (.bin .rem) [.v 22,.c (.int .i64 4)] 1 <|
(.call none 12 [.c (.int .i64 4),.v 19,.v 20,.v 21] 4 [] <|
(.ite (.v 24)
(.leaf .ret [.c (.int .i64 2),.v 7,.v 8,.c (.int .i64 0),.c (.int .i64 0),.v 25,.v 26,.v 27] ())
(.leaf .ret [.c (.int .i64 1),.v 7,.v 8,.v 23,.v 16,.v 25,.v 26,.v 27] ()))))))))))))
def Obh:Tm Unit :=
(.call none 5 [.v 0,.v 1,.v 2,.v 3] 4 [] <|
(.lt none (.bin .eql) [.v 4,.c (.int .i64 0)] 1 <|
(.leaf .ret [.v 8,.v 5,.v 6,.v 7] ())))
def Obg:Tm Unit :=
(.call none 14 [.v 0,.v 1,.v 2,.v 3] 1 [] <|
(.lt none .not [.v 9] 1 <|
(.call (some (.v 10,false)) 20 [.v 4,.v 5,.v 6,.v 7,.v 8] 1 [] <|
(.lt (some (.v 10,false)) .not [.v 11] 1 <|
(.lt none .pick [.v 10,.c (.bool true),.v 12] 1 <|
(.lt (some (.v 13,false)) .id [.v 4] 1 <|
(.lt (some (.v 13,false)) (.bin .eql) [.v 14,.c (.int .i64 0)] 1 <|
(.lt none .pick [.v 13,.c (.bool true),.v 15] 1 <|
(.lt (some (.v 16,false)) .id [.v 0] 1 <|
(.lt (some (.v 16,false)) .inb [.v 2,.v 17] 0 <|
(.lt (some (.v 16,false)) (.row 1 0 [false]) [.v 2,.v 17] 1 <|
(.lt (some (.v 16,false)) .len [.v 18] 1 <|
(.lt (some (.v 16,false)) (.bin .geq) [.v 19,.c (.int .i64 6)] 1 <|
(.lt none .pick [.v 16,.c (.bool true),.v 20] 1 <|
(.ite (.v 21)
(.leaf .ret [.c (.int .i64 0),.c (.int .i64 0),.c (.rows 1 []),.c (.rows 16 []),.c (.rows 15 []),.c (.bool false),.v 3] ())
(.call none 29 [.v 0,.v 1,.v 2,.v 3] 5 [] <|
(.lt none .inb [.v 2,.v 0] 0 <|
(.lt none (.row 1 0 [false]) [.v 2,.v 0] 1 <|
(.lt none .len [.v 27] 1 <|
(.lt none (.bin .add) [.v 28,.c (.int .i64 1)] 1 <|
(.call none 35 [.v 1,.v 2,.v 4,.v 5,.v 6,.v 7,.v 8,.v 0,.v 29] 2 [] <|
(.call none 40 [.v 0,.v 29,.c (.int .i64 0),.v 4,.v 5,.v 6,.v 7,.v 8,.v 30,.v 31,.v 22,.v 23,.v 24,.v 25,.c (.rows 15 []),.c (.bool true)] 6 [] <|
(.call none 47 [.v 32,.v 33,.v 34,.v 35,.v 36,.v 37] 12 [] <|
(.leaf .ret [.v 38,.v 39,.v 40,.v 41,.v 42,.v 43,.v 26] ()))))))))))))))))))))))))
def Obf:Tm Unit :=
(.call none 15 [.v 1,.v 2] 1 [] <|
(.lt none .not [.v 4] 1 <|
(.lt (some (.v 5,false)) .id [.v 0] 1 <|
(.lt (some (.v 5,false)) .id [.v 1] 1 <|
(.lt (some (.v 5,false)) (.bin .sub) [.v 7,.c (.int .i64 1)] 1 <|
(.call (some (.v 5,false)) 9 [.v 6,.c (.int .i64 0),.v 8] 1 [] <|
(.lt (some (.v 5,false)) .not [.v 9] 1 <|
(.lt none .pick [.v 5,.c (.bool true),.v 10] 1 <|
(.ite (.v 11)
(.leaf .ret [.c (.bool false)] ())
(.lt none .len [.v 3] 1 <|
(.bind 1
(.loop [.c (.int .i64 0)]
(.lt none (.bin .lss) [.v 13,.v 12] 1 <|
(.ite (.v 14)
(.bind 0
(.lt none .inb [.v 3,.v 13] 0 <|
(.lt none (.row 16 0 [true,true,true,true,true,true,true,true,true,true,false,true,false,true,false,false]) [.v 3,.v 13] 16 <|
(.call none 25 [.v 1,.v 0,.v 15,.v 16,.v 17,.v 18,.v 19,.v 20,.v 21,.v 22,.v 23,.v 24,.v 25,.v 26,.v 27,.v 28,.v 29,.v 30] 1 [] <|
(.lt none .not [.v 31] 1 <|
(.ite (.v 32)
(.leaf .ret [.c (.bool false)] ())
(.lt none (.bin .gtr) [.v 13,.c (.int .i64 0)] 1 <|
(.ite (.v 33)
(.lt none (.bin .sub) [.v 13,.c (.int .i64 1)] 1 <|
(.lt none .inb [.v 3,.v 34] 0 <|
(.lt none (.row 16 0 [true,true,true,true,true,true,true,true,true,true,false,true,false,true,false,false]) [.v 3,.v 34] 16 <|
(.lt none (.bin .gtr) [.v 35,.v 15] 1 <|
(.lt (some (.v 51,false)) .id [.v 35] 1 <|
(.lt (some (.v 51,false)) .id [.v 15] 1 <|
(.lt (some (.v 51,false)) (.bin .eql) [.v 52,.v 53] 1 <|
(.lt (some (.v 51,false)) .id [.v 54] 1 <|
(.lt (some (.v 55,true)) .id [.v 36] 1 <|
(.lt (some (.v 55,true)) .id [.v 16] 1 <|
(.lt (some (.v 55,true)) (.bin .geq) [.v 56,.v 57] 1 <|
(.lt (some (.v 51,false)) .pick [.v 55,.v 58,.c (.bool false)] 1 <|
(.lt none .pick [.v 51,.c (.bool true),.v 59] 1 <|
(.ite (.v 60)
(.leaf .ret [.c (.bool false)] ())
(.leaf (.yield 0) [] ())))))))))))))))
(.leaf (.yield 0) [] ())))))))) <|
(.lt none (.bin .add) [.v 13,.c (.int .i64 1)] 1 <|
(.leaf .cont [.v 15] ())))
(.leaf (.yield 1) [] ())))) <|
(.leaf .ret [.c (.bool true)] ()))))))))))))
def Obe:Tm Unit :=
(.call none 8 [.v 0] 1 [] <|
(.lt none .not [.v 2] 1 <|
(.lt (some (.v 3,false)) .len [.v 1] 1 <|
(.lt (some (.v 3,false)) .id [.v 0] 1 <|
(.lt (some (.v 3,false)) (.bin .neq) [.v 4,.v 5] 1 <|
(.lt none .pick [.v 3,.c (.bool true),.v 6] 1 <|
(.ite (.v 7)
(.leaf .ret [.c (.bool false)] ())
(.lt none .len [.v 1] 1 <|
(.bind 1
(.loop [.c (.int .i64 0)]
(.lt none (.bin .lss) [.v 9,.v 8] 1 <|
(.ite (.v 10)
(.lt none .inb [.v 1,.v 9] 0 <|
(.lt none (.row 1 0 [false]) [.v 1,.v 9] 1 <|
(.lt none .len [.v 11] 1 <|
(.bind 3
(.loop [.c (.int .i64 0)]
(.lt none (.bin .lss) [.v 13,.v 12] 1 <|
(.ite (.v 14)
(.lt none .inb [.v 11,.v 13] 0 <|
(.lt none (.row 10 0 [true,true,true,true,true,true,true,true,true,false]) [.v 11,.v 13] 10 <|
(.call none 16 [.v 0,.v 15,.v 16,.v 17,.v 18,.v 19,.v 20,.v 21,.v 22,.v 23,.v 24] 1 [] <|
(.lt none .not [.v 25] 1 <|
(.ite (.v 26)
(.leaf .ret [.c (.bool false)] ())
(.lt none (.bin .add) [.v 13,.c (.int .i64 1)] 1 <|
(.leaf .cont [.v 27] ())))))))
(.leaf (.yield 3) [] ())))) <|
(.lt none .len [.v 11] 1 <|
(.lt none (.bin .gtr) [.v 13,.c (.int .i64 6)] 1 <|
(.ite (.v 14)
(.leaf .ret [.c (.bool false)] ())
(.lt none (.bin .add) [.v 9,.c (.int .i64 1)] 1 <|
(.leaf .cont [.v 15] ())))))))))
(.leaf (.yield 1) [] ())))) <|
(.leaf .ret [.c (.bool true)] ()))))))))))
def Obd:Tm Unit :=
(.call none 9 [.v 1,.c (.int .i64 0),.c (.int .i64 9999)] 1 [] <|
(.lt none .not [.v 11] 1 <|
(.lt (some (.v 12,false)) .id [.v 2] 1 <|
(.lt (some (.v 12,false)) .id [.v 1] 1 <|
(.call (some (.v 12,false)) 9 [.v 13,.c (.int .i64 0),.v 14] 1 [] <|
(.lt (some (.v 12,false)) .not [.v 15] 1 <|
(.lt none .pick [.v 12,.c (.bool true),.v 16] 1 <|
(.lt (some (.v 17,false)) .id [.v 3] 1 <|
(.call (some (.v 17,false)) 9 [.v 18,.c (.int .i64 0),.c (.int .i64 3)] 1 [] <|
(.lt (some (.v 17,false)) .not [.v 19] 1 <|
(.lt none .pick [.v 17,.c (.bool true),.v 20] 1 <|
(.ite (.v 21)
(.leaf .ret [.c (.bool false)] ())
(.lt none (.bin .eql) [.v 3,.c (.int .i64 0)] 1 <|
(.ite (.v 22)
(.lt none (.bin .eql) [.v 2,.c (.int .i64 0)] 1 <|
(.lt (some (.v 23,true)) (.eqs [0,0,0,0,0]) [.v 4,.v 5,.v 6,.v 7,.v 8,.c (.int .i64 0),.c (.int .i64 0),.c (.int .i64 0),.c (.int .i64 0),.c (.int .i64 0)] 1 <|
(.lt none .pick [.v 23,.v 24,.c (.bool false)] 1 <|
(.lt (some (.v 25,true)) .id [.v 0] 1 <|
(.call (some (.v 25,true)) 17 [.v 26] 2 [] <|
(.call (some (.v 25,true)) 18 [.v 9,.v 10,.v 27,.v 28] 1 [] <|
(.lt none .pick [.v 25,.v 29,.c (.bool false)] 1 <|
(.leaf .ret [.v 30] ()))))))))
(.call none 20 [.v 4,.v 5,.v 6,.v 7,.v 8] 1 [] <|
(.lt (some (.v 23,true)) .id [.v 0] 1 <|
(.call (some (.v 23,true)) 23 [.v 24,.v 9,.v 10] 1 [] <|
(.lt none .pick [.v 23,.v 25,.c (.bool false)] 1 <|
(.leaf .ret [.v 26] ())))))))))))))))))))
def Ibq:Tm Unit :=
(.lt none (.make 8 [(.int .i64 0)]) [.v 0] 1 <|
(.leaf .ret [.c (.int .i64 0),.v 1] ()))
def Obc:Tm Unit :=
(.lt none (.bin .eql) [.v 0,.v 2] 1 <|
(.call (some (.v 4,true)) 19 [.v 1,.v 3] 1 [] <|
(.lt none .pick [.v 4,.v 5,.c (.bool false)] 1 <|
(.leaf .ret [.v 6] ()))))
def Obb:Tm Unit :=
(.lt none .len [.v 0] 1 <|
(.lt none .len [.v 1] 1 <|
(.lt none (.bin .neq) [.v 2,.v 3] 1 <|
(.ite (.v 4)
(.leaf .ret [.c (.bool false)] ())
(.lt none .len [.v 0] 1 <|
(.bind 1
(.loop [.c (.int .i64 0)]
(.lt none (.bin .lss) [.v 6,.v 5] 1 <|
(.ite (.v 7)
(.lt none .inb [.v 0,.v 6] 0 <|
(.lt none (.row 1 0 [true]) [.v 0,.v 6] 1 <|
(.lt none .inb [.v 1,.v 6] 0 <|
(.lt none (.row 1 0 [true]) [.v 1,.v 6] 1 <|
(.lt none (.bin .neq) [.v 8,.v 9] 1 <|
(.ite (.v 10)
(.leaf .ret [.c (.bool false)] ())
(.lt none (.bin .add) [.v 6,.c (.int .i64 1)] 1 <|
(.leaf .cont [.v 11] ()))))))))
(.leaf (.yield 1) [] ())))) <|
(.leaf .ret [.c (.bool true)] ())))))))
def Oba:Tm Unit :=
(.lt none (.bin .eql) [.v 0,.c (.int .i64 0)] 1 <|
(.ite (.v 5)
(.lt none (.eqs [0,0,0,0,0]) [.v 0,.v 1,.v 2,.v 3,.v 4,.c (.int .i64 0),.c (.int .i64 0),.c (.int .i64 0),.c (.int .i64 0),.c (.int .i64 0)] 1 <|
(.leaf .ret [.v 6] ()))
(.lt none (.bin .eql) [.v 0,.c (.int .i64 1)] 1 <|
(.ite (.v 6)
(.call none 21 [.v 0,.v 1,.v 2,.v 3,.v 4] 1 [] <|
(.lt none (.bin .eql) [.v 7,.c (.int .i64 0)] 1 <|
(.leaf .ret [.v 8] ())))
(.lt none (.bin .eql) [.v 0,.c (.int .i64 2)] 1 <|
(.ite (.v 7)
(.call none 21 [.v 0,.v 1,.v 2,.v 3,.v 4] 1 [] <|
(.lt none (.bin .eql) [.v 8,.c (.int .i64 0)] 1 <|
(.lt (some (.v 9,true)) .id [.v 3] 1 <|
(.lt (some (.v 9,true)) (.bin .eql) [.v 10,.c (.int .i64 0)] 1 <|
(.lt none .pick [.v 9,.v 11,.c (.bool false)] 1 <|
(.lt (some (.v 12,true)) .id [.v 4] 1 <|
(.lt (some (.v 12,true)) (.bin .eql) [.v 13,.c (.int .i64 0)] 1 <|
(.lt none .pick [.v 12,.v 14,.c (.bool false)] 1 <|
(.leaf .ret [.v 15] ())))))))))
(.leaf .ret [.c (.bool false)] ())))))))
def Nb9:Tm Unit :=
(.lt none (.bin .eql) [.v 0,.c (.int .i64 1)] 1 <|
(.call none 22 [.v 2] 1 [] <|
(.lt none .not [.v 6] 1 <|
(.lt (some (.v 7,false)) .id [.v 5] 1 <|
(.lt (some (.v 7,false)) .id [.v 8] 1 <|
(.lt (some (.v 9,true)) .id [.v 3] 1 <|
(.call (some (.v 9,true)) 22 [.v 10] 1 [] <|
(.lt (some (.v 9,true)) .not [.v 11] 1 <|
(.lt (some (.v 7,false)) .pick [.v 9,.v 12,.c (.bool false)] 1 <|
(.lt none .pick [.v 7,.c (.bool true),.v 13] 1 <|
(.ite (.v 14)
(.leaf .ret [.c (.int .i64 4)] ())
(.lt (some (.v 5,true)) .id [.v 2] 1 <|
(.lt (some (.v 5,true)) .id [.v 3] 1 <|
(.lt (some (.v 5,true)) (.bin .eql) [.v 15,.v 16] 1 <|
(.lt none .pick [.v 5,.v 17,.c (.bool false)] 1 <|
(.ite (.v 18)
(.leaf .ret [.c (.int .i64 5)] ())
(.call none 9 [.v 1,.c (.int .i64 1),.c (.int .i64 999)] 1 [] <|
(.lt none .not [.v 19] 1 <|
(.lt (some (.v 20,false)) .id [.v 5] 1 <|
(.lt (some (.v 20,false)) .id [.v 21] 1 <|
(.lt (some (.v 22,true)) .id [.v 4] 1 <|
(.call (some (.v 22,true)) 9 [.v 23,.c (.int .i64 1),.c (.int .i64 1000)] 1 [] <|
(.lt (some (.v 22,true)) .not [.v 24] 1 <|
(.lt (some (.v 20,false)) .pick [.v 22,.v 25,.c (.bool false)] 1 <|
(.lt none .pick [.v 20,.c (.bool true),.v 26] 1 <|
(.ite (.v 27)
(.leaf .ret [.c (.int .i64 6)] ())
(.leaf .ret [.c (.int .i64 0)] ())))))))))))))))))))))))))))
def Nb8:Tm Unit :=
(.call none 9 [.v 0,.c (.int .i64 0),.c (.int .i64 3)] 1 [] <|
(.leaf .ret [.v 1] ()))
def Nb7:Tm Unit :=
(.call none 9 [.v 1,.c (.int .i64 0),.c (.int .i64 999)] 1 [] <|
(.lt (some (.v 3,true)) .len [.v 2] 1 <|
(.lt (some (.v 3,true)) .id [.v 0] 1 <|
(.lt (some (.v 3,true)) (.bin .eql) [.v 4,.v 5] 1 <|
(.lt none .pick [.v 3,.v 6,.c (.bool false)] 1 <|
(.call (some (.v 7,true)) 24 [.v 2,.c (.int .i64 0),.c (.int .i64 6)] 1 [] <|
(.lt none .pick [.v 7,.v 8,.c (.bool false)] 1 <|
(.leaf .ret [.v 9] ()))))))))
def Nb6:Tm Unit :=
(.lt none .len [.v 0] 1 <|
(.bind 1
(.loop [.c (.int .i64 0)]
(.lt none (.bin .lss) [.v 4,.v 3] 1 <|
(.ite (.v 5)
(.lt none .inb [.v 0,.v 4] 0 <|
(.lt none (.row 1 0 [true]) [.v 0,.v 4] 1 <|
(.call none 9 [.v 6,.v 1,.v 2] 1 [] <|
(.lt none .not [.v 7] 1 <|
(.ite (.v 8)
(.leaf .ret [.c (.bool false)] ())
(.lt none (.bin .add) [.v 4,.c (.int .i64 1)] 1 <|
(.leaf .cont [.v 9] ())))))))
(.leaf (.yield 1) [] ())))) <|
(.leaf .ret [.c (.bool true)] ())))
def Nb5:Tm Unit :=
(.call none 26 [.v 0,.v 2,.v 3] 1 [] <|
(.lt none .not [.v 18] 1 <|
(.lt (some (.v 19,false)) .id [.v 4] 1 <|
(.call (some (.v 19,false)) 9 [.v 20,.c (.int .i64 0),.c (.int .i64 9999)] 1 [] <|
(.lt (some (.v 19,false)) .not [.v 21] 1 <|
(.lt none .pick [.v 19,.c (.bool true),.v 22] 1 <|
(.lt (some (.v 23,false)) .id [.v 0] 1 <|
(.lt (some (.v 23,false)) (.bin .sub) [.v 24,.c (.int .i64 1)] 1 <|
(.call (some (.v 23,false)) 27 [.v 16,.c (.int .i64 0),.v 25] 1 [] <|
(.lt (some (.v 23,false)) .not [.v 26] 1 <|
(.lt none .pick [.v 23,.c (.bool true),.v 27] 1 <|
(.lt (some (.v 28,false)) .id [.v 1] 1 <|
(.call (some (.v 28,false)) 28 [.v 16,.v 29] 1 [] <|
(.lt (some (.v 28,false)) .not [.v 30] 1 <|
(.lt none .pick [.v 28,.c (.bool true),.v 31] 1 <|
(.lt (some (.v 32,false)) .id [.v 0] 1 <|
(.call (some (.v 32,false)) 23 [.v 33,.v 11,.v 12] 1 [] <|
(.lt (some (.v 32,false)) .not [.v 34] 1 <|
(.lt none .pick [.v 32,.c (.bool true),.v 35] 1 <|
(.lt (some (.v 36,false)) .id [.v 0] 1 <|
(.call (some (.v 36,false)) 23 [.v 37,.v 13,.v 14] 1 [] <|
(.lt (some (.v 36,false)) .not [.v 38] 1 <|
(.lt none .pick [.v 36,.c (.bool true),.v 39] 1 <|
(.ite (.v 40)
(.leaf .ret [.c (.bool false)] ())
(.lt none .len [.v 17] 1 <|
(.bind 1
(.loop [.c (.int .i64 0)]
(.lt none (.bin .lss) [.v 42,.v 41] 1 <|
(.ite (.v 43)
(.lt none .inb [.v 17,.v 42] 0 <|
(.lt none (.row 10 0 [true,true,true,true,true,true,true,true,true,false]) [.v 17,.v 42] 10 <|
(.call none 16 [.v 0,.v 44,.v 45,.v 46,.v 47,.v 48,.v 49,.v 50,.v 51,.v 52,.v 53] 1 [] <|
(.lt none .not [.v 54] 1 <|
(.lt (some (.v 55,false)) .id [.v 46] 1 <|
(.lt (some (.v 55,false)) (.bin .eql) [.v 56,.c (.int .i64 3)] 1 <|
(.lt none .pick [.v 55,.c (.bool true),.v 57] 1 <|
(.ite (.v 58)
(.leaf .ret [.c (.bool false)] ())
(.lt none (.bin .add) [.v 42,.c (.int .i64 1)] 1 <|
(.leaf .cont [.v 59] ()))))))))))
(.leaf (.yield 1) [] ())))) <|
(.lt none (.bin .eql) [.v 5,.c (.int .i64 1)] 1 <|
(.ite (.v 42)
(.call none 20 [.v 6,.v 7,.v 8,.v 9,.v 10] 1 [] <|
(.lt (some (.v 43,true)) .len [.v 17] 1 <|
(.lt (some (.v 43,true)) (.bin .eql) [.v 44,.c (.int .i64 0)] 1 <|
(.lt none .pick [.v 43,.v 45,.c (.bool false)] 1 <|
(.leaf .ret [.v 46] ())))))
(.lt none (.bin .eql) [.v 5,.c (.int .i64 2)] 1 <|
(.ite (.v 43)
(.call none 20 [.v 6,.v 7,.v 8,.v 9,.v 10] 1 [] <|
(.lt (some (.v 44,true)) .len [.v 17] 1 <|
(.lt (some (.v 44,true)) (.bin .eql) [.v 45,.c (.int .i64 0)] 1 <|
(.lt none .pick [.v 44,.v 46,.c (.bool false)] 1 <|
(.lt (some (.v 47,true)) .id [.v 15] 1 <|
(.lt (some (.v 47,true)) .not [.v 48] 1 <|
(.lt none .pick [.v 47,.v 49,.c (.bool false)] 1 <|
(.call (some (.v 50,true)) 18 [.v 11,.v 12,.v 13,.v 14] 1 [] <|
(.lt none .pick [.v 50,.v 51,.c (.bool false)] 1 <|
(.leaf .ret [.v 52] ()))))))))))
(.lt none (.bin .eql) [.v 5,.c (.int .i64 3)] 1 <|
(.ite (.v 44)
(.call none 17 [.v 0] 2 [] <|
(.lt none (.eqs [0,0,0,0,0]) [.v 6,.v 7,.v 8,.v 9,.v 10,.c (.int .i64 0),.c (.int .i64 0),.c (.int .i64 0),.c (.int .i64 0),.c (.int .i64 0)] 1 <|
(.call (some (.v 47,true)) 18 [.v 11,.v 12,.v 45,.v 46] 1 [] <|
(.lt none .pick [.v 47,.v 48,.c (.bool false)] 1 <|
(.call (some (.v 49,true)) 18 [.v 13,.v 14,.v 45,.v 46] 1 [] <|
(.lt none .pick [.v 49,.v 50,.c (.bool false)] 1 <|
(.lt (some (.v 51,true)) .id [.v 15] 1 <|
(.lt (some (.v 51,true)) .not [.v 52] 1 <|
(.lt none .pick [.v 51,.v 53,.c (.bool false)] 1 <|
(.lt (some (.v 54,true)) .len [.v 17] 1 <|
(.lt (some (.v 54,true)) .len [.v 16] 1 <|
(.lt (some (.v 54,true)) (.bin .eql) [.v 55,.v 56] 1 <|
(.lt none .pick [.v 54,.v 57,.c (.bool false)] 1 <|
(.leaf .ret [.v 58] ()))))))))))))))
(.leaf .ret [.c (.bool false)] ())))))))))))))))))))))))))))))))))
def Nb4:Tm Unit :=
(.lt none (.bin .sub) [.v 0,.c (.int .i64 1)] 1 <|
(.call none 9 [.v 1,.c (.int .i64 0),.v 3] 1 [] <|
(.lt (some (.v 4,true)) .id [.v 2] 1 <|
(.call (some (.v 4,true)) 9 [.v 5,.c (.int .i64 1),.c (.int .i64 6)] 1 [] <|
(.lt none .pick [.v 4,.v 6,.c (.bool false)] 1 <|
(.leaf .ret [.v 7] ()))))))
def Nb3:Tm Unit :=
(.lt none .len [.v 0] 1 <|
(.bind 1
(.loop [.c (.int .i64 0)]
(.lt none (.bin .lss) [.v 4,.v 3] 1 <|
(.ite (.v 5)
(.lt none .inb [.v 0,.v 4] 0 <|
(.lt none (.row 1 0 [true]) [.v 0,.v 4] 1 <|
(.call none 9 [.v 6,.v 1,.v 2] 1 [] <|
(.lt none .not [.v 7] 1 <|
(.lt (some (.v 8,false)) .id [.v 4] 1 <|
(.lt (some (.v 8,false)) (.bin .gtr) [.v 9,.c (.int .i64 0)] 1 <|
(.lt (some (.v 8,false)) .id [.v 10] 1 <|
(.lt (some (.v 11,true)) .id [.v 4] 1 <|
(.lt (some (.v 11,true)) (.bin .sub) [.v 12,.c (.int .i64 1)] 1 <|
(.lt (some (.v 11,true)) .inb [.v 0,.v 13] 0 <|
(.lt (some (.v 11,true)) (.row 1 0 [true]) [.v 0,.v 13] 1 <|
(.lt (some (.v 11,true)) .id [.v 6] 1 <|
(.lt (some (.v 11,true)) (.bin .geq) [.v 14,.v 15] 1 <|
(.lt (some (.v 8,false)) .pick [.v 11,.v 16,.c (.bool false)] 1 <|
(.lt none .pick [.v 8,.c (.bool true),.v 17] 1 <|
(.ite (.v 18)
(.leaf .ret [.c (.bool false)] ())
(.lt none (.bin .add) [.v 4,.c (.int .i64 1)] 1 <|
(.leaf .cont [.v 19] ()))))))))))))))))))
(.leaf (.yield 1) [] ())))) <|
(.leaf .ret [.c (.bool true)] ())))
def Nb2:Tm Unit :=
(.lt none .len [.v 0] 1 <|
(.bind 1
(.loop [.c (.int .i64 0)]
(.lt none (.bin .lss) [.v 3,.v 2] 1 <|
(.ite (.v 4)
(.lt none .inb [.v 0,.v 3] 0 <|
(.lt none (.row 1 0 [true]) [.v 0,.v 3] 1 <|
(.lt none (.bin .eql) [.v 5,.v 1] 1 <|
(.ite (.v 6)
(.leaf .ret [.c (.bool true)] ())
(.lt none (.bin .add) [.v 3,.c (.int .i64 1)] 1 <|
(.leaf .cont [.v 7] ()))))))
(.leaf (.yield 1) [] ())))) <|
(.leaf .ret [.c (.bool false)] ())))
def Nb1:Tm Unit :=
(.call none 30 [.v 1,.v 2] 2 [] <|
(.lt none .len [.v 3] 1 <|
(.bind 1
(.loop [.c (.int .i64 0),.c (.rows 16 [])]
(.lt none (.bin .lss) [.v 7,.v 6] 1 <|
(.ite (.v 9)
(.lt none .inb [.v 3,.v 7] 0 <|
(.lt none (.row 16 0 [true,true,true,true,true,true,true,true,true,true,false,true,false,true,false,false]) [.v 3,.v 7] 16 <|
(.call none 34 [.v 10,.v 11,.v 12,.v 13,.v 14,.v 15,.v 16,.v 17,.v 18,.v 19,.v 20,.v 21,.v 22,.v 23,.v 24,.v 25] 16 [] <|
(.lt none (.mk 16 1) [.v 26,.v 27,.v 28,.v 29,.v 30,.v 31,.v 32,.v 33,.v 34,.v 35,.v 36,.v 37,.v 38,.v 39,.v 40,.v 41] 1 <|
(.lt none (.app 16 192 false) [.v 8,.v 42] 1 <|
(.lt none (.bin .add) [.v 7,.c (.int .i64 1)] 1 <|
(.leaf .cont [.v 44,.v 43] ())))))))
(.leaf (.yield 1) [.v 8] ())))) <|
(.leaf .ret [.v 0,.v 4,.v 5,.v 7,.v 3] ()))))
def Nb0:Tm Unit :=
(.call none 10 [.v 0] 2 [] <|
(.lt none .len [.v 1] 1 <|
(.bind 1
(.loop [.c (.int .i64 0),.v 3]
(.lt none (.bin .lss) [.v 5,.v 4] 1 <|
(.ite (.v 7)
(.lt none .inb [.v 1,.v 5] 0 <|
(.lt none (.row 1 0 [false]) [.v 1,.v 5] 1 <|
(.lt none .len [.v 8] 1 <|
(.bind 3
(.loop [.c (.int .i64 0),.v 6]
(.lt none (.bin .lss) [.v 10,.v 9] 1 <|
(.ite (.v 12)
(.lt none .inb [.v 8,.v 10] 0 <|
(.lt none (.row 10 0 [true,true,true,true,true,true,true,true,true,false]) [.v 8,.v 10] 10 <|
(.lt none .inb [.v 11,.v 5] 0 <|
(.lt none (.row 1 0 [false]) [.v 11,.v 5] 1 <|
(.call none 31 [.v 13,.v 14,.v 15,.v 16,.v 17,.v 18,.v 19,.v 20,.v 21,.v 22] 10 [] <|
(.lt none (.mk 10 1) [.v 24,.v 25,.v 26,.v 27,.v 28,.v 29,.v 30,.v 31,.v 32,.v 33] 1 <|
(.lt none (.set 1 0 1) [.v 11,.v 5,.c .hole] 1 <|
(.lt none (.app 10 96 false) [.v 23,.v 34] 1 <|
(.lt none .inb [.v 35,.v 5] 0 <|
(.lt none (.set 1 0 1) [.v 35,.v 5,.v 36] 1 <|
(.lt none (.bin .add) [.v 10,.c (.int .i64 1)] 1 <|
(.leaf .cont [.v 38,.v 37] ()))))))))))))
(.leaf (.yield 3) [.v 11] ())))) <|
(.lt none (.bin .add) [.v 5,.c (.int .i64 1)] 1 <|
(.leaf .cont [.v 11,.v 10] ()))))))
(.leaf (.yield 1) [.v 6] ())))) <|
(.leaf .ret [.v 2,.v 5] ()))))
def Nbz:Tm Unit :=
(.call none 32 [.v 8,.v 9] 2 [] <|
(.leaf .ret [.v 0,.v 1,.v 2,.v 3,.v 4,.v 5,.v 6,.v 7,.v 10,.v 11] ()))
def Nby:Tm Unit :=
(.call none 33 [.v 1] 1 [] <|
(.leaf .ret [.v 0,.v 2] ()))
def Nbx:Tm Unit :=
(.lt none (.mk 1 0) [] 1 <|
(.lt none (.app 1 8 true) [.v 1,.v 0] 1 <|
(.leaf .ret [.v 2] ())))
def Nbw:Tm Unit :=
(.call none 32 [.v 9,.v 10] 2 [] <|
(.call none 32 [.v 11,.v 12] 2 [] <|
(.call none 33 [.v 14] 1 [] <|
(.lt none .len [.v 15] 1 <|
(.bind 1
(.loop [.c (.rows 10 []),.c (.int .i64 0)]
(.lt none (.bin .lss) [.v 23,.v 21] 1 <|
(.ite (.v 24)
(.lt none .inb [.v 15,.v 23] 0 <|
(.lt none (.row 10 0 [true,true,true,true,true,true,true,true,true,false]) [.v 15,.v 23] 10 <|
(.call none 31 [.v 25,.v 26,.v 27,.v 28,.v 29,.v 30,.v 31,.v 32,.v 33,.v 34] 10 [] <|
(.lt none (.mk 10 1) [.v 35,.v 36,.v 37,.v 38,.v 39,.v 40,.v 41,.v 42,.v 43,.v 44] 1 <|
(.lt none (.app 10 96 false) [.v 22,.v 45] 1 <|
(.lt none (.bin .add) [.v 23,.c (.int .i64 1)] 1 <|
(.leaf .cont [.v 46,.v 47] ())))))))
(.leaf (.yield 1) [.v 22] ())))) <|
(.leaf .ret [.v 0,.v 1,.v 2,.v 3,.v 4,.v 5,.v 6,.v 7,.v 8,.v 16,.v 17,.v 18,.v 19,.v 13,.v 20,.v 22] ()))))))
def Nbv:Tm Unit :=
(.call none 17 [.v 0] 2 [] <|
(.lt none .len [.v 1] 1 <|
(.bind 1
(.loop [.c (.int .i64 0),.v 9,.v 10]
(.lt none (.bin .lss) [.v 12,.v 11] 1 <|
(.ite (.v 15)
(.lt none .inb [.v 1,.v 12] 0 <|
(.lt none (.row 1 0 [false]) [.v 1,.v 12] 1 <|
(.lt none .len [.v 16] 1 <|
(.bind 3
(.loop [.c (.int .i64 0),.v 13,.v 14]
(.lt none (.bin .lss) [.v 18,.v 17] 1 <|
(.ite (.v 21)
(.bind 4
(.lt none .inb [.v 16,.v 18] 0 <|
(.lt none (.row 10 0 [true,true,true,true,true,true,true,true,true,false]) [.v 16,.v 18] 10 <|
(.lt none (.bin .eql) [.v 24,.c (.int .i64 0)] 1 <|
(.call (some (.v 32,false)) 36 [.v 2,.v 3,.v 4,.v 5,.v 6,.v 25,.v 26,.v 27,.v 28,.v 29] 1 [] <|
(.lt (some (.v 32,false)) .not [.v 33] 1 <|
(.lt none .pick [.v 32,.c (.bool true),.v 34] 1 <|
(.lt (some (.v 35,false)) .id [.v 12] 1 <|
(.lt (some (.v 35,false)) .id [.v 7] 1 <|
(.lt (some (.v 35,false)) (.bin .eql) [.v 36,.v 37] 1 <|
(.lt (some (.v 35,false)) .id [.v 38] 1 <|
(.lt (some (.v 39,true)) .id [.v 18] 1 <|
(.lt (some (.v 39,true)) (.bin .add) [.v 40,.c (.int .i64 1)] 1 <|
(.lt (some (.v 39,true)) .id [.v 8] 1 <|
(.lt (some (.v 39,true)) (.bin .eql) [.v 41,.v 42] 1 <|
(.lt (some (.v 35,false)) .pick [.v 39,.v 43,.c (.bool false)] 1 <|
(.lt none .pick [.v 35,.c (.bool true),.v 44] 1 <|
(.ite (.v 45)
(.leaf (.yield 4) [.c .undef,.c .undef,.c .undef,.c .undef,.c .undef,.c .undef,.c .undef,.c .undef,.c .undef,.c .undef,.c .undef,.v 19,.v 20] ())
(.lt none (.bin .add) [.v 18,.c (.int .i64 1)] 1 <|
(.lt none .inb [.v 20,.v 12] 0 <|
(.lt none (.set 1 0 1) [.v 20,.v 12,.v 46] 1 <|
(.call none 39 [.v 19,.v 30] 1 [] <|
(.leaf (.yield 4) [.c .undef,.c .undef,.c .undef,.c .undef,.c .undef,.c .undef,.c .undef,.c .undef,.c .undef,.c .undef,.c .undef,.v 48,.v 47] ())))))))))))))))))))))) <|
(.lt none (.bin .add) [.v 18,.c (.int .i64 1)] 1 <|
(.leaf .cont [.v 35,.v 33,.v 34] ())))
(.leaf (.yield 3) [.v 19,.v 20] ())))) <|
(.lt none (.bin .add) [.v 12,.c (.int .i64 1)] 1 <|
(.leaf .cont [.v 20,.v 18,.v 19] ()))))))
(.leaf (.yield 1) [.v 13,.v 14] ())))) <|
(.lt none (.bin .add) [.v 12,.c (.int .i64 1)] 1 <|
(.leaf .ret [.v 14,.v 13] ())))))
def Nbu:Tm Unit :=
(.call none 37 [.v 0,.v 1,.v 2,.v 3,.v 4] 1 [] <|
(.lt none .len [.v 10] 1 <|
(.bind 1
(.loop [.c (.int .i64 0)]
(.lt none (.bin .lss) [.v 12,.v 11] 1 <|
(.ite (.v 13)
(.lt none .inb [.v 10,.v 12] 0 <|
(.lt none (.row 1 0 [true]) [.v 10,.v 12] 1 <|
(.call none 37 [.v 5,.v 6,.v 7,.v 8,.v 9] 1 [] <|
(.call none 28 [.v 15,.v 14] 1 [] <|
(.ite (.v 16)
(.leaf .ret [.c (.bool true)] ())
(.lt none (.bin .add) [.v 12,.c (.int .i64 1)] 1 <|
(.leaf .cont [.v 17] ())))))))
(.leaf (.yield 1) [] ())))) <|
(.leaf .ret [.c (.bool false)] ()))))
def Nbt:Tm Unit :=
(.lt none (.bin .eql) [.v 0,.c (.int .i64 1)] 1 <|
(.ite (.v 5)
(.lt none (.mk 1 1) [.v 2] 1 <|
(.call none 38 [.v 6,.v 3] 1 [] <|
(.leaf .ret [.v 7] ())))
(.lt none (.bin .eql) [.v 0,.c (.int .i64 2)] 1 <|
(.ite (.v 6)
(.lt none (.mk 1 1) [.v 2] 1 <|
(.leaf .ret [.v 7] ()))
(.leaf .ret [.c (.rows 1 [])] ())))))
def Nbs:Tm Unit :=
(.bind 1
(.loop [.c (.int .i64 0)]
(.lt none .len [.v 0] 1 <|
(.lt none (.bin .lss) [.v 2,.v 3] 1 <|
(.lt (some (.v 4,true)) .id [.v 2] 1 <|
(.lt (some (.v 4,true)) .inb [.v 0,.v 5] 0 <|
(.lt (some (.v 4,true)) (.row 1 0 [true]) [.v 0,.v 5] 1 <|
(.lt (some (.v 4,true)) .id [.v 1] 1 <|
(.lt (some (.v 4,true)) (.bin .lss) [.v 6,.v 7] 1 <|
(.lt none .pick [.v 4,.v 8,.c (.bool false)] 1 <|
(.ite (.v 9)
(.lt none (.bin .add) [.v 2,.c (.int .i64 1)] 1 <|
(.leaf .cont [.v 10] ()))
(.leaf (.yield 1) [.v 2] ()))))))))))) <|
(.lt none .len [.v 0] 1 <|
(.lt none (.bin .lss) [.v 2,.v 3] 1 <|
(.lt (some (.v 4,true)) .id [.v 2] 1 <|
(.lt (some (.v 4,true)) .inb [.v 0,.v 5] 0 <|
(.lt (some (.v 4,true)) (.row 1 0 [true]) [.v 0,.v 5] 1 <|
(.lt (some (.v 4,true)) .id [.v 1] 1 <|
(.lt (some (.v 4,true)) (.bin .eql) [.v 6,.v 7] 1 <|
(.lt none .pick [.v 4,.v 8,.c (.bool false)] 1 <|
(.ite (.v 9)
(.leaf .ret [.v 0] ())
(.lt none (.mk 1 0) [] 1 <|
(.lt none (.sub 1 false) [.v 0,.c (.int .i64 0),.v 2] 1 <|
(.lt none (.app 1 8 true) [.v 10,.v 11] 1 <|
(.lt none (.mk 1 1) [.v 1] 1 <|
(.lt none (.app 1 8 true) [.v 12,.v 13] 1 <|
(.lt none .len [.v 0] 1 <|
(.lt none (.sub 1 true) [.v 0,.v 2,.v 15] 1 <|
(.lt none (.app 1 8 true) [.v 14,.v 16] 1 <|
(.leaf .ret [.v 17] ())))))))))))))))))))
def Nbr:Tm Unit :=
(.lt none (.bin .gtr) [.v 0,.v 1] 1 <|
(.ite (.v 2)
(.leaf .ret [.v 0] ())
(.leaf .ret [.v 1] ())))
def Nbq:Tm Unit :=
(.call none 41 [.v 0,.v 1,.v 2,.v 2,.c (.int .i64 1),.v 3,.v 4,.v 5,.v 6,.v 7,.v 8,.v 9,.v 10,.v 11,.v 12,.v 13,.v 14,.v 15] 6 [] <|
(.lt none (.mk 1 1) [.v 16] 1 <|
(.call none 43 [.v 0,.v 1,.v 2,.c (.int .i64 1),.v 3,.v 4,.v 5,.v 6,.v 7,.v 8,.v 9,.v 8,.v 9,.c (.bool true),.v 22,.c (.rows 10 []),.v 16,.v 17,.v 18,.v 19,.v 20,.v 21] 6 [] <|
(.call none 45 [.c (.int .i64 1),.c (.int .i64 0),.c (.int .i64 0),.v 0,.v 1,.v 2,.c (.int .i64 0),.c (.int .i64 0),.v 3,.v 4,.v 5,.v 6,.v 7,.v 8,.v 9,.v 23,.v 24,.v 25,.v 26,.v 27,.v 28] 6 [] <|
(.leaf .ret [.v 29,.v 30,.v 31,.v 32,.v 33,.v 34] ())))))
def Nbp:Tm Unit :=
(.lt (some (.v 17,true)) .id [.v 13] 1 <|
(.call (some (.v 17,true)) 16 [.v 18,.v 2,.v 3,.v 4,.v 5,.v 6,.v 7,.v 8,.v 9,.v 10,.v 11] 1 [] <|
(.lt none .pick [.v 17,.v 19,.c (.bool false)] 1 <|
(.call none 42 [.v 13,.v 14,.v 0,.v 1,.v 2,.v 3,.v 4,.v 5,.v 6,.v 7,.v 8,.v 9,.v 10,.v 11] 2 [] <|
(.leaf .ret [.v 12,.v 21,.v 22,.v 15,.v 16,.v 20] ())))))
def Nbo:Tm Unit :=
(.call none 30 [.v 0,.v 1] 2 [] <|
(.bind 1
(.loop [.v 15]
(.lt none .inb [.v 16,.v 2] 0 <|
(.lt none (.row 1 0 [false]) [.v 16,.v 2] 1 <|
(.lt none .len [.v 17] 1 <|
(.lt none (.bin .lss) [.v 18,.v 3] 1 <|
(.ite (.v 19)
(.lt none .inb [.v 16,.v 2] 0 <|
(.lt none (.row 1 0 [false]) [.v 16,.v 2] 1 <|
(.call none 17 [.v 0] 2 [] <|
(.lt none (.mk 10 1) [.c (.int .i64 0),.c (.int .i64 0),.c (.int .i64 0),.c (.int .i64 0),.c (.int .i64 0),.c (.int .i64 0),.c (.int .i64 0),.c (.int .i64 0),.v 21,.v 22] 1 <|
(.lt none (.set 1 0 1) [.v 16,.v 2,.c .hole] 1 <|
(.lt none (.app 10 96 false) [.v 20,.v 23] 1 <|
(.lt none .inb [.v 24,.v 2] 0 <|
(.lt none (.set 1 0 1) [.v 24,.v 2,.v 25] 1 <|
(.leaf .cont [.v 26] ())))))))))
(.leaf (.yield 1) [.v 16] ()))))))) <|
(.lt none .inb [.v 16,.v 2] 0 <|
(.lt none (.row 1 0 [false]) [.v 16,.v 2] 1 <|
(.lt none (.bin .sub) [.v 3,.c (.int .i64 1)] 1 <|
(.call none 31 [.v 4,.v 5,.v 6,.v 7,.v 8,.v 9,.v 10,.v 11,.v 12,.v 13] 10 [] <|
(.lt none .inb [.v 17,.v 18] 0 <|
(.lt none (.set 10 0 10) [.v 17,.v 18,.v 19,.v 20,.v 21,.v 22,.v 23,.v 24,.v 25,.v 26,.v 27,.v 28] 1 <|
(.lt none (.set 1 0 1) [.v 16,.v 2,.v 29] 1 <|
(.leaf .ret [.v 14,.v 30] ()))))))))))
def Nbn:Tm Unit :=
(.call none 44 [.v 0,.v 1,.v 16,.v 17,.v 18,.v 19,.v 20,.v 21] 6 [] <|
(.bind 1
(.loop [.c (.int .i64 0)]
(.lt none .len [.v 25] 1 <|
(.lt none (.bin .lss) [.v 28,.v 29] 1 <|
(.lt (some (.v 30,true)) .id [.v 28] 1 <|
(.lt (some (.v 30,true)) .inb [.v 25,.v 31] 0 <|
(.lt (some (.v 30,true)) (.row 16 0 [true]) [.v 25,.v 31] 1 <|
(.lt (some (.v 30,true)) .id [.v 0] 1 <|
(.lt (some (.v 30,true)) (.bin .lss) [.v 32,.v 33] 1 <|
(.lt (some (.v 30,true)) .id [.v 34] 1 <|
(.lt (some (.v 35,false)) .id [.v 28] 1 <|
(.lt (some (.v 35,false)) .inb [.v 25,.v 36] 0 <|
(.lt (some (.v 35,false)) (.row 16 0 [true]) [.v 25,.v 36] 1 <|
(.lt (some (.v 35,false)) .id [.v 0] 1 <|
(.lt (some (.v 35,false)) (.bin .eql) [.v 37,.v 38] 1 <|
(.lt (some (.v 35,false)) .id [.v 39] 1 <|
(.lt (some (.v 40,true)) .id [.v 28] 1 <|
(.lt (some (.v 40,true)) .inb [.v 25,.v 41] 0 <|
(.lt (some (.v 40,true)) (.row 16 1 [true]) [.v 25,.v 41] 1 <|
(.lt (some (.v 40,true)) .id [.v 1] 1 <|
(.lt (some (.v 40,true)) (.bin .lss) [.v 42,.v 43] 1 <|
(.lt (some (.v 35,false)) .pick [.v 40,.v 44,.c (.bool false)] 1 <|
(.lt (some (.v 30,true)) .pick [.v 35,.c (.bool true),.v 45] 1 <|
(.lt none .pick [.v 30,.v 46,.c (.bool false)] 1 <|
(.ite (.v 47)
(.lt none (.bin .add) [.v 28,.c (.int .i64 1)] 1 <|
(.leaf .cont [.v 48] ()))
(.leaf (.yield 1) [.v 28] ()))))))))))))))))))))))))) <|
(.lt none (.mk 16 0) [] 1 <|
(.lt none .len [.v 25] 1 <|
(.lt none (.sub 16 false) [.v 25,.v 28,.v 30] 1 <|
(.lt none (.app 16 192 false) [.v 29,.v 31] 1 <|
(.lt none (.mk 16 0) [] 1 <|
(.lt none (.sub 16 false) [.v 25,.c (.int .i64 0),.v 28] 1 <|
(.lt none (.app 16 192 false) [.v 33,.v 34] 1 <|
(.call none 34 [.v 0,.v 1,.v 2,.v 3,.v 4,.v 5,.v 6,.v 7,.v 8,.v 9,.v 10,.v 11,.v 12,.v 13,.v 14,.v 15] 16 [] <|
(.lt none (.mk 16 1) [.v 36,.v 37,.v 38,.v 39,.v 40,.v 41,.v 42,.v 43,.v 44,.v 45,.v 46,.v 47,.v 48,.v 49,.v 50,.v 51] 1 <|
(.lt none (.app 16 192 false) [.v 35,.v 52] 1 <|
(.lt none (.app 16 192 false) [.v 53,.v 32] 1 <|
(.leaf .ret [.v 22,.v 23,.v 24,.v 54,.v 26,.v 27] ()))))))))))))))
def Nbm:Tm Unit :=
(.lt none .len [.v 5] 1 <|
(.bind 1
(.loop [.c (.rows 16 []),.c (.int .i64 0)]
(.lt none (.bin .lss) [.v 10,.v 8] 1 <|
(.ite (.v 11)
(.bind 0
(.lt none .inb [.v 5,.v 10] 0 <|
(.lt none (.row 16 0 [true,true,true,true,true,true,true,true,true,true,false,true,false,true,false,false]) [.v 5,.v 10] 16 <|
(.lt none (.bin .neq) [.v 12,.v 0] 1 <|
(.lt (some (.v 28,false)) .id [.v 13] 1 <|
(.lt (some (.v 28,false)) .id [.v 1] 1 <|
(.lt (some (.v 28,false)) (.bin .neq) [.v 29,.v 30] 1 <|
(.lt none .pick [.v 28,.c (.bool true),.v 31] 1 <|
(.ite (.v 32)
(.lt none (.mk 16 1) [.v 12,.v 13,.v 14,.v 15,.v 16,.v 17,.v 18,.v 19,.v 20,.v 21,.v 22,.v 23,.v 24,.v 25,.v 26,.v 27] 1 <|
(.lt none (.app 16 192 false) [.v 9,.v 33] 1 <|
(.leaf (.yield 0) [.v 34,.c .undef,.c .undef,.c .undef] ())))
(.leaf (.yield 0) [.v 9,.c .undef,.c .undef,.c .undef] ()))))))))) <|
(.lt none (.bin .add) [.v 10,.c (.int .i64 1)] 1 <|
(.leaf .cont [.v 12,.v 16] ())))
(.leaf (.yield 1) [.v 9] ())))) <|
(.leaf .ret [.v 2,.v 3,.v 4,.v 9,.v 6,.v 7] ())))
def Nbl:Tm Unit :=
(.bind 1
(.loop [.c (.int .i64 0),.v 15,.v 16,.v 17,.v 18,.v 19,.v 20]
(.lt none (.bin .lss) [.v 21,.v 23] 1 <|
(.ite (.v 28)
(.bind 0
(.lt none (.bin .neq) [.v 21,.v 22] 1 <|
(.ite (.v 29)
(.call none 46 [.v 21,.v 0,.v 1,.v 2,.v 3,.v 4,.v 5,.v 6,.v 7,.v 8,.v 9,.v 10,.v 11,.v 12,.v 13,.v 14,.v 22,.v 23,.v 24,.v 25,.v 26,.v 27] 6 [] <|
(.leaf (.yield 0) [.v 30,.v 31,.v 32,.v 33,.v 34,.v 35] ()))
(.leaf (.yield 0) [.v 22,.v 23,.v 24,.v 25,.v 26,.v 27] ()))) <|
(.lt none (.bin .add) [.v 21,.c (.int .i64 1)] 1 <|
(.leaf .cont [.v 35,.v 29,.v 30,.v 31,.v 32,.v 33,.v 34] ())))
(.leaf (.yield 1) [.v 22,.v 23,.v 24,.v 25,.v 26,.v 27] ())))) <|
(.leaf .ret [.v 21,.v 22,.v 23,.v 24,.v 25,.v 26] ()))
def Nbk:Tm Unit :=
(.bind 0
(.lt none .len [.v 15] 1 <|
(.lt none (.bin .eql) [.v 22,.c (.int .i64 0)] 1 <|
(.ite (.v 23)
(.call none 17 [.v 17] 2 [] <|
(.leaf (.yield 0) [.v 24,.v 25] ()))
(.leaf (.yield 0) [.v 14,.v 15] ())))) <|
(.call none 32 [.v 22,.v 23] 2 [] <|
(.lt none (.mk 15 1) [.v 1,.v 16,.v 0,.v 4,.v 5,.v 6,.v 7,.v 8,.v 9,.v 10,.v 11,.v 12,.v 13,.v 24,.v 25] 1 <|
(.lt none (.app 15 136 false) [.v 20,.v 26] 1 <|
(.leaf .ret [.v 16,.v 17,.v 18,.v 19,.v 27,.v 21] ())))))
def Ibp:Tm Unit :=
(.lt none .not [.v 5] 1 <|
(.call (some (.v 6,false)) 14 [.v 0,.v 1,.v 2,.v 3] 1 [] <|
(.lt (some (.v 6,false)) .not [.v 7] 1 <|
(.lt none .pick [.v 6,.c (.bool true),.v 8] 1 <|
(.ite (.v 9)
(.leaf .ret [.c (.int .i64 0),.c (.int .i64 0),.c (.rows 1 []),.c (.rows 16 []),.c (.rows 15 []),.c (.bool false),.v 0,.v 1,.v 2,.c .hole,.c .hole,.v 5] ())
(.leaf .ret [.v 0,.v 1,.v 2,.v 3,.v 4,.c (.bool true),.v 0,.v 1,.v 2,.c .hole,.c .hole,.v 5] ()))))))
def Nbj:Tm Unit :=
(.call none 5 [.c (.int .i64 4),.v 0,.v 1,.v 2] 4 [] <|
(.call none 5 [.c (.int .i64 12),.v 4,.v 5,.v 6] 4 [] <|
(.lt none (.bin .quo) [.v 7,.c (.int .i64 11)] 1 <|
(.lt none (.bin .sub) [.v 3,.v 11] 1 <|
(.lt none (.mk 1 9) [.c (.int .i64 1),.c (.int .i64 1),.c (.int .i64 2),.c (.int .i64 2),.c (.int .i64 3),.c (.int .i64 4),.c (.int .i64 6),.c (.int .i64 7),.c (.int .i64 0)] 1 <|
(.call none 4 [.v 13,.v 8,.v 9,.v 10] 4 [] <|
(.leaf .ret [.v 12,.v 14,.v 15,.v 16,.v 17] ())))))))
def Nbi:Tm Unit :=
(.call none 14 [.v 0,.v 1,.v 2,.v 3] 1 [] <|
(.lt none .not [.v 6] 1 <|
(.lt (some (.v 7,false)) .id [.v 1] 1 <|
(.lt (some (.v 7,false)) .id [.v 4] 1 <|
(.lt (some (.v 7,false)) .id [.v 5] 1 <|
(.call (some (.v 7,false)) 26 [.v 8,.v 9,.v 10] 1 [] <|
(.lt (some (.v 7,false)) .not [.v 11] 1 <|
(.lt none .pick [.v 7,.c (.bool true),.v 12] 1 <|
(.ite (.v 13)
(.leaf .ret [.c (.int .i64 0),.c (.int .i64 0),.c (.rows 1 []),.c (.rows 16 []),.c (.rows 15 []),.c (.bool false),.v 3] ())
(.call none 50 [.v 1,.v 2,.v 4,.v 5] 10 [] <|
(.call none 51 [.v 1,.v 2,.v 4,.v 5,.v 0] 2 [] <|
(.lt none (.bin .eql) [.v 16,.c (.int .i64 3)] 1 <|
(.lt (some (.v 26,false)) .id [.v 25] 1 <|
(.lt (some (.v 26,false)) .not [.v 27] 1 <|
(.lt none .pick [.v 26,.c (.bool true),.v 28] 1 <|
(.ite (.v 29)
(.leaf .ret [.c (.int .i64 0),.c (.int .i64 0),.c (.rows 1 []),.c (.rows 16 []),.c (.rows 15 []),.c (.bool false),.v 3] ())
(.call none 29 [.v 0,.v 1,.v 2,.v 3] 5 [] <|
(.call none 17 [.v 1] 2 [] <|
(.lt none (.mk 1 1) [.v 0] 1 <|
(.lt none (.mk 10 1) [.v 14,.v 15,.v 16,.v 17,.v 18,.v 19,.v 20,.v 21,.v 22,.v 23] 1 <|
(.call none 43 [.v 4,.v 5,.v 24,.c (.int .i64 3),.c (.int .i64 0),.c (.int .i64 0),.c (.int .i64 0),.c (.int .i64 0),.c (.int .i64 0),.v 35,.v 36,.v 35,.v 36,.c (.bool false),.v 37,.v 38,.v 30,.v 31,.v 32,.v 33,.c (.rows 15 []),.c (.bool true)] 6 [] <|
(.call none 41 [.v 4,.v 5,.v 24,.v 15,.v 16,.v 17,.v 18,.v 19,.v 20,.v 21,.v 22,.v 23,.v 39,.v 40,.v 41,.v 42,.v 43,.v 44] 6 [] <|
(.call none 45 [.c (.int .i64 6),.c (.int .i64 0),.c (.int .i64 0),.v 4,.v 5,.v 24,.c (.int .i64 0),.c (.int .i64 0),.c (.int .i64 0),.c (.int .i64 0),.c (.int .i64 0),.c (.int .i64 0),.c (.int .i64 0),.c (.int .i64 0),.c (.rows 1 []),.v 45,.v 46,.v 47,.v 48,.v 49,.v 50] 6 [] <|
(.call none 47 [.v 51,.v 52,.v 53,.v 54,.v 55,.v 56] 12 [] <|
(.leaf .ret [.v 57,.v 58,.v 59,.v 60,.v 61,.v 62,.v 34] ())))))))))))))))))))))))))
def Nbh:Tm Unit :=
(.lt none .inb [.v 1,.v 2] 0 <|
(.lt none (.row 1 0 [false]) [.v 1,.v 2] 1 <|
(.lt none .len [.v 4] 1 <|
(.lt none (.bin .gtr) [.v 3,.v 5] 1 <|
(.ite (.v 6)
(.call none 17 [.v 0] 2 [] <|
(.leaf .ret [.c (.int .i64 0),.c (.int .i64 0),.c (.int .i64 0),.c (.int .i64 0),.c (.int .i64 0),.c (.int .i64 0),.c (.int .i64 0),.c (.int .i64 0),.v 7,.v 8] ()))
(.lt none .inb [.v 1,.v 2] 0 <|
(.lt none (.row 1 0 [false]) [.v 1,.v 2] 1 <|
(.lt none (.bin .sub) [.v 3,.c (.int .i64 1)] 1 <|
(.lt none .inb [.v 7,.v 8] 0 <|
(.lt none (.row 10 0 [true,true,true,true,true,true,true,true,true,false]) [.v 7,.v 8] 10 <|
(.call none 31 [.v 9,.v 10,.v 11,.v 12,.v 13,.v 14,.v 15,.v 16,.v 17,.v 18] 10 [] <|
(.leaf .ret [.v 19,.v 20,.v 21,.v 22,.v 23,.v 24,.v 25,.v 26,.v 27,.v 28] ()))))))))))))
def Nbg:Tm Unit :=
(.call none 52 [.v 0,.v 1,.v 2,.v 3] 1 [] <|
(.lt none .not [.v 5] 1 <|
(.lt (some (.v 6,false)) .id [.v 4] 1 <|
(.lt (some (.v 6,false)) .id [.v 0] 1 <|
(.lt (some (.v 6,false)) (.bin .sub) [.v 8,.c (.int .i64 1)] 1 <|
(.call (some (.v 6,false)) 9 [.v 7,.c (.int .i64 0),.v 9] 1 [] <|
(.lt (some (.v 6,false)) .not [.v 10] 1 <|
(.lt none .pick [.v 6,.c (.bool true),.v 11] 1 <|
(.lt (some (.v 12,false)) .id [.v 2] 1 <|
(.lt (some (.v 12,false)) .id [.v 3] 1 <|
(.lt (some (.v 12,false)) .id [.v 4] 1 <|
(.call (some (.v 12,false)) 53 [.v 0,.v 1,.v 13,.v 14,.v 15] 1 [] <|
(.lt (some (.v 12,false)) (.bin .gtr) [.v 16,.c (.int .i64 9999)] 1 <|
(.lt none .pick [.v 12,.c (.bool true),.v 17] 1 <|
(.ite (.v 18)
(.leaf .ret [.c (.int .i64 0),.c (.bool false)] ())
(.call none 53 [.v 0,.v 1,.v 2,.v 3,.v 4] 1 [] <|
(.leaf .ret [.v 19,.c (.bool true)] ())))))))))))))))))
def Nbf:Tm Unit :=
(.call none 15 [.v 0,.v 1] 1 [] <|
(.lt (some (.v 4,true)) .id [.v 0] 1 <|
(.lt (some (.v 4,true)) .id [.v 2] 1 <|
(.lt (some (.v 4,true)) .id [.v 3] 1 <|
(.call (some (.v 4,true)) 26 [.v 5,.v 6,.v 7] 1 [] <|
(.lt none .pick [.v 4,.v 8,.c (.bool false)] 1 <|
(.leaf .ret [.v 9] ())))))))
def Nbe:Tm Unit :=
(.call none 50 [.v 0,.v 1,.v 2,.v 3] 10 [] <|
(.lt none (.bin .add) [.c (.int .i64 8),.v 4] 1 <|
(.bind 1
(.loop [.v 15]
(.lt none (.bin .leq) [.v 16,.v 5] 1 <|
(.ite (.v 17)
(.lt none (.bin .add) [.v 16,.c (.int .i64 8)] 1 <|
(.leaf .cont [.v 18] ()))
(.leaf (.yield 1) [.v 16] ())))) <|
(.leaf .ret [.v 16] ()))))
def Nbd:Tm Unit :=
(.call none 55 [.v 1,.v 4,.v 5,.v 6] 18 [] <|
(.lt none (.bin .add) [.v 0,.c (.int .i64 1)] 1 <|
(.call none 5 [.c (.int .i64 2),.v 22,.v 23,.v 24] 4 [] <|
(.lt none (.bin .add) [.v 25,.v 26] 1 <|
(.lt none (.bin .rem) [.v 30,.c (.int .i64 3)] 1 <|
(.lt none .len [.v 3] 1 <|
(.lt none (.bin .eql) [.v 32,.c (.int .i64 0)] 1 <|
(.call (some (.v 33,false)) 12 [.c (.int .i64 3),.v 27,.v 28,.v 29] 4 [.v 27,.v 28,.v 29] <|
(.lt none .pick [.v 33,.c (.bool true),.v 34] 1 <|
(.ite (.v 38)
(.leaf .ret [.v 7,.v 31,.v 0,.v 10,.v 11,.v 12,.v 13,.v 14,.v 15,.v 16,.v 17,.v 18,.v 19,.v 20,.v 21,.v 3,.v 35,.v 36,.v 37] ())
(.lt none .len [.v 3] 1 <|
(.call none 5 [.v 39,.v 35,.v 36,.v 37] 4 [] <|
(.lt none .inb [.v 3,.v 40] 0 <|
(.lt none (.row 16 0 [true,true,true,true,true,true,true,true,true,true,false,true,false,true,false,false]) [.v 3,.v 40] 16 <|
(.call none 17 [.v 1] 2 [] <|
(.bind 0
(.lt none (.bin .eql) [.v 47,.c (.int .i64 1)] 1 <|
(.ite (.v 62)
(.call none 32 [.v 53,.v 54] 2 [] <|
(.call none 12 [.c (.int .i64 3),.v 41,.v 42,.v 43] 4 [] <|
(.ite (.v 65)
(.call none 56 [.v 1,.v 66,.v 67,.v 68] 5 [] <|
(.leaf (.yield 0) [.v 71,.v 72,.v 73,.c (.int .i64 2),.c (.int .i64 0),.c (.int .i64 0),.c (.int .i64 0),.c (.int .i64 0),.c (.int .i64 0),.c (.int .i64 0),.c (.int .i64 0),.v 69,.v 70] ()))
(.leaf (.yield 0) [.v 66,.v 67,.v 68,.c (.int .i64 2),.c (.int .i64 0),.c (.int .i64 0),.c (.int .i64 0),.c (.int .i64 0),.c (.int .i64 0),.c (.int .i64 0),.c (.int .i64 0),.v 63,.v 64] ()))))
(.lt none (.bin .eql) [.v 47,.c (.int .i64 2)] 1 <|
(.ite (.v 63)
(.leaf (.yield 0) [.v 41,.v 42,.v 43,.c (.int .i64 4),.c (.int .i64 0),.c (.int .i64 0),.c (.int .i64 0),.c (.int .i64 0),.c (.int .i64 0),.c (.int .i64 0),.c (.int .i64 0),.v 60,.v 61] ())
(.call none 57 [.v 1,.v 41,.v 42,.v 43] 13 [] <|
(.lt none (.bin .neq) [.v 66,.c (.int .i64 3)] 1 <|
(.lt (some (.v 77,true)) .id [.v 65] 1 <|
(.lt (some (.v 77,true)) .id [.v 46] 1 <|
(.lt (some (.v 77,true)) (.bin .leq) [.v 78,.v 79] 1 <|
(.lt none .pick [.v 77,.v 80,.c (.bool false)] 1 <|
(.ite (.v 81)
(.leaf (.yield 0) [.v 74,.v 75,.v 76,.c (.int .i64 7),.v 65,.v 66,.v 67,.v 68,.v 69,.v 70,.v 71,.v 72,.v 73] ())
(.leaf (.yield 0) [.v 74,.v 75,.v 76,.c (.int .i64 7),.c (.int .i64 0),.c (.int .i64 0),.c (.int .i64 0),.c (.int .i64 0),.c (.int .i64 0),.c (.int .i64 0),.c (.int .i64 0),.v 60,.v 61] ())))))))))))) <|
(.leaf .ret [.v 65,.v 31,.v 0,.v 44,.v 45,.v 46,.v 66,.v 67,.v 68,.v 69,.v 70,.v 71,.v 72,.v 73,.v 74,.v 3,.v 62,.v 63,.v 64] ())))))))))))))))))
def Nbc:Tm Unit :=
(.call none 5 [.c (.int .i64 7),.v 1,.v 2,.v 3] 4 [] <|
(.lt none (.bin .add) [.c (.int .i64 1),.v 4] 1 <|
(.call none 5 [.c (.int .i64 3),.v 5,.v 6,.v 7] 4 [] <|
(.call none 5 [.c (.int .i64 3),.v 10,.v 11,.v 12] 4 [] <|
(.call none 5 [.c (.int .i64 3),.v 14,.v 15,.v 16] 4 [] <|
(.lt none (.bin .add) [.c (.int .i64 1),.v 17] 1 <|
(.lt none (.mk 1 5) [.c (.int .i64 0),.c (.int .i64 0),.c (.int .i64 8),.c (.int .i64 9),.c (.int .i64 17)] 1 <|
(.call none 4 [.v 22,.v 18,.v 19,.v 20] 4 [] <|
(.call none 39 [.v 0,.c (.int .i64 0)] 1 [] <|
(.call none 17 [.v 27] 2 [] <|
(.lt none (.bin .add) [.v 9,.c (.int .i64 1)] 1 <|
(.call none 5 [.c (.int .i64 2),.v 24,.v 25,.v 26] 4 [] <|
(.lt none (.bin .add) [.v 30,.v 31] 1 <|
(.lt none (.bin .rem) [.v 35,.c (.int .i64 3)] 1 <|
(.bind 0
(.bind 0
(.lt none (.bin .eql) [.v 8,.c (.int .i64 1)] 1 <|
(.ite (.v 37)
(.leaf (.yield 0) [.v 37] ())
(.lt none (.bin .eql) [.v 8,.c (.int .i64 3)] 1 <|
(.ite (.v 38)
(.leaf (.yield 0) [.v 38] ())
(.lt none (.bin .eql) [.v 8,.c (.int .i64 5)] 1 <|
(.leaf (.yield 0) [.v 39] ())))))) <|
(.ite (.v 37)
(.call none 11 [.v 32,.v 33,.v 34] 8 [] <|
(.call none 39 [.v 0,.c (.int .i64 0)] 1 [] <|
(.call none 56 [.v 46,.v 43,.v 44,.v 45] 5 [] <|
(.lt none (.dep 99) [.v 48] 0 <|
(.leaf (.yield 0) [.v 49,.v 50,.v 51,.v 23,.c (.int .i64 0),.c (.int .i64 0),.v 38,.v 39,.v 40,.v 41,.v 42,.v 47,.v 48] ())))))
(.lt none (.bin .eql) [.v 8,.c (.int .i64 2)] 1 <|
(.ite (.v 38)
(.call none 39 [.v 0,.c (.int .i64 0)] 1 [] <|
(.call none 56 [.v 39,.v 32,.v 33,.v 34] 5 [] <|
(.lt none (.dep 99) [.v 41] 0 <|
(.leaf (.yield 0) [.v 42,.v 43,.v 44,.v 23,.c (.int .i64 0),.c (.int .i64 0),.c (.int .i64 0),.c (.int .i64 0),.c (.int .i64 0),.c (.int .i64 0),.c (.int .i64 0),.v 40,.v 41] ()))))
(.lt none (.bin .eql) [.v 8,.c (.int .i64 7)] 1 <|
(.ite (.v 39)
(.call none 39 [.v 0,.c (.int .i64 0)] 1 [] <|
(.call none 57 [.v 40,.v 32,.v 33,.v 34] 13 [] <|
(.lt none (.dep 99) [.v 50] 0 <|
(.lt none (.bin .neq) [.v 43,.c (.int .i64 3)] 1 <|
(.ite (.v 54)
(.leaf (.yield 0) [.v 51,.v 52,.v 53,.v 41,.v 42,.v 43,.v 44,.v 45,.v 46,.v 47,.v 48,.v 49,.v 50] ())
(.leaf (.yield 0) [.v 51,.v 52,.v 53,.v 23,.c (.int .i64 0),.c (.int .i64 0),.c (.int .i64 0),.c (.int .i64 0),.c (.int .i64 0),.c (.int .i64 0),.c (.int .i64 0),.v 28,.v 29] ()))))))
(.leaf (.yield 0) [.v 32,.v 33,.v 34,.v 23,.c (.int .i64 0),.c (.int .i64 0),.c (.int .i64 0),.c (.int .i64 0),.c (.int .i64 0),.c (.int .i64 0),.c (.int .i64 0),.v 28,.v 29] ()))))))) <|
(.bind 0
(.lt none (.bin .eql) [.v 8,.c (.int .i64 5)] 1 <|
(.ite (.v 50)
(.leaf (.yield 0) [.c (.int .i64 0)] ())
(.leaf (.yield 0) [.v 40] ()))) <|
(.bind 0
(.call none 5 [.c (.int .i64 40),.v 37,.v 38,.v 39] 4 [] <|
(.lt none (.bin .eql) [.v 51,.c (.int .i64 0)] 1 <|
(.ite (.v 55)
(.leaf (.yield 0) [.v 52,.v 53,.v 54,.v 9,.v 42,.v 43,.v 44,.v 45,.v 46,.v 47] ())
(.lt none (.bin .eql) [.v 51,.c (.int .i64 1)] 1 <|
(.ite (.v 56)
(.call none 5 [.c (.int .i64 5),.v 52,.v 53,.v 54] 4 [] <|
(.leaf (.yield 0) [.v 58,.v 59,.v 60,.v 36,.v 57,.v 43,.v 44,.v 45,.v 46,.v 47] ()))
(.lt none (.bin .eql) [.v 51,.c (.int .i64 2)] 1 <|
(.ite (.v 57)
(.call none 58 [.v 52,.v 53,.v 54] 8 [] <|
(.leaf (.yield 0) [.v 63,.v 64,.v 65,.v 36,.v 42,.v 58,.v 59,.v 60,.v 61,.v 62] ()))
(.leaf (.yield 0) [.v 52,.v 53,.v 54,.v 36,.v 42,.v 43,.v 44,.v 45,.v 46,.v 47] ())))))))) <|
(.leaf .ret [.v 8,.v 9,.v 54,.v 13,.v 21,.v 50,.v 41,.v 55,.v 56,.v 57,.v 58,.v 59,.v 60,.v 48,.v 49,.v 51,.v 52,.v 53] ()))))))))))))))))))
def Nbb:Tm Unit :=
(.call none 5 [.c (.int .i64 5),.v 1,.v 2,.v 3] 4 [] <|
(.bind 1
(.loop [.c (.int .i64 0),.v 5,.v 6,.v 7,.c (.rows 1 [])]
(.lt none (.bin .lss) [.v 8,.v 0] 1 <|
(.ite (.v 13)
(.call none 5 [.c (.int .i64 4),.v 9,.v 10,.v 11] 4 [] <|
(.lt none (.mk 1 1) [.v 14] 1 <|
(.lt none (.app 1 8 true) [.v 12,.v 18] 1 <|
(.lt none (.bin .add) [.v 8,.c (.int .i64 1)] 1 <|
(.leaf .cont [.v 20,.v 15,.v 16,.v 17,.v 19] ())))))
(.leaf (.yield 1) [.v 9,.v 10,.v 11,.v 12] ())))) <|
(.bind 0
(.call none 5 [.c (.int .i64 30),.v 8,.v 9,.v 10] 4 [] <|
(.lt none (.bin .eql) [.v 12,.c (.int .i64 0)] 1 <|
(.ite (.v 16)
(.lt none (.mk 1 3) [.c (.int .i64 (-1)),.c (.int .i64 999),.c (.int .i64 1000)] 1 <|
(.call none 4 [.v 17,.v 13,.v 14,.v 15] 4 [] <|
(.leaf (.yield 0) [.v 19,.v 20,.v 21,.v 18,.v 11] ())))
(.lt none (.bin .eql) [.v 12,.c (.int .i64 1)] 1 <|
(.ite (.v 17)
(.lt none (.bin .gtr) [.v 0,.c (.int .i64 0)] 1 <|
(.ite (.v 18)
(.lt none (.mk 1 3) [.c (.int .i64 (-1)),.c (.int .i64 6),.c (.int .i64 7)] 1 <|
(.call none 4 [.v 19,.v 13,.v 14,.v 15] 4 [] <|
(.lt none .inb [.v 11,.c (.int .i64 0)] 0 <|
(.lt none (.set 1 0 1) [.v 11,.c (.int .i64 0),.v 20] 1 <|
(.leaf (.yield 0) [.v 21,.v 22,.v 23,.v 4,.v 24] ())))))
(.leaf (.yield 0) [.v 13,.v 14,.v 15,.v 4,.v 11] ())))
(.lt none (.bin .eql) [.v 12,.c (.int .i64 2)] 1 <|
(.ite (.v 18)
(.lt none (.mk 1 1) [.c (.int .i64 1)] 1 <|
(.lt none (.app 1 8 true) [.v 11,.v 19] 1 <|
(.leaf (.yield 0) [.v 13,.v 14,.v 15,.v 4,.v 20] ())))
(.leaf (.yield 0) [.v 13,.v 14,.v 15,.v 4,.v 11] ())))))))) <|
(.leaf .ret [.v 15,.v 16,.v 12,.v 13,.v 14] ()))))
def Nba:Tm Unit :=
(.lt none (.mk 1 5) [.c (.int .i64 0),.c (.int .i64 0),.c (.int .i64 8),.c (.int .i64 9),.c (.int .i64 17)] 1 <|
(.call none 4 [.v 4,.v 1,.v 2,.v 3] 4 [] <|
(.call none 5 [.c (.int .i64 4),.v 6,.v 7,.v 8] 4 [] <|
(.call none 11 [.v 10,.v 11,.v 12] 8 [] <|
(.call none 5 [.c (.int .i64 5),.v 18,.v 19,.v 20] 4 [] <|
(.bind 1
(.loop [.c (.int .i64 0),.v 22,.v 23,.v 24,.c (.rows 1 [])]
(.lt none (.bin .lss) [.v 25,.v 0] 1 <|
(.ite (.v 30)
(.call none 5 [.c (.int .i64 3),.v 26,.v 27,.v 28] 4 [] <|
(.lt none (.mk 1 1) [.v 31] 1 <|
(.lt none (.app 1 8 true) [.v 29,.v 35] 1 <|
(.lt none (.bin .add) [.v 25,.c (.int .i64 1)] 1 <|
(.leaf .cont [.v 37,.v 32,.v 33,.v 34,.v 36] ())))))
(.leaf (.yield 1) [.v 26,.v 27,.v 28,.v 29] ())))) <|
(.bind 0
(.call none 12 [.c (.int .i64 2),.v 25,.v 26,.v 27] 4 [] <|
(.ite (.v 29)
(.leaf (.yield 0) [.v 30,.v 31,.v 32,.v 5] ())
(.leaf (.yield 0) [.v 30,.v 31,.v 32,.c (.int .i64 0)] ()))) <|
(.bind 0
(.lt none (.bin .eql) [.v 9,.c (.int .i64 0)] 1 <|
(.ite (.v 33)
(.call none 17 [.v 0] 2 [] <|
(.leaf (.yield 0) [.c (.int .i64 0),.c (.int .i64 0),.c (.int .i64 0),.c (.int .i64 0),.c (.int .i64 0),.c (.int .i64 0),.c (.int .i64 0),.v 34,.v 35] ()))
(.leaf (.yield 0) [.v 32,.v 9,.v 13,.v 14,.v 15,.v 16,.v 17,.v 21,.v 28] ()))) <|
(.leaf .ret [.v 5,.v 33,.v 34,.v 35,.v 36,.v 37,.v 38,.v 39,.v 40,.v 41,.v 29,.v 30,.v 31] ())))))))))
def Mb9:Tm Unit :=
(.call none 11 [.v 0,.v 1,.v 2] 8 [] <|
(.bind 0
(.call none 5 [.c (.int .i64 20),.v 8,.v 9,.v 10] 4 [] <|
(.lt none (.bin .eql) [.v 11,.c (.int .i64 0)] 1 <|
(.ite (.v 15)
(.leaf .ret [.c (.int .i64 0),.c (.int .i64 0),.c (.int .i64 0),.c (.int .i64 0),.c (.int .i64 0),.v 12,.v 13,.v 14] ())
(.lt none (.bin .eql) [.v 11,.c (.int .i64 1)] 1 <|
(.ite (.v 16)
(.leaf (.yield 0) [.v 12,.v 13,.v 14,.v 3,.v 4,.v 5,.v 5,.v 7] ())
(.lt none (.bin .eql) [.v 11,.c (.int .i64 2)] 1 <|
(.ite (.v 17)
(.lt none (.mk 1 3) [.c (.int .i64 0),.c (.int .i64 999),.c (.int .i64 1000)] 1 <|
(.call none 4 [.v 18,.v 12,.v 13,.v 14] 4 [] <|
(.leaf (.yield 0) [.v 20,.v 21,.v 22,.v 3,.v 19,.v 5,.v 6,.v 7] ())))
(.lt none (.bin .eql) [.v 11,.c (.int .i64 3)] 1 <|
(.ite (.v 18)
(.lt none (.mk 1 3) [.c (.int .i64 0),.c (.int .i64 1000),.c (.int .i64 1001)] 1 <|
(.call none 4 [.v 19,.v 12,.v 13,.v 14] 4 [] <|
(.leaf (.yield 0) [.v 21,.v 22,.v 23,.v 3,.v 4,.v 5,.v 6,.v 20] ())))
(.lt none (.bin .eql) [.v 11,.c (.int .i64 4)] 1 <|
(.ite (.v 19)
(.lt none (.mk 1 2) [.c (.int .i64 (-1)),.c (.int .i64 4)] 1 <|
(.call none 4 [.v 20,.v 12,.v 13,.v 14] 4 [] <|
(.leaf (.yield 0) [.v 22,.v 23,.v 24,.v 3,.v 4,.v 21,.v 6,.v 7] ())))
(.lt none (.bin .eql) [.v 11,.c (.int .i64 5)] 1 <|
(.ite (.v 20)
(.call none 5 [.c (.int .i64 4),.v 12,.v 13,.v 14] 4 [] <|
(.leaf (.yield 0) [.v 22,.v 23,.v 24,.v 21,.v 4,.v 5,.v 6,.v 7] ()))
(.leaf (.yield 0) [.v 12,.v 13,.v 14,.v 3,.v 4,.v 5,.v 6,.v 7] ())))))))))))))) <|
(.leaf .ret [.v 14,.v 15,.v 16,.v 17,.v 18,.v 11,.v 12,.v 13] ())))
def Mb8:Tm Unit :=
(.call none 14 [.v 0,.v 1,.v 2,.v 3] 1 [] <|
(.lt none .not [.v 19] 1 <|
(.lt (some (.v 20,false)) .id [.v 1] 1 <|
(.call (some (.v 20,false)) 60 [.v 21,.v 4,.v 5,.v 6,.v 7,.v 8,.v 9,.v 10,.v 11,.v 12,.v 13,.v 14,.v 15,.v 16,.v 17,.v 18] 1 [] <|
(.lt (some (.v 20,false)) .not [.v 22] 1 <|
(.lt none .pick [.v 20,.c (.bool true),.v 23] 1 <|
(.lt (some (.v 24,false)) .id [.v 6] 1 <|
(.lt (some (.v 24,false)) .id [.v 0] 1 <|
(.lt (some (.v 24,false)) (.bin .neq) [.v 25,.v 26] 1 <|
(.lt none .pick [.v 24,.c (.bool true),.v 27] 1 <|
(.ite (.v 28)
(.leaf .ret [.c (.int .i64 0),.c (.int .i64 0),.c (.rows 1 []),.c (.rows 16 []),.c (.rows 15 []),.c (.bool false),.v 3] ())
(.call none 29 [.v 0,.v 1,.v 2,.v 3] 5 [] <|
(.call none 50 [.v 1,.v 2,.v 7,.v 8] 10 [] <|
(.lt none (.bin .neq) [.v 36,.c (.int .i64 3)] 1 <|
(.ite (.v 44)
(.call none 61 [.v 4,.v 5,.v 6,.v 7,.v 8,.v 9,.v 10,.v 11,.v 12,.v 13,.v 14,.v 15,.v 16,.v 17,.v 18,.v 34,.v 35,.v 36,.v 37,.v 38,.v 39,.v 40,.v 41,.v 42,.v 43,.v 29,.v 30,.v 31,.v 32,.c (.rows 15 []),.c (.bool true)] 6 [] <|
(.call none 47 [.v 45,.v 46,.v 47,.v 48,.v 49,.v 50] 12 [] <|
(.leaf .ret [.v 51,.v 52,.v 53,.v 54,.v 55,.v 56,.v 33] ())))
(.bind 0
(.lt none (.bin .eql) [.v 4,.c (.int .i64 1)] 1 <|
(.lt (some (.v 45,false)) .id [.v 4] 1 <|
(.lt (some (.v 45,false)) (.bin .eql) [.v 46,.c (.int .i64 3)] 1 <|
(.lt none .pick [.v 45,.c (.bool true),.v 47] 1 <|
(.lt (some (.v 48,false)) .id [.v 4] 1 <|
(.lt (some (.v 48,false)) (.bin .eql) [.v 49,.c (.int .i64 6)] 1 <|
(.lt none .pick [.v 48,.c (.bool true),.v 50] 1 <|
(.ite (.v 51)
(.call none 46 [.v 5,.c (.int .i64 5),.c (.int .i64 0),.c (.int .i64 0),.v 7,.v 8,.c (.int .i64 0),.c (.int .i64 0),.c (.int .i64 0),.v 37,.v 38,.v 39,.v 40,.v 41,.v 42,.v 43,.v 29,.v 30,.v 31,.v 32,.c (.rows 15 []),.c (.bool true)] 6 [] <|
(.leaf (.yield 0) [.v 52,.v 53,.v 54,.v 55,.v 56,.v 57,.v 43] ()))
(.leaf (.yield 0) [.v 29,.v 30,.v 31,.v 32,.c (.rows 15 []),.c (.bool true),.v 43] ()))))))))) <|
(.call none 47 [.v 45,.v 46,.v 47,.v 48,.v 49,.v 50] 12 [] <|
(.leaf .ret [.v 52,.v 53,.v 54,.v 55,.v 56,.v 57,.v 33] ()))))))))))))))))))
def Mb7:Tm Unit :=
(.call none 8 [.v 0] 1 [] <|
(.lt none .not [.v 16] 1 <|
(.lt (some (.v 17,false)) .id [.v 1] 1 <|
(.call (some (.v 17,false)) 9 [.v 18,.c (.int .i64 1),.c (.int .i64 7)] 1 [] <|
(.lt (some (.v 17,false)) .not [.v 19] 1 <|
(.lt none .pick [.v 17,.c (.bool true),.v 20] 1 <|
(.lt (some (.v 21,false)) .id [.v 2] 1 <|
(.lt (some (.v 21,false)) .id [.v 0] 1 <|
(.lt (some (.v 21,false)) (.bin .sub) [.v 23,.c (.int .i64 1)] 1 <|
(.call (some (.v 21,false)) 9 [.v 22,.c (.int .i64 0),.v 24] 1 [] <|
(.lt (some (.v 21,false)) .not [.v 25] 1 <|
(.lt none .pick [.v 21,.c (.bool true),.v 26] 1 <|
(.lt (some (.v 27,false)) .id [.v 3] 1 <|
(.lt (some (.v 27,false)) .id [.v 0] 1 <|
(.lt (some (.v 27,false)) (.bin .sub) [.v 29,.c (.int .i64 1)] 1 <|
(.call (some (.v 27,false)) 9 [.v 28,.c (.int .i64 0),.v 30] 1 [] <|
(.lt (some (.v 27,false)) .not [.v 31] 1 <|
(.lt none .pick [.v 27,.c (.bool true),.v 32] 1 <|
(.lt (some (.v 33,false)) .id [.v 2] 1 <|
(.lt (some (.v 33,false)) .id [.v 3] 1 <|
(.lt (some (.v 33,false)) (.bin .eql) [.v 34,.v 35] 1 <|
(.lt none .pick [.v 33,.c (.bool true),.v 36] 1 <|
(.lt (some (.v 37,false)) .id [.v 0] 1 <|
(.lt (some (.v 37,false)) .id [.v 4] 1 <|
(.lt (some (.v 37,false)) .id [.v 5] 1 <|
(.call (some (.v 37,false)) 26 [.v 38,.v 39,.v 40] 1 [] <|
(.lt (some (.v 37,false)) .not [.v 41] 1 <|
(.lt none .pick [.v 37,.c (.bool true),.v 42] 1 <|
(.lt (some (.v 43,false)) .id [.v 6] 1 <|
(.call (some (.v 43,false)) 9 [.v 44,.c (.int .i64 0),.c (.int .i64 9999)] 1 [] <|
(.lt (some (.v 43,false)) .not [.v 45] 1 <|
(.lt none .pick [.v 43,.c (.bool true),.v 46] 1 <|
(.ite (.v 47)
(.leaf .ret [.c (.bool false)] ())
(.lt none (.bin .eql) [.v 1,.c (.int .i64 7)] 1 <|
(.ite (.v 48)
(.lt none (.bin .neq) [.v 8,.c (.int .i64 3)] 1 <|
(.lt (some (.v 49,true)) .id [.v 0] 1 <|
(.lt (some (.v 49,true)) .id [.v 6] 1 <|
(.lt (some (.v 49,true)) .id [.v 7] 1 <|
(.lt (some (.v 49,true)) .id [.v 8] 1 <|
(.call (some (.v 49,true)) 16 [.v 50,.v 51,.v 52,.v 53,.v 9,.v 10,.v 11,.v 12,.v 13,.v 14,.v 15] 1 [] <|
(.lt none .pick [.v 49,.v 54,.c (.bool false)] 1 <|
(.leaf .ret [.v 55] ()))))))))
(.lt none (.bin .neq) [.v 7,.c (.int .i64 0)] 1 <|
(.lt (some (.v 49,false)) .id [.v 8] 1 <|
(.lt (some (.v 49,false)) (.bin .neq) [.v 50,.c (.int .i64 0)] 1 <|
(.lt none .pick [.v 49,.c (.bool true),.v 51] 1 <|
(.lt (some (.v 52,false)) .id [.v 0] 1 <|
(.call (some (.v 52,false)) 23 [.v 53,.v 14,.v 15] 1 [] <|
(.lt (some (.v 52,false)) .not [.v 54] 1 <|
(.lt none .pick [.v 52,.c (.bool true),.v 55] 1 <|
(.call (some (.v 56,false)) 20 [.v 9,.v 10,.v 11,.v 12,.v 13] 1 [] <|
(.lt (some (.v 56,false)) .not [.v 57] 1 <|
(.lt none .pick [.v 56,.c (.bool true),.v 58] 1 <|
(.lt (some (.v 59,false)) .id [.v 1] 1 <|
(.lt (some (.v 59,false)) (.bin .eql) [.v 60,.c (.int .i64 5)] 1 <|
(.lt (some (.v 59,false)) .id [.v 61] 1 <|
(.lt (some (.v 62,true)) .id [.v 6] 1 <|
(.lt (some (.v 62,true)) (.bin .neq) [.v 63,.c (.int .i64 0)] 1 <|
(.lt (some (.v 59,false)) .pick [.v 62,.v 64,.c (.bool false)] 1 <|
(.lt none .pick [.v 59,.c (.bool true),.v 65] 1 <|
(.ite (.v 66)
(.leaf .ret [.c (.bool false)] ())
(.lt none (.bin .eql) [.v 1,.c (.int .i64 2)] 1 <|
(.ite (.v 67)
(.lt none (.eqs [0,0,0,0,0]) [.v 9,.v 10,.v 11,.v 12,.v 13,.c (.int .i64 0),.c (.int .i64 0),.c (.int .i64 0),.c (.int .i64 0),.c (.int .i64 0)] 1 <|
(.leaf .ret [.v 68] ()))
(.bind 0
(.lt none (.bin .eql) [.v 1,.c (.int .i64 4)] 1 <|
(.ite (.v 68)
(.leaf (.yield 0) [.v 68] ())
(.lt none (.bin .eql) [.v 1,.c (.int .i64 6)] 1 <|
(.leaf (.yield 0) [.v 69] ())))) <|
(.ite (.v 68)
(.lt none (.eqs [0,0,0,0,0]) [.v 9,.v 10,.v 11,.v 12,.v 13,.c (.int .i64 0),.c (.int .i64 0),.c (.int .i64 0),.c (.int .i64 0),.c (.int .i64 0)] 1 <|
(.lt (some (.v 69,true)) .id [.v 0] 1 <|
(.call (some (.v 69,true)) 17 [.v 70] 2 [] <|
(.call (some (.v 69,true)) 18 [.v 14,.v 15,.v 71,.v 72] 1 [] <|
(.lt none .pick [.v 69,.v 73,.c (.bool false)] 1 <|
(.leaf .ret [.v 74] ()))))))
(.leaf .ret [.c (.bool true)] ())))))))))))))))))))))))))))))))))))))))))))))))))))))))))))
def Mb6:Tm Unit :=
(.lt none (.bin .eql) [.v 0,.c (.int .i64 1)] 1 <|
(.ite (.v 31)
(.call none 62 [.v 0,.v 1,.v 2,.v 3,.v 4,.v 5,.v 6,.v 7,.v 8,.v 9,.v 10,.v 11,.v 12,.v 13,.v 14,.v 15,.v 16,.v 17,.v 18,.v 19,.v 20,.v 21,.v 22,.v 23,.v 24,.v 25,.v 26,.v 27,.v 28,.v 29,.v 30] 6 [] <|
(.leaf .ret [.v 32,.v 33,.v 34,.v 35,.v 36,.v 37] ()))
(.lt none (.bin .eql) [.v 0,.c (.int .i64 2)] 1 <|
(.ite (.v 32)
(.call none 64 [.v 0,.v 1,.v 2,.v 3,.v 4,.v 5,.v 6,.v 7,.v 8,.v 9,.v 10,.v 11,.v 12,.v 13,.v 14,.v 25,.v 26,.v 27,.v 28,.v 29,.v 30] 6 [] <|
(.leaf .ret [.v 33,.v 34,.v 35,.v 36,.v 37,.v 38] ()))
(.lt none (.bin .eql) [.v 0,.c (.int .i64 3)] 1 <|
(.ite (.v 33)
(.lt none (.bin .geq) [.v 5,.v 15] 1 <|
(.ite (.v 34)
(.call none 41 [.v 3,.v 4,.v 5,.v 5,.c (.int .i64 2),.v 8,.v 9,.v 10,.v 11,.v 12,.v 13,.v 14,.v 25,.v 26,.v 27,.v 28,.v 29,.v 30] 6 [] <|
(.call none 46 [.v 1,.c (.int .i64 4),.c (.int .i64 0),.c (.int .i64 0),.v 3,.v 4,.v 5,.c (.int .i64 0),.c (.int .i64 0),.c (.int .i64 0),.c (.int .i64 0),.c (.int .i64 0),.c (.int .i64 0),.c (.int .i64 0),.c (.int .i64 0),.c (.rows 1 []),.v 35,.v 36,.v 37,.v 38,.v 39,.v 40] 6 [] <|
(.leaf .ret [.v 41,.v 42,.v 43,.v 44,.v 45,.v 46] ())))
(.leaf .ret [.v 25,.v 26,.v 27,.v 28,.v 29,.v 30] ())))
(.lt none (.bin .eql) [.v 0,.c (.int .i64 4)] 1 <|
(.ite (.v 34)
(.call none 65 [.v 0,.v 1,.v 2,.v 3,.v 4,.v 5,.v 6,.v 7,.v 8,.v 9,.v 10,.v 11,.v 12,.v 13,.v 14,.c (.int .i64 2),.v 25,.v 26,.v 27,.v 28,.v 30] 17 [] <|
(.lt none (.dep 99) [.v 45] 0 <|
(.lt none (.dep 99) [.v 47] 0 <|
(.lt none (.dep 99) [.v 49] 0 <|
(.lt none (.dep 99) [.v 50] 0 <|
(.bind 0
(.ite (.v 51)
(.call none 43 [.v 35,.v 36,.v 37,.v 38,.v 39,.v 40,.v 41,.v 42,.v 43,.v 44,.v 45,.v 46,.v 47,.v 48,.v 49,.v 50,.v 25,.v 26,.v 27,.v 28,.v 29,.v 30] 6 [] <|
(.leaf (.yield 0) [.v 52,.v 53,.v 54,.v 55,.v 56,.v 57,.v 45,.v 47,.v 49,.v 50] ()))
(.leaf (.yield 0) [.v 25,.v 26,.v 27,.v 28,.v 29,.v 30,.v 45,.v 47,.v 49,.v 50] ())) <|
(.lt (some (.v 51,true)) .len [.v 60] 1 <|
(.lt (some (.v 51,true)) .id [.v 53] 1 <|
(.lt (some (.v 51,true)) (.bin .quo) [.v 63,.c (.int .i64 2)] 1 <|
(.lt (some (.v 51,true)) (.bin .gtr) [.v 62,.v 64] 1 <|
(.lt none .pick [.v 51,.v 65,.c (.bool false)] 1 <|
(.ite (.v 66)
(.call none 67 [.v 35,.v 36,.v 39,.v 40,.v 41,.v 42,.v 43,.v 46,.v 59,.v 52,.v 53,.v 54,.v 55,.v 56,.v 57] 6 [] <|
(.leaf .ret [.v 67,.v 68,.v 69,.v 70,.v 71,.v 72] ()))
(.leaf .ret [.v 52,.v 53,.v 54,.v 55,.v 56,.v 57] ())))))))))))))
(.lt none (.bin .eql) [.v 0,.c (.int .i64 5)] 1 <|
(.ite (.v 35)
(.call none 68 [.v 3,.v 4,.v 8,.v 9,.v 10,.v 11,.v 12,.v 13,.v 14,.v 25,.v 26,.v 27,.v 28,.v 29,.v 30] 6 [] <|
(.leaf .ret [.v 36,.v 37,.v 38,.v 39,.v 40,.v 41] ()))
(.lt none (.bin .eql) [.v 0,.c (.int .i64 6)] 1 <|
(.ite (.v 36)
(.lt none (.bin .geq) [.v 5,.v 15] 1 <|
(.ite (.v 37)
(.call none 41 [.v 3,.v 4,.v 5,.v 16,.v 17,.v 18,.v 19,.v 20,.v 21,.v 22,.v 23,.v 24,.v 25,.v 26,.v 27,.v 28,.v 29,.v 30] 6 [] <|
(.call none 46 [.v 1,.c (.int .i64 7),.c (.int .i64 0),.c (.int .i64 0),.v 3,.v 4,.v 5,.v 16,.v 17,.v 18,.v 19,.v 20,.v 21,.v 22,.v 23,.v 24,.v 38,.v 39,.v 40,.v 41,.v 42,.v 43] 6 [] <|
(.leaf .ret [.v 44,.v 45,.v 46,.v 47,.v 48,.v 49] ())))
(.leaf .ret [.v 25,.v 26,.v 27,.v 28,.v 29,.v 30] ())))
(.call none 70 [.v 0,.v 1,.v 2,.v 3,.v 4,.v 5,.v 6,.v 7,.v 8,.v 9,.v 10,.v 11,.v 12,.v 13,.v 14,.v 25,.v 26,.v 27,.v 28,.v 29,.v 30] 6 [] <|
(.leaf .ret [.v 37,.v 38,.v 39,.v 40,.v 41,.v 42] ()))))))))))))))
def Mb5:Tm Unit :=
(.lt none (.bin .lss) [.v 5,.v 15] 1 <|
(.lt (some (.v 31,false)) .id [.v 17] 1 <|
(.lt (some (.v 31,false)) (.bin .eql) [.v 32,.c (.int .i64 2)] 1 <|
(.lt (some (.v 31,false)) .id [.v 33] 1 <|
(.lt (some (.v 34,true)) .id [.v 16] 1 <|
(.lt (some (.v 34,true)) .id [.v 5] 1 <|
(.lt (some (.v 34,true)) (.bin .geq) [.v 35,.v 36] 1 <|
(.lt (some (.v 31,false)) .pick [.v 34,.v 37,.c (.bool false)] 1 <|
(.lt none .pick [.v 31,.c (.bool true),.v 38] 1 <|
(.ite (.v 39)
(.leaf .ret [.v 25,.v 26,.v 27,.v 28,.v 29,.v 30] ())
(.bind 0
(.lt none (.bin .neq) [.v 17,.c (.int .i64 1)] 1 <|
(.lt (some (.v 40,false)) .id [.v 16] 1 <|
(.lt (some (.v 40,false)) .id [.v 5] 1 <|
(.lt (some (.v 40,false)) (.bin .neq) [.v 41,.v 42] 1 <|
(.lt none .pick [.v 40,.c (.bool true),.v 43] 1 <|
(.ite (.v 44)
(.call none 35 [.v 26,.v 27,.v 8,.v 9,.v 10,.v 11,.v 12,.v 3,.v 4] 2 [] <|
(.call none 63 [.v 13,.v 14,.v 45,.v 46] 2 [] <|
(.lt none (.dep 99) [.v 48] 0 <|
(.call none 41 [.v 3,.v 4,.v 5,.v 5,.c (.int .i64 1),.v 8,.v 9,.v 10,.v 11,.v 12,.v 47,.v 48,.v 25,.v 26,.v 27,.v 28,.v 29,.v 30] 6 [] <|
(.leaf (.yield 0) [.v 49,.v 50,.v 51,.v 52,.v 53,.v 54,.v 47,.v 48] ())))))
(.leaf (.yield 0) [.v 25,.v 26,.v 27,.v 28,.v 29,.v 30,.v 23,.v 24] ()))))))) <|
(.call none 46 [.v 1,.c (.int .i64 2),.c (.int .i64 0),.c (.int .i64 0),.v 3,.v 4,.v 5,.c (.int .i64 0),.c (.int .i64 0),.c (.int .i64 0),.c (.int .i64 0),.c (.int .i64 0),.c (.int .i64 0),.c (.int .i64 0),.v 46,.v 47,.v 40,.v 41,.v 42,.v 43,.v 44,.v 45] 6 [] <|
(.leaf .ret [.v 48,.v 49,.v 50,.v 51,.v 52,.v 53] ())))))))))))))
def Mb4:Tm Unit :=
(.call none 39 [.v 0,.v 2] 1 [] <|
(.lt none .len [.v 1] 1 <|
(.bind 1
(.loop [.c (.int .i64 0),.c (.rows 1 [])]
(.lt none (.bin .lss) [.v 6,.v 5] 1 <|
(.ite (.v 8)
(.lt none .inb [.v 1,.v 6] 0 <|
(.lt none (.row 1 0 [true]) [.v 1,.v 6] 1 <|
(.lt none .inb [.v 3,.v 6] 0 <|
(.lt none (.row 1 0 [true]) [.v 3,.v 6] 1 <|
(.call none 39 [.v 9,.v 10] 1 [] <|
(.lt none (.mk 1 1) [.v 11] 1 <|
(.lt none (.app 1 8 true) [.v 7,.v 12] 1 <|
(.lt none (.bin .add) [.v 6,.c (.int .i64 1)] 1 <|
(.leaf .cont [.v 14,.v 13] ())))))))))
(.leaf (.yield 1) [.v 7] ())))) <|
(.leaf .ret [.v 4,.v 6] ()))))
def Mb3:Tm Unit :=
(.call none 65 [.v 0,.v 1,.v 2,.v 3,.v 4,.v 5,.v 6,.v 7,.v 8,.v 9,.v 10,.v 11,.v 12,.v 13,.v 14,.c (.int .i64 1),.v 15,.v 16,.v 17,.v 18,.v 20] 17 [] <|
(.lt none (.dep 99) [.v 31] 0 <|
(.lt none (.dep 99) [.v 33] 0 <|
(.lt none (.dep 99) [.v 35] 0 <|
(.lt none (.dep 99) [.v 36] 0 <|
(.lt none .not [.v 37] 1 <|
(.ite (.v 38)
(.leaf .ret [.v 15,.v 16,.v 17,.v 18,.v 19,.v 20] ())
(.call none 63 [.v 32,.v 33,.v 13,.v 14] 2 [] <|
(.call (some (.v 34,true)) 18 [.v 13,.v 14,.v 30,.v 31] 1 [] <|
(.lt none .pick [.v 34,.v 41,.c (.bool false)] 1 <|
(.call none 43 [.v 21,.v 22,.v 23,.v 24,.v 25,.v 26,.v 27,.v 28,.v 29,.v 30,.v 31,.v 39,.v 40,.v 42,.v 35,.v 36,.v 15,.v 16,.v 17,.v 18,.v 19,.v 20] 6 [] <|
(.lt none (.bin .eql) [.v 23,.c (.int .i64 0)] 1 <|
(.lt (some (.v 49,true)) .len [.v 35] 1 <|
(.lt (some (.v 49,true)) .id [.v 44] 1 <|
(.lt (some (.v 49,true)) (.bin .eql) [.v 50,.v 51] 1 <|
(.lt none .pick [.v 49,.v 52,.c (.bool false)] 1 <|
(.lt (some (.v 53,true)) .id [.v 42] 1 <|
(.lt none .pick [.v 53,.v 54,.c (.bool false)] 1 <|
(.ite (.v 55)
(.call none 67 [.v 21,.v 22,.v 25,.v 26,.v 27,.v 28,.v 29,.v 30,.v 31,.v 43,.v 44,.v 45,.v 46,.v 47,.v 48] 6 [] <|
(.leaf .ret [.v 56,.v 57,.v 58,.v 59,.v 60,.v 61] ()))
(.lt none .len [.v 35] 1 <|
(.lt none (.bin .quo) [.v 44,.c (.int .i64 2)] 1 <|
(.lt none (.bin .gtr) [.v 56,.v 57] 1 <|
(.lt (some (.v 58,true)) .id [.v 23] 1 <|
(.lt (some (.v 58,true)) (.bin .gtr) [.v 59,.c (.int .i64 0)] 1 <|
(.lt (some (.v 58,true)) .id [.v 60] 1 <|
(.lt (some (.v 61,false)) .id [.v 42] 1 <|
(.lt (some (.v 61,false)) .not [.v 62] 1 <|
(.lt (some (.v 58,true)) .pick [.v 61,.c (.bool true),.v 63] 1 <|
(.lt none .pick [.v 58,.v 64,.c (.bool false)] 1 <|
(.ite (.v 65)
(.call none 69 [.v 21,.v 22,.v 23,.v 24,.v 25,.v 26,.v 27,.v 28,.v 29,.v 30,.v 31,.v 39,.v 40,.v 42,.v 35,.v 36,.v 43,.v 44,.v 45,.v 46,.v 47,.v 48] 6 [] <|
(.leaf .ret [.v 66,.v 67,.v 68,.v 69,.v 70,.v 71] ()))
(.leaf .ret [.v 43,.v 44,.v 45,.v 46,.v 47,.v 48] ())))))))))))))))))))))))))))))))
def Mb2:Tm Unit :=
(.call none 66 [.v 3,.v 4,.v 16,.v 17,.v 18,.v 19,.v 20] 1 [] <|
(.lt none (.bin .lss) [.v 21,.c (.int .i64 0)] 1 <|
(.ite (.v 22)
(.leaf .ret [.c (.int .i64 0),.c (.int .i64 0),.c (.int .i64 0),.c (.int .i64 0),.c (.int .i64 0),.c (.int .i64 0),.c (.int .i64 0),.c (.int .i64 0),.c (.int .i64 0),.c (.int .i64 0),.c (.rows 1 []),.c (.int .i64 0),.c (.rows 1 []),.c (.bool false),.c (.rows 1 []),.c (.rows 10 []),.c (.bool false)] ())
(.lt none .inb [.v 19,.v 21] 0 <|
(.lt none (.row 16 0 [true,true,true,true,true,true,true,true,true,true,false,true,false,true,false,false]) [.v 19,.v 21] 16 <|
(.call none 34 [.v 23,.v 24,.v 25,.v 26,.v 27,.v 28,.v 29,.v 30,.v 31,.v 32,.v 33,.v 34,.v 35,.v 36,.v 37,.v 38] 16 [] <|
(.lt none (.bin .neq) [.v 42,.v 15] 1 <|
(.lt (some (.v 55,false)) .id [.v 41] 1 <|
(.lt (some (.v 55,false)) .id [.v 5] 1 <|
(.lt (some (.v 55,false)) (.bin .neq) [.v 56,.v 57] 1 <|
(.lt none .pick [.v 55,.c (.bool true),.v 58] 1 <|
(.lt (some (.v 59,false)) .id [.v 1] 1 <|
(.call (some (.v 59,false)) 28 [.v 53,.v 60] 1 [] <|
(.lt none .pick [.v 59,.c (.bool true),.v 61] 1 <|
(.ite (.v 62)
(.leaf .ret [.c (.int .i64 0),.c (.int .i64 0),.c (.int .i64 0),.c (.int .i64 0),.c (.int .i64 0),.c (.int .i64 0),.c (.int .i64 0),.c (.int .i64 0),.c (.int .i64 0),.c (.int .i64 0),.c (.rows 1 []),.c (.int .i64 0),.c (.rows 1 []),.c (.bool false),.c (.rows 1 []),.c (.rows 10 []),.c (.bool false)] ())
(.call none 38 [.v 53,.v 1] 1 [] <|
(.leaf .ret [.v 39,.v 40,.v 41,.v 42,.v 43,.v 44,.v 45,.v 46,.v 47,.v 48,.v 49,.v 50,.v 51,.v 52,.v 63,.v 54,.c (.bool true)] ())))))))))))))))))
def Mb1:Tm Unit :=
(.lt none .len [.v 5] 1 <|
(.bind 1
(.loop [.c (.int .i64 0)]
(.lt none (.bin .lss) [.v 8,.v 7] 1 <|
(.ite (.v 9)
(.lt none .inb [.v 5,.v 8] 0 <|
(.lt none (.row 16 0 [true,true,true,true,true,true,true,true,true,true,false,true,false,true,false,false]) [.v 5,.v 8] 16 <|
(.lt none (.bin .eql) [.v 10,.v 0] 1 <|
(.lt (some (.v 26,true)) .id [.v 11] 1 <|
(.lt (some (.v 26,true)) .id [.v 1] 1 <|
(.lt (some (.v 26,true)) (.bin .eql) [.v 27,.v 28] 1 <|
(.lt none .pick [.v 26,.v 29,.c (.bool false)] 1 <|
(.ite (.v 30)
(.leaf .ret [.v 8] ())
(.lt none (.bin .add) [.v 8,.c (.int .i64 1)] 1 <|
(.leaf .cont [.v 31] ()))))))))))
(.leaf (.yield 1) [] ())))) <|
(.leaf .ret [.c (.int .i64 (-1))] ())))
def Mb0:Tm Unit :=
(.call none 68 [.v 0,.v 1,.v 2,.v 3,.v 4,.v 5,.v 6,.v 7,.v 8,.v 9,.v 10,.v 11,.v 12,.v 13,.v 14] 6 [] <|
(.call none 45 [.c (.int .i64 5),.c (.int .i64 0),.c (.int .i64 0),.v 0,.v 1,.c (.int .i64 0),.c (.int .i64 0),.c (.int .i64 0),.v 2,.v 3,.v 4,.v 5,.v 6,.v 7,.v 8,.v 15,.v 16,.v 17,.v 18,.v 19,.v 20] 6 [] <|
(.leaf .ret [.v 21,.v 22,.v 23,.v 24,.v 25,.v 26] ())))
def Mbz:Tm Unit :=
(.call none 50 [.v 10,.v 11,.v 0,.v 1] 10 [] <|
(.call none 41 [.v 0,.v 1,.v 15,.v 16,.c (.int .i64 3),.v 2,.v 3,.v 4,.v 5,.v 6,.v 7,.v 8,.v 9,.v 10,.v 11,.v 12,.v 13,.v 14] 6 [] <|
(.call none 44 [.v 0,.v 1,.v 25,.v 26,.v 27,.v 28,.v 29,.v 30] 6 [] <|
(.leaf .ret [.v 31,.v 32,.v 33,.v 34,.v 35,.v 36] ()))))
def Mby:Tm Unit :=
(.call none 50 [.v 17,.v 18,.v 0,.v 1] 10 [] <|
(.lt none (.bin .gtr) [.v 22,.v 2] 1 <|
(.ite (.v 32)
(.call none 44 [.v 0,.v 1,.v 16,.v 17,.v 18,.v 19,.v 20,.v 21] 6 [] <|
(.leaf .ret [.v 33,.v 34,.v 35,.v 36,.v 37,.v 38] ()))
(.call none 41 [.v 0,.v 1,.v 2,.v 2,.c (.int .i64 2),.v 4,.v 5,.v 6,.v 7,.v 8,.v 11,.v 12,.v 16,.v 17,.v 18,.v 19,.v 20,.v 21] 6 [] <|
(.lt none (.mk 1 1) [.v 33] 1 <|
(.call none 43 [.v 0,.v 1,.v 2,.c (.int .i64 2),.v 4,.v 5,.v 6,.v 7,.v 8,.v 11,.v 12,.v 11,.v 12,.c (.bool false),.v 39,.c (.rows 10 []),.v 33,.v 34,.v 35,.v 36,.v 37,.v 38] 6 [] <|
(.call none 45 [.c (.int .i64 3),.c (.int .i64 0),.c (.int .i64 0),.v 0,.v 1,.v 2,.c (.int .i64 0),.c (.int .i64 0),.v 4,.v 5,.v 6,.v 7,.v 8,.v 11,.v 12,.v 40,.v 41,.v 42,.v 43,.v 44,.v 45] 6 [] <|
(.leaf .ret [.v 46,.v 47,.v 48,.v 49,.v 50,.v 51] ()))))))))
def Mbx:Tm Unit :=
(.call none 65 [.v 0,.v 1,.v 2,.v 3,.v 4,.v 5,.v 6,.v 7,.v 8,.v 9,.v 10,.v 11,.v 12,.v 13,.v 14,.c (.int .i64 3),.v 15,.v 16,.v 17,.v 18,.v 20] 17 [] <|
(.lt none (.dep 99) [.v 31] 0 <|
(.lt none (.dep 99) [.v 33] 0 <|
(.lt none (.dep 99) [.v 35] 0 <|
(.lt none (.dep 99) [.v 36] 0 <|
(.lt none .not [.v 37] 1 <|
(.ite (.v 38)
(.leaf .ret [.v 15,.v 16,.v 17,.v 18,.v 19,.v 20] ())
(.lt none (.mk 10 1) [.v 5,.v 6,.v 7,.v 8,.v 9,.v 10,.v 11,.v 12,.v 13,.v 14] 1 <|
(.lt none (.app 10 96 false) [.v 36,.v 39] 1 <|
(.call none 43 [.v 21,.v 22,.v 23,.v 24,.v 25,.v 26,.v 27,.v 28,.v 29,.v 30,.v 31,.v 32,.v 33,.v 34,.v 35,.v 40,.v 15,.v 16,.v 17,.v 18,.v 19,.v 20] 6 [] <|
(.lt none .len [.v 35] 1 <|
(.lt none (.bin .quo) [.v 42,.c (.int .i64 2)] 1 <|
(.lt none (.bin .leq) [.v 47,.v 48] 1 <|
(.ite (.v 49)
(.leaf .ret [.v 41,.v 42,.v 43,.v 44,.v 45,.v 46] ())
(.call none 71 [.v 42,.v 40] 8 [] <|
(.lt none (.bin .neq) [.v 50,.c (.int .i64 2)] 1 <|
(.ite (.v 58)
(.call none 69 [.v 21,.v 22,.v 23,.v 24,.v 51,.v 52,.v 53,.v 54,.v 55,.v 30,.v 31,.v 56,.v 57,.v 34,.v 35,.v 40,.v 41,.v 42,.v 43,.v 44,.v 45,.v 46] 6 [] <|
(.leaf .ret [.v 59,.v 60,.v 61,.v 62,.v 63,.v 64] ()))
(.call none 50 [.v 42,.v 43,.v 21,.v 22] 10 [] <|
(.lt none (.bin .gtr) [.v 59,.v 23] 1 <|
(.ite (.v 69)
(.call none 44 [.v 21,.v 22,.v 41,.v 42,.v 43,.v 44,.v 45,.v 46] 6 [] <|
(.leaf .ret [.v 70,.v 71,.v 72,.v 73,.v 74,.v 75] ()))
(.call none 35 [.v 42,.v 43,.v 51,.v 52,.v 53,.v 54,.v 55,.v 21,.v 22] 2 [] <|
(.call none 63 [.v 56,.v 57,.v 70,.v 71] 2 [] <|
(.lt none (.dep 99) [.v 73] 0 <|
(.call none 40 [.v 21,.v 22,.v 23,.v 51,.v 52,.v 53,.v 54,.v 55,.v 72,.v 73,.v 41,.v 42,.v 43,.v 44,.v 45,.v 46] 6 [] <|
(.leaf .ret [.v 74,.v 75,.v 76,.v 77,.v 78,.v 79] ())))))))))))))))))))))))))
def Mbw:Tm Unit :=
(.call none 17 [.v 0] 2 [] <|
(.lt none .len [.v 1] 1 <|
(.bind 1
(.loop [.c (.int .i64 (-1)),.c (.int .i64 (-1)),.c (.bool true),.c (.int .i64 0),.v 2,.v 3]
(.lt none (.bin .lss) [.v 8,.v 4] 1 <|
(.ite (.v 11)
(.lt none .inb [.v 1,.v 8] 0 <|
(.lt none (.row 10 0 [true,true,true,true,true,true,true,true,true,false]) [.v 1,.v 8] 10 <|
(.bind 0
(.lt none (.bin .eql) [.v 14,.c (.int .i64 2)] 1 <|
(.ite (.v 22)
(.lt none (.bin .lss) [.v 5,.c (.int .i64 0)] 1 <|
(.lt (some (.v 23,false)) .id [.v 13] 1 <|
(.lt (some (.v 23,false)) .id [.v 5] 1 <|
(.lt (some (.v 23,false)) .inb [.v 1,.v 25] 0 <|
(.lt (some (.v 23,false)) (.row 10 1 [true]) [.v 1,.v 25] 1 <|
(.lt (some (.v 23,false)) (.bin .gtr) [.v 24,.v 26] 1 <|
(.lt none .pick [.v 23,.c (.bool true),.v 27] 1 <|
(.ite (.v 28)
(.leaf (.yield 0) [.v 8,.v 6,.v 9,.v 10] ())
(.leaf (.yield 0) [.v 5,.v 6,.v 9,.v 10] ())))))))))
(.lt none (.bin .eql) [.v 14,.c (.int .i64 1)] 1 <|
(.ite (.v 23)
(.bind 0
(.lt none (.bin .lss) [.v 6,.c (.int .i64 0)] 1 <|
(.lt (some (.v 24,false)) .id [.v 13] 1 <|
(.lt (some (.v 24,false)) .id [.v 6] 1 <|
(.lt (some (.v 24,false)) .inb [.v 1,.v 26] 0 <|
(.lt (some (.v 24,false)) (.row 10 1 [true]) [.v 1,.v 26] 1 <|
(.lt (some (.v 24,false)) (.bin .gtr) [.v 25,.v 27] 1 <|
(.lt none .pick [.v 24,.c (.bool true),.v 28] 1 <|
(.ite (.v 29)
(.leaf (.yield 0) [.v 8,.c .undef,.c .undef,.c .undef,.c .undef] ())
(.leaf (.yield 0) [.v 6,.c .undef,.c .undef,.c .undef,.c .undef] ()))))))))) <|
(.call none 63 [.v 9,.v 10,.v 20,.v 21] 2 [] <|
(.lt none (.dep 99) [.v 30] 0 <|
(.leaf (.yield 0) [.v 5,.v 24,.v 29,.v 30] ()))))
(.leaf (.yield 0) [.v 5,.v 6,.v 9,.v 10] ()))))) <|
(.lt (some (.v 7,true)) .id [.v 14] 1 <|
(.lt (some (.v 7,true)) (.bin .eql) [.v 26,.c (.int .i64 1)] 1 <|
(.lt none .pick [.v 7,.v 27,.c (.bool false)] 1 <|
(.lt (some (.v 28,true)) .id [.v 13] 1 <|
(.lt (some (.v 28,true)) (.bin .eql) [.v 29,.c (.int .i64 0)] 1 <|
(.lt none .pick [.v 28,.v 30,.c (.bool false)] 1 <|
(.lt (some (.v 31,true)) .inb [.v 1,.c (.int .i64 0)] 0 <|
(.lt (some (.v 31,true)) (.row 10 3 [true,true,true,true,true]) [.v 1,.c (.int .i64 0)] 5 <|
(.lt (some (.v 31,true)) (.eqs [0,0,0,0,0]) [.v 15,.v 16,.v 17,.v 18,.v 19,.v 32,.v 33,.v 34,.v 35,.v 36] 1 <|
(.lt none .pick [.v 31,.v 37,.c (.bool false)] 1 <|
(.lt (some (.v 38,true)) .inb [.v 1,.c (.int .i64 0)] 0 <|
(.lt (some (.v 38,true)) (.row 10 8 [true,false]) [.v 1,.c (.int .i64 0)] 2 <|
(.call (some (.v 38,true)) 18 [.v 20,.v 21,.v 39,.v 40] 1 [] <|
(.lt none .pick [.v 38,.v 41,.c (.bool false)] 1 <|
(.lt none (.bin .add) [.v 8,.c (.int .i64 1)] 1 <|
(.leaf .cont [.v 22,.v 23,.v 42,.v 43,.v 24,.v 25] ())))))))))))))))))))
(.leaf (.yield 1) [.v 5,.v 6,.v 7,.v 9,.v 10] ())))) <|
(.lt none (.bin .geq) [.v 5,.c (.int .i64 0)] 1 <|
(.ite (.v 10)
(.lt none .inb [.v 1,.v 5] 0 <|
(.lt none (.row 10 3 [true,true,true,true,true]) [.v 1,.v 5] 5 <|
(.lt none .inb [.v 1,.v 5] 0 <|
(.lt none (.row 10 8 [true,false]) [.v 1,.v 5] 2 <|
(.call none 32 [.v 16,.v 17] 2 [] <|
(.leaf .ret [.c (.int .i64 1),.v 11,.v 12,.v 13,.v 14,.v 15,.v 18,.v 19] ()))))))
(.ite (.v 7)
(.lt none .inb [.v 1,.c (.int .i64 0)] 0 <|
(.lt none (.row 10 3 [true,true,true,true,true]) [.v 1,.c (.int .i64 0)] 5 <|
(.lt none .inb [.v 1,.c (.int .i64 0)] 0 <|
(.lt none (.row 10 8 [true,false]) [.v 1,.c (.int .i64 0)] 2 <|
(.call none 32 [.v 16,.v 17] 2 [] <|
(.leaf .ret [.c (.int .i64 1),.v 11,.v 12,.v 13,.v 14,.v 15,.v 18,.v 19] ()))))))
(.lt none (.bin .geq) [.v 6,.c (.int .i64 0)] 1 <|
(.ite (.v 11)
(.lt none .inb [.v 1,.v 6] 0 <|
(.lt none (.row 10 3 [true,true,true,true,true]) [.v 1,.v 6] 5 <|
(.leaf .ret [.c (.int .i64 2),.v 12,.v 13,.v 14,.v 15,.v 16,.v 8,.v 9] ())))
(.call none 17 [.v 0] 2 [] <|
(.leaf .ret [.c (.int .i64 3),.c (.int .i64 0),.c (.int .i64 0),.c (.int .i64 0),.c (.int .i64 0),.c (.int .i64 0),.v 12,.v 13] ()))))))))))
def Mbv:Tm Unit :=
(.call none 73 [.v 0,.v 1,.v 2,.v 3] 1 [] <|
(.lt none .not [.v 9] 1 <|
(.call (some (.v 10,false)) 84 [.v 4,.v 5,.v 6,.v 7,.v 8] 1 [] <|
(.lt (some (.v 10,false)) .not [.v 11] 1 <|
(.lt none .pick [.v 10,.c (.bool true),.v 12] 1 <|
(.lt (some (.v 13,false)) .id [.v 4] 1 <|
(.lt (some (.v 13,false)) (.bin .eql) [.v 14,.c (.int .i64 0)] 1 <|
(.lt none .pick [.v 13,.c (.bool true),.v 15] 1 <|
(.lt (some (.v 16,false)) .id [.v 0] 1 <|
(.lt (some (.v 16,false)) .inb [.v 2,.v 17] 0 <|
(.lt (some (.v 16,false)) (.row 1 0 [false]) [.v 2,.v 17] 1 <|
(.lt (some (.v 16,false)) .len [.v 18] 1 <|
(.lt (some (.v 16,false)) (.bin .geq) [.v 19,.c (.int .i64 6)] 1 <|
(.lt none .pick [.v 16,.c (.bool true),.v 20] 1 <|
(.ite (.v 21)
(.leaf .ret [.c (.int .i64 0),.c (.int .i64 0),.c (.rows 1 []),.c (.rows 16 []),.c (.rows 15 []),.c (.bool false)] ())
(.call none 108 [.v 0,.v 1,.v 2,.v 3] 6 [] <|
(.lt none .inb [.v 2,.v 0] 0 <|
(.lt none (.row 1 0 [false]) [.v 2,.v 0] 1 <|
(.lt none .len [.v 28] 1 <|
(.lt none (.bin .add) [.v 29,.c (.int .i64 1)] 1 <|
(.call none 116 [.v 23,.v 24,.v 4,.v 5,.v 6,.v 7,.v 8,.v 0,.v 30] 3 [] <|
(.lt none (.dep 99) [.v 32] 0 <|
(.lt none .not [.v 33] 1 <|
(.ite (.v 34)
(.leaf .ret [.c (.int .i64 0),.c (.int .i64 0),.c (.rows 1 []),.c (.rows 16 []),.c (.rows 15 []),.c (.bool false)] ())
(.call none 124 [.v 0,.v 30,.c (.int .i64 0),.v 4,.v 5,.v 6,.v 7,.v 8,.v 31,.v 32,.v 22,.v 23,.v 24,.v 25,.v 26,.v 27] 6 [] <|
(.lt none (.dep 99) [.v 37] 0 <|
(.lt none (.dep 99) [.v 38] 0 <|
(.lt none (.dep 99) [.v 39] 0 <|
(.call none 136 [.v 35,.v 36,.v 37,.v 38,.v 39,.v 40] 12 [] <|
(.leaf .ret [.v 41,.v 42,.v 43,.v 44,.v 45,.v 46] ()))))))))))))))))))))))))))))))
def Mbu:Tm Unit :=
(.call none 74 [.v 1,.v 2] 1 [] <|
(.lt none .not [.v 4] 1 <|
(.lt (some (.v 5,false)) .id [.v 0] 1 <|
(.lt (some (.v 5,false)) .id [.v 1] 1 <|
(.lt (some (.v 5,false)) (.bin .sub) [.v 7,.c (.int .i64 1)] 1 <|
(.call (some (.v 5,false)) 83 [.v 6,.c (.int .i64 0),.v 8] 1 [] <|
(.lt (some (.v 5,false)) .not [.v 9] 1 <|
(.lt none .pick [.v 5,.c (.bool true),.v 10] 1 <|
(.ite (.v 11)
(.leaf .ret [.c (.bool false)] ())
(.lt none .len [.v 3] 1 <|
(.bind 1
(.loop [.c (.int .i64 0)]
(.lt none (.bin .lss) [.v 13,.v 12] 1 <|
(.ite (.v 14)
(.lt none .inb [.v 3,.v 13] 0 <|
(.lt none (.row 16 0 [true,true,true,true,true,true,true,true,true,true,false,true,false,true,false,false]) [.v 3,.v 13] 16 <|
(.call none 93 [.v 1,.v 0,.v 15,.v 16,.v 17,.v 18,.v 19,.v 20,.v 21,.v 22,.v 23,.v 24,.v 25,.v 26,.v 27,.v 28,.v 29,.v 30] 1 [] <|
(.lt none .not [.v 31] 1 <|
(.lt (some (.v 32,false)) .id [.v 13] 1 <|
(.lt (some (.v 32,false)) (.bin .gtr) [.v 33,.c (.int .i64 0)] 1 <|
(.lt (some (.v 32,false)) .id [.v 34] 1 <|
(.lt (some (.v 35,true)) .id [.v 15] 1 <|
(.lt (some (.v 35,true)) .id [.v 16] 1 <|
(.lt (some (.v 35,true)) (.mk 1 2) [.v 36,.v 37] 1 <|
(.lt (some (.v 35,true)) .id [.v 13] 1 <|
(.lt (some (.v 35,true)) (.bin .sub) [.v 39,.c (.int .i64 1)] 1 <|
(.lt (some (.v 35,true)) .inb [.v 3,.v 40] 0 <|
(.lt (some (.v 35,true)) (.row 16 0 [true]) [.v 3,.v 40] 1 <|
(.lt (some (.v 35,true)) .id [.v 13] 1 <|
(.lt (some (.v 35,true)) (.bin .sub) [.v 42,.c (.int .i64 1)] 1 <|
(.lt (some (.v 35,true)) .inb [.v 3,.v 43] 0 <|
(.lt (some (.v 35,true)) (.row 16 1 [true]) [.v 3,.v 43] 1 <|
(.lt (some (.v 35,true)) (.mk 1 2) [.v 41,.v 44] 1 <|
(.call (some (.v 35,true)) 105 [.v 38,.v 45] 1 [] <|
(.lt (some (.v 35,true)) (.bin .leq) [.v 46,.c (.int .i64 0)] 1 <|
(.lt (some (.v 32,false)) .pick [.v 35,.v 47,.c (.bool false)] 1 <|
(.lt none .pick [.v 32,.c (.bool true),.v 48] 1 <|
(.ite (.v 49)
(.leaf .ret [.c (.bool false)] ())
(.lt none (.bin .add) [.v 13,.c (.int .i64 1)] 1 <|
(.leaf .cont [.v 50] ()))))))))))))))))))))))))))
(.leaf (.yield 1) [] ())))) <|
(.leaf .ret [.c (.bool true)] ()))))))))))))
def Mbt:Tm Unit :=
(.call none 75 [.v 0] 1 [] <|
(.lt (some (.v 2,true)) .len [.v 1] 1 <|
(.lt (some (.v 2,true)) .id [.v 0] 1 <|
(.lt (some (.v 2,true)) (.bin .eql) [.v 3,.v 4] 1 <|
(.lt none .pick [.v 2,.v 5,.c (.bool false)] 1 <|
(.call (some (.v 6,true)) 76 [.v 1,.v 0,.v 1] 1 [] <|
(.lt (some (.v 6,true)) .not [.v 7] 1 <|
(.lt none .pick [.v 6,.v 8,.c (.bool false)] 1 <|
(.leaf .ret [.v 9] ())))))))))
def Mbs:Tm Unit :=
(.lt none (.bin .eql) [.v 0,.c (.int .i64 3)] 1 <|
(.lt (some (.v 1,false)) .id [.v 0] 1 <|
(.lt (some (.v 1,false)) (.bin .eql) [.v 2,.c (.int .i64 5)] 1 <|
(.lt none .pick [.v 1,.c (.bool true),.v 3] 1 <|
(.leaf .ret [.v 4] ())))))
def Mbr:Tm Unit :=
(.call none 77 [.v 0,.v 1,.v 2] 1 [] <|
(.lt none (.bin .geq) [.v 3,.c (.int .i64 0)] 1 <|
(.leaf .ret [.v 4] ())))
def Mbq:Tm Unit :=
(.lt none .len [.v 0] 1 <|
(.bind 1
(.loop [.c (.int .i64 0)]
(.lt none (.bin .lss) [.v 4,.v 3] 1 <|
(.ite (.v 5)
(.lt none .inb [.v 0,.v 4] 0 <|
(.lt none (.row 1 0 [false]) [.v 0,.v 4] 1 <|
(.call none 78 [.v 6,.v 1,.v 2] 1 [] <|
(.ite (.v 7)
(.leaf .ret [.v 4] ())
(.lt none (.bin .add) [.v 4,.c (.int .i64 1)] 1 <|
(.leaf .cont [.v 8] ()))))))
(.leaf (.yield 1) [] ())))) <|
(.leaf .ret [.c (.int .i64 (-1))] ())))
def Mbp:Tm Unit :=
(.lt none .len [.v 0] 1 <|
(.lt none (.bin .gtr) [.v 3,.c (.int .i64 6)] 1 <|
(.call (some (.v 4,false)) 79 [.v 0,.v 1,.v 2] 1 [] <|
(.lt none .pick [.v 4,.c (.bool true),.v 5] 1 <|
(.leaf .ret [.v 6] ())))))
def Mbo:Tm Unit :=
(.call none 80 [.v 0,.v 1,.v 2] 1 [] <|
(.lt none (.bin .geq) [.v 3,.c (.int .i64 0)] 1 <|
(.leaf .ret [.v 4] ())))
def Mbn:Tm Unit :=
(.lt none .len [.v 0] 1 <|
(.bind 1
(.loop [.c (.int .i64 0)]
(.lt none (.bin .lss) [.v 4,.v 3] 1 <|
(.ite (.v 5)
(.lt none .inb [.v 0,.v 4] 0 <|
(.lt none (.row 10 0 [true,true,true,true,true,true,true,true,true,false]) [.v 0,.v 4] 10 <|
(.call none 81 [.v 6,.v 7,.v 8,.v 9,.v 10,.v 11,.v 12,.v 13,.v 14,.v 15,.v 1,.v 2] 1 [] <|
(.ite (.v 16)
(.leaf .ret [.v 4] ())
(.lt none (.bin .add) [.v 4,.c (.int .i64 1)] 1 <|
(.leaf .cont [.v 17] ()))))))
(.leaf (.yield 1) [] ())))) <|
(.leaf .ret [.c (.int .i64 (-1))] ())))
def Mbm:Tm Unit :=
(.call none 82 [.v 10,.v 0,.v 1,.v 2,.v 3,.v 4,.v 5,.v 6,.v 7,.v 8,.v 9] 1 [] <|
(.lt none .not [.v 12] 1 <|
(.leaf .ret [.v 13] ())))
def Mbl:Tm Unit :=
(.call none 83 [.v 1,.c (.int .i64 0),.c (.int .i64 9999)] 1 [] <|
(.lt none .not [.v 11] 1 <|
(.lt (some (.v 12,false)) .id [.v 2] 1 <|
(.lt (some (.v 12,false)) .id [.v 1] 1 <|
(.call (some (.v 12,false)) 83 [.v 13,.c (.int .i64 0),.v 14] 1 [] <|
(.lt (some (.v 12,false)) .not [.v 15] 1 <|
(.lt none .pick [.v 12,.c (.bool true),.v 16] 1 <|
(.lt (some (.v 17,false)) .id [.v 3] 1 <|
(.call (some (.v 17,false)) 83 [.v 18,.c (.int .i64 0),.c (.int .i64 3)] 1 [] <|
(.lt (some (.v 17,false)) .not [.v 19] 1 <|
(.lt none .pick [.v 17,.c (.bool true),.v 20] 1 <|
(.call (some (.v 21,false)) 84 [.v 4,.v 5,.v 6,.v 7,.v 8] 1 [] <|
(.lt (some (.v 21,false)) .not [.v 22] 1 <|
(.lt none .pick [.v 21,.c (.bool true),.v 23] 1 <|
(.lt (some (.v 24,false)) .id [.v 0] 1 <|
(.call (some (.v 24,false)) 86 [.v 25,.v 9,.v 10] 1 [] <|
(.lt (some (.v 24,false)) .not [.v 26] 1 <|
(.lt none .pick [.v 24,.c (.bool true),.v 27] 1 <|
(.ite (.v 28)
(.leaf .ret [.c (.bool false)] ())
(.lt none (.bin .neq) [.v 3,.c (.int .i64 0)] 1 <|
(.lt (some (.v 29,false)) .id [.v 2] 1 <|
(.lt (some (.v 29,false)) (.bin .eql) [.v 30,.c (.int .i64 0)] 1 <|
(.lt (some (.v 29,false)) .id [.v 31] 1 <|
(.lt (some (.v 32,true)) (.eqs [0,0,0,0,0]) [.v 4,.v 5,.v 6,.v 7,.v 8,.c (.int .i64 0),.c (.int .i64 0),.c (.int .i64 0),.c (.int .i64 0),.c (.int .i64 0)] 1 <|
(.lt (some (.v 29,false)) .pick [.v 32,.v 33,.c (.bool false)] 1 <|
(.lt (some (.v 29,false)) .id [.v 34] 1 <|
(.lt (some (.v 35,true)) .id [.v 0] 1 <|
(.call (some (.v 35,true)) 90 [.v 36] 2 [] <|
(.call (some (.v 35,true)) 91 [.v 9,.v 10,.v 37,.v 38] 1 [] <|
(.lt (some (.v 29,false)) .pick [.v 35,.v 39,.c (.bool false)] 1 <|
(.lt none .pick [.v 29,.c (.bool true),.v 40] 1 <|
(.leaf .ret [.v 41] ()))))))))))))))))))))))))))))))))
def Mbk:Tm Unit :=
(.lt none (.bin .leq) [.v 1,.v 0] 1 <|
(.lt (some (.v 3,true)) .id [.v 0] 1 <|
(.lt (some (.v 3,true)) .id [.v 2] 1 <|
(.lt (some (.v 3,true)) (.bin .leq) [.v 4,.v 5] 1 <|
(.lt none .pick [.v 3,.v 6,.c (.bool false)] 1 <|
(.leaf .ret [.v 7] ()))))))
def Mbj:Tm Unit :=
(.lt none (.bin .eql) [.v 0,.c (.int .i64 0)] 1 <|
(.ite (.v 5)
(.lt none (.eqs [0,0,0,0,0]) [.v 0,.v 1,.v 2,.v 3,.v 4,.c (.int .i64 0),.c (.int .i64 0),.c (.int .i64 0),.c (.int .i64 0),.c (.int .i64 0)] 1 <|
(.leaf .ret [.v 6] ()))
(.lt none (.bin .eql) [.v 0,.c (.int .i64 1)] 1 <|
(.ite (.v 6)
(.call none 83 [.v 1,.c (.int .i64 1),.c (.int .i64 999)] 1 [] <|
(.lt (some (.v 7,true)) .id [.v 2] 1 <|
(.call (some (.v 7,true)) 85 [.v 8] 1 [] <|
(.lt none .pick [.v 7,.v 9,.c (.bool false)] 1 <|
(.lt (some (.v 10,true)) .id [.v 3] 1 <|
(.call (some (.v 10,true)) 85 [.v 11] 1 [] <|
(.lt none .pick [.v 10,.v 12,.c (.bool false)] 1 <|
(.lt (some (.v 13,true)) .id [.v 2] 1 <|
(.lt (some (.v 13,true)) .id [.v 3] 1 <|
(.lt (some (.v 13,true)) (.bin .neq) [.v 14,.v 15] 1 <|
(.lt none .pick [.v 13,.v 16,.c (.bool false)] 1 <|
(.lt (some (.v 17,true)) .id [.v 4] 1 <|
(.call (some (.v 17,true)) 83 [.v 18,.c (.int .i64 1),.c (.int .i64 1000)] 1 [] <|
(.lt none .pick [.v 17,.v 19,.c (.bool false)] 1 <|
(.leaf .ret [.v 20] ())))))))))))))))
(.lt none (.bin .eql) [.v 0,.c (.int .i64 2)] 1 <|
(.lt (some (.v 7,true)) .id [.v 1] 1 <|
(.call (some (.v 7,true)) 83 [.v 8,.c (.int .i64 1),.c (.int .i64 999)] 1 [] <|
(.lt none .pick [.v 7,.v 9,.c (.bool false)] 1 <|
(.lt (some (.v 10,true)) .id [.v 2] 1 <|
(.call (some (.v 10,true)) 85 [.v 11] 1 [] <|
(.lt none .pick [.v 10,.v 12,.c (.bool false)] 1 <|
(.lt (some (.v 13,true)) .id [.v 3] 1 <|
(.lt (some (.v 13,true)) (.bin .eql) [.v 14,.c (.int .i64 0)] 1 <|
(.lt none .pick [.v 13,.v 15,.c (.bool false)] 1 <|
(.lt (some (.v 16,true)) .id [.v 4] 1 <|
(.lt (some (.v 16,true)) (.bin .eql) [.v 17,.c (.int .i64 0)] 1 <|
(.lt none .pick [.v 16,.v 18,.c (.bool false)] 1 <|
(.leaf .ret [.v 19] ()))))))))))))))))))
def Mbi:Tm Unit :=
(.call none 83 [.v 0,.c (.int .i64 0),.c (.int .i64 3)] 1 [] <|
(.leaf .ret [.v 1] ()))
def Mbh:Tm Unit :=
(.call none 75 [.v 0] 1 [] <|
(.lt (some (.v 3,true)) .id [.v 1] 1 <|
(.call (some (.v 3,true)) 83 [.v 4,.c (.int .i64 0),.c (.int .i64 999)] 1 [] <|
(.lt none .pick [.v 3,.v 5,.c (.bool false)] 1 <|
(.lt (some (.v 6,true)) .len [.v 2] 1 <|
(.lt (some (.v 6,true)) .id [.v 0] 1 <|
(.lt (some (.v 6,true)) (.bin .eql) [.v 7,.v 8] 1 <|
(.lt none .pick [.v 6,.v 9,.c (.bool false)] 1 <|
(.call (some (.v 10,true)) 87 [.v 2] 1 [] <|
(.lt (some (.v 10,true)) .not [.v 11] 1 <|
(.lt none .pick [.v 10,.v 12,.c (.bool false)] 1 <|
(.leaf .ret [.v 13] ()))))))))))))
def Mbg:Tm Unit :=
(.call none 88 [.v 0] 1 [] <|
(.lt none (.bin .geq) [.v 1,.c (.int .i64 0)] 1 <|
(.leaf .ret [.v 2] ())))
def Mbf:Tm Unit :=
(.lt none .len [.v 0] 1 <|
(.bind 1
(.loop [.c (.int .i64 0)]
(.lt none (.bin .lss) [.v 2,.v 1] 1 <|
(.ite (.v 3)
(.lt none .inb [.v 0,.v 2] 0 <|
(.lt none (.row 1 0 [true]) [.v 0,.v 2] 1 <|
(.call none 89 [.v 4] 1 [] <|
(.ite (.v 5)
(.leaf .ret [.v 2] ())
(.lt none (.bin .add) [.v 2,.c (.int .i64 1)] 1 <|
(.leaf .cont [.v 6] ()))))))
(.leaf (.yield 1) [] ())))) <|
(.leaf .ret [.c (.int .i64 (-1))] ())))
def Mbe:Tm Unit :=
(.call none 83 [.v 0,.c (.int .i64 0),.c (.int .i64 6)] 1 [] <|
(.lt none .not [.v 1] 1 <|
(.leaf .ret [.v 2] ())))
def Mbd:Tm Unit :=
(.lt none (.make 8 [(.int .i64 0)]) [.v 0] 1 <|
(.leaf .ret [.c (.int .i64 0),.v 1] ()))
def Mbc:Tm Unit :=
(.lt none (.bin .eql) [.v 0,.v 2] 1 <|
(.call (some (.v 4,true)) 92 [.v 1,.v 3] 1 [] <|
(.lt none .pick [.v 4,.v 5,.c (.bool false)] 1 <|
(.leaf .ret [.v 6] ()))))
def Mbb:Tm Unit :=
(.lt none .len [.v 0] 1 <|
(.lt none .len [.v 1] 1 <|
(.lt none (.bin .neq) [.v 2,.v 3] 1 <|
(.ite (.v 4)
(.leaf .ret [.c (.bool false)] ())
(.lt none .len [.v 0] 1 <|
(.bind 1
(.loop [.c (.int .i64 0)]
(.lt none (.bin .lss) [.v 6,.v 5] 1 <|
(.ite (.v 7)
(.lt none .inb [.v 0,.v 6] 0 <|
(.lt none (.row 1 0 [true]) [.v 0,.v 6] 1 <|
(.lt none .inb [.v 1,.v 6] 0 <|
(.lt none (.row 1 0 [true]) [.v 1,.v 6] 1 <|
(.lt none (.bin .neq) [.v 8,.v 9] 1 <|
(.ite (.v 10)
(.leaf .ret [.c (.bool false)] ())
(.lt none (.bin .add) [.v 6,.c (.int .i64 1)] 1 <|
(.leaf .cont [.v 11] ()))))))))
(.leaf (.yield 1) [] ())))) <|
(.leaf .ret [.c (.bool true)] ())))))))
def Mba:Tm Unit :=
(.call none 94 [.v 0,.v 2,.v 3] 1 [] <|
(.lt none .not [.v 18] 1 <|
(.lt (some (.v 19,false)) .id [.v 4] 1 <|
(.call (some (.v 19,false)) 83 [.v 20,.c (.int .i64 0),.c (.int .i64 9999)] 1 [] <|
(.lt (some (.v 19,false)) .not [.v 21] 1 <|
(.lt none .pick [.v 19,.c (.bool true),.v 22] 1 <|
(.lt (some (.v 23,false)) .id [.v 0] 1 <|
(.call (some (.v 23,false)) 95 [.v 24,.v 16] 1 [] <|
(.lt (some (.v 23,false)) .not [.v 25] 1 <|
(.lt none .pick [.v 23,.c (.bool true),.v 26] 1 <|
(.lt (some (.v 27,false)) .id [.v 1] 1 <|
(.call (some (.v 27,false)) 100 [.v 16,.v 28] 1 [] <|
(.lt (some (.v 27,false)) .not [.v 29] 1 <|
(.lt none .pick [.v 27,.c (.bool true),.v 30] 1 <|
(.lt (some (.v 31,false)) .id [.v 0] 1 <|
(.call (some (.v 31,false)) 86 [.v 32,.v 11,.v 12] 1 [] <|
(.lt (some (.v 31,false)) .not [.v 33] 1 <|
(.lt none .pick [.v 31,.c (.bool true),.v 34] 1 <|
(.lt (some (.v 35,false)) .id [.v 0] 1 <|
(.call (some (.v 35,false)) 86 [.v 36,.v 13,.v 14] 1 [] <|
(.lt (some (.v 35,false)) .not [.v 37] 1 <|
(.lt none .pick [.v 35,.c (.bool true),.v 38] 1 <|
(.ite (.v 39)
(.leaf .ret [.c (.bool false)] ())
(.lt none (.bin .eql) [.v 5,.c (.int .i64 1)] 1 <|
(.ite (.v 40)
(.call none 84 [.v 6,.v 7,.v 8,.v 9,.v 10] 1 [] <|
(.lt (some (.v 41,true)) .len [.v 17] 1 <|
(.lt (some (.v 41,true)) (.bin .eql) [.v 42,.c (.int .i64 0)] 1 <|
(.lt none .pick [.v 41,.v 43,.c (.bool false)] 1 <|
(.leaf .ret [.v 44] ())))))
(.lt none (.bin .eql) [.v 5,.c (.int .i64 2)] 1 <|
(.ite (.v 41)
(.call none 84 [.v 6,.v 7,.v 8,.v 9,.v 10] 1 [] <|
(.lt (some (.v 42,true)) .len [.v 17] 1 <|
(.lt (some (.v 42,true)) (.bin .eql) [.v 43,.c (.int .i64 0)] 1 <|
(.lt none .pick [.v 42,.v 44,.c (.bool false)] 1 <|
(.call (some (.v 45,true)) 91 [.v 11,.v 12,.v 13,.v 14] 1 [] <|
(.lt none .pick [.v 45,.v 46,.c (.bool false)] 1 <|
(.lt (some (.v 47,true)) .id [.v 15] 1 <|
(.lt (some (.v 47,true)) .not [.v 48] 1 <|
(.lt none .pick [.v 47,.v 49,.c (.bool false)] 1 <|
(.leaf .ret [.v 50] ()))))))))))
(.lt none (.bin .eql) [.v 5,.c (.int .i64 3)] 1 <|
(.ite (.v 42)
(.call none 90 [.v 0] 2 [] <|
(.lt none (.eqs [0,0,0,0,0]) [.v 6,.v 7,.v 8,.v 9,.v 10,.c (.int .i64 0),.c (.int .i64 0),.c (.int .i64 0),.c (.int .i64 0),.c (.int .i64 0)] 1 <|
(.call (some (.v 45,true)) 91 [.v 11,.v 12,.v 43,.v 44] 1 [] <|
(.lt none .pick [.v 45,.v 46,.c (.bool false)] 1 <|
(.call (some (.v 47,true)) 91 [.v 13,.v 14,.v 43,.v 44] 1 [] <|
(.lt none .pick [.v 47,.v 48,.c (.bool false)] 1 <|
(.lt (some (.v 49,true)) .id [.v 15] 1 <|
(.lt (some (.v 49,true)) .not [.v 50] 1 <|
(.lt none .pick [.v 49,.v 51,.c (.bool false)] 1 <|
(.lt (some (.v 52,true)) .len [.v 17] 1 <|
(.lt (some (.v 52,true)) .len [.v 16] 1 <|
(.lt (some (.v 52,true)) (.bin .eql) [.v 53,.v 54] 1 <|
(.lt none .pick [.v 52,.v 55,.c (.bool false)] 1 <|
(.call (some (.v 56,true)) 102 [.v 17,.v 0] 1 [] <|
(.lt (some (.v 56,true)) .not [.v 57] 1 <|
(.lt none .pick [.v 56,.v 58,.c (.bool false)] 1 <|
(.leaf .ret [.v 59] ())))))))))))))))))
(.leaf .ret [.c (.bool false)] ()))))))))))))))))))))))))))))))
def Lb9:Tm Unit :=
(.call none 75 [.v 0] 1 [] <|
(.lt (some (.v 3,true)) .id [.v 1] 1 <|
(.lt (some (.v 3,true)) .id [.v 0] 1 <|
(.lt (some (.v 3,true)) (.bin .sub) [.v 5,.c (.int .i64 1)] 1 <|
(.call (some (.v 3,true)) 83 [.v 4,.c (.int .i64 0),.v 6] 1 [] <|
(.lt none .pick [.v 3,.v 7,.c (.bool false)] 1 <|
(.lt (some (.v 8,true)) .id [.v 2] 1 <|
(.call (some (.v 8,true)) 83 [.v 9,.c (.int .i64 1),.c (.int .i64 6)] 1 [] <|
(.lt none .pick [.v 8,.v 10,.c (.bool false)] 1 <|
(.leaf .ret [.v 11] ()))))))))))
def Lb8:Tm Unit :=
(.call none 96 [.v 1] 1 [] <|
(.call (some (.v 2,true)) 97 [.v 1,.v 0] 1 [] <|
(.lt (some (.v 2,true)) .not [.v 3] 1 <|
(.lt none .pick [.v 2,.v 4,.c (.bool false)] 1 <|
(.leaf .ret [.v 5] ())))))
def Lb7:Tm Unit :=
(.bind 1
(.loop [.c (.int .i64 1)]
(.lt none .len [.v 0] 1 <|
(.lt none (.bin .lss) [.v 1,.v 2] 1 <|
(.ite (.v 3)
(.lt none .inb [.v 0,.v 1] 0 <|
(.lt none (.row 1 0 [true]) [.v 0,.v 1] 1 <|
(.lt none (.bin .sub) [.v 1,.c (.int .i64 1)] 1 <|
(.lt none .inb [.v 0,.v 5] 0 <|
(.lt none (.row 1 0 [true]) [.v 0,.v 5] 1 <|
(.lt none (.bin .leq) [.v 4,.v 6] 1 <|
(.ite (.v 7)
(.leaf .ret [.c (.bool false)] ())
(.lt none (.bin .add) [.v 1,.c (.int .i64 1)] 1 <|
(.leaf .cont [.v 8] ())))))))))
(.leaf (.yield 1) [] ()))))) <|
(.leaf .ret [.c (.bool true)] ()))
def Lb6:Tm Unit :=
(.call none 98 [.v 0,.v 1] 1 [] <|
(.lt none (.bin .geq) [.v 2,.c (.int .i64 0)] 1 <|
(.leaf .ret [.v 3] ())))
def Lb5:Tm Unit :=
(.lt none .len [.v 0] 1 <|
(.bind 1
(.loop [.c (.int .i64 0)]
(.lt none (.bin .lss) [.v 3,.v 2] 1 <|
(.ite (.v 4)
(.lt none .inb [.v 0,.v 3] 0 <|
(.lt none (.row 1 0 [true]) [.v 0,.v 3] 1 <|
(.call none 99 [.v 5,.v 1] 1 [] <|
(.ite (.v 6)
(.leaf .ret [.v 3] ())
(.lt none (.bin .add) [.v 3,.c (.int .i64 1)] 1 <|
(.leaf .cont [.v 7] ()))))))
(.leaf (.yield 1) [] ())))) <|
(.leaf .ret [.c (.int .i64 (-1))] ())))
def Lb4:Tm Unit :=
(.lt none (.bin .sub) [.v 1,.c (.int .i64 1)] 1 <|
(.call none 83 [.v 0,.c (.int .i64 0),.v 2] 1 [] <|
(.lt none .not [.v 3] 1 <|
(.leaf .ret [.v 4] ()))))
def Cbt:Tm Unit :=
(.call none 101 [.v 0,.v 1] 1 [] <|
(.lt none (.bin .geq) [.v 2,.c (.int .i64 0)] 1 <|
(.leaf .ret [.v 3] ())))
def Cbs:Tm Unit :=
(.lt none .len [.v 0] 1 <|
(.bind 1
(.loop [.c (.int .i64 0)]
(.lt none (.bin .lss) [.v 3,.v 2] 1 <|
(.ite (.v 4)
(.lt none .inb [.v 0,.v 3] 0 <|
(.lt none (.row 1 0 [true]) [.v 0,.v 3] 1 <|
(.lt none (.bin .eql) [.v 1,.v 5] 1 <|
(.ite (.v 6)
(.leaf .ret [.v 3] ())
(.lt none (.bin .add) [.v 3,.c (.int .i64 1)] 1 <|
(.leaf .cont [.v 7] ()))))))
(.leaf (.yield 1) [] ())))) <|
(.leaf .ret [.c (.int .i64 (-1))] ())))
def Cbr:Tm Unit :=
(.call none 103 [.v 0,.v 1] 1 [] <|
(.lt none (.bin .geq) [.v 2,.c (.int .i64 0)] 1 <|
(.leaf .ret [.v 3] ())))
def Cbq:Tm Unit :=
(.lt none .len [.v 0] 1 <|
(.bind 1
(.loop [.c (.int .i64 0)]
(.lt none (.bin .lss) [.v 3,.v 2] 1 <|
(.ite (.v 4)
(.lt none .inb [.v 0,.v 3] 0 <|
(.lt none (.row 10 0 [true,true,true,true,true,true,true,true,true,false]) [.v 0,.v 3] 10 <|
(.call none 104 [.v 5,.v 6,.v 7,.v 8,.v 9,.v 10,.v 11,.v 12,.v 13,.v 14,.v 1] 1 [] <|
(.ite (.v 15)
(.leaf .ret [.v 3] ())
(.lt none (.bin .add) [.v 3,.c (.int .i64 1)] 1 <|
(.leaf .cont [.v 16] ()))))))
(.leaf (.yield 1) [] ())))) <|
(.leaf .ret [.c (.int .i64 (-1))] ())))
def Cbp:Tm Unit :=
(.call none 82 [.v 10,.v 0,.v 1,.v 2,.v 3,.v 4,.v 5,.v 6,.v 7,.v 8,.v 9] 1 [] <|
(.lt none .not [.v 11] 1 <|
(.lt (some (.v 12,false)) .id [.v 2] 1 <|
(.lt (some (.v 12,false)) (.bin .eql) [.v 13,.c (.int .i64 3)] 1 <|
(.lt none .pick [.v 12,.c (.bool true),.v 14] 1 <|
(.leaf .ret [.v 15] ()))))))
def Cbo:Tm Unit :=
(.lt none .len [.v 0] 1 <|
(.bind 1
(.loop [.c (.int .i64 0)]
(.lt none (.bin .lss) [.v 3,.v 2] 1 <|
(.ite (.v 4)
(.lt none .inb [.v 0,.v 3] 0 <|
(.lt none (.row 1 0 [true]) [.v 0,.v 3] 1 <|
(.lt none .len [.v 1] 1 <|
(.lt none (.bin .geq) [.v 3,.v 6] 1 <|
(.ite (.v 7)
(.leaf .ret [.c (.int .i64 1)] ())
(.lt none .inb [.v 1,.v 3] 0 <|
(.lt none (.row 1 0 [true]) [.v 1,.v 3] 1 <|
(.call none 106 [.v 5,.v 8] 1 [] <|
(.lt none (.bin .neq) [.v 9,.c (.int .i64 0)] 1 <|
(.ite (.v 10)
(.leaf .ret [.v 9] ())
(.lt none (.bin .add) [.v 3,.c (.int .i64 1)] 1 <|
(.leaf .cont [.v 11] ()))))))))))))
(.leaf (.yield 1) [] ())))) <|
(.lt none .len [.v 0] 1 <|
(.lt none .len [.v 1] 1 <|
(.lt none (.bin .lss) [.v 3,.v 4] 1 <|
(.ite (.v 5)
(.leaf .ret [.c (.int .i64 (-1))] ())
(.leaf .ret [.c (.int .i64 0)] ())))))))
def Cbn:Tm Unit :=
(.call none 107 [.v 0] 1 [] <|
(.call none 107 [.v 1] 1 [] <|
(.ite (.v 2)
(.ite (.v 3)
(.leaf .ret [.c (.int .i64 0)] ())
(.leaf .ret [.c (.int .i64 (-1))] ()))
(.ite (.v 3)
(.leaf .ret [.c (.int .i64 1)] ())
(.lt none (.bin .lss) [.v 0,.v 1] 1 <|
(.ite (.v 4)
(.leaf .ret [.c (.int .i64 (-1))] ())
(.lt none (.bin .gtr) [.v 0,.v 1] 1 <|
(.ite (.v 5)
(.leaf .ret [.c (.int .i64 1)] ())
(.leaf .ret [.c (.int .i64 0)] ())))))))))
def Cbm:Tm Unit :=
(.lt none (.bin .neq) [.v 0,.v 0] 1 <|
(.leaf .ret [.v 1] ()))
def Cbl:Tm Unit :=
(.call none 109 [.v 0,.v 1,.v 2,.v 3] 4 [] <|
(.leaf .ret [.v 4,.v 5,.v 6,.v 7,.c (.rows 15 []),.c (.bool false)] ()))
def Cbk:Tm Unit :=
(.call none 110 [.v 1,.v 2] 2 [] <|
(.lt none .len [.v 3] 1 <|
(.bind 1
(.loop [.c (.int .i64 0),.c (.rows 16 [])]
(.lt none (.bin .lss) [.v 7,.v 6] 1 <|
(.ite (.v 9)
(.lt none .inb [.v 3,.v 7] 0 <|
(.lt none (.row 16 0 [true,true,true,true,true,true,true,true,true,true,false,true,false,true,false,false]) [.v 3,.v 7] 16 <|
(.call none 115 [.v 10,.v 11,.v 12,.v 13,.v 14,.v 15,.v 16,.v 17,.v 18,.v 19,.v 20,.v 21,.v 22,.v 23,.v 24,.v 25] 16 [] <|
(.lt none (.mk 16 1) [.v 26,.v 27,.v 28,.v 29,.v 30,.v 31,.v 32,.v 33,.v 34,.v 35,.v 36,.v 37,.v 38,.v 39,.v 40,.v 41] 1 <|
(.lt none (.app 16 192 false) [.v 8,.v 42] 1 <|
(.lt none (.bin .add) [.v 7,.c (.int .i64 1)] 1 <|
(.leaf .cont [.v 44,.v 43] ())))))))
(.leaf (.yield 1) [.v 8] ())))) <|
(.leaf .ret [.v 0,.v 4,.v 5,.v 7] ()))))
def Cbj:Tm Unit :=
(.lt none .len [.v 1] 1 <|
(.bind 1
(.loop [.c (.int .i64 0),.c (.rows 1 [])]
(.lt none (.bin .lss) [.v 3,.v 2] 1 <|
(.ite (.v 5)
(.lt none .inb [.v 1,.v 3] 0 <|
(.lt none (.row 1 0 [false]) [.v 1,.v 3] 1 <|
(.call none 111 [.v 6] 1 [] <|
(.lt none (.mk 1 1) [.v 7] 1 <|
(.lt none (.app 1 24 false) [.v 4,.v 8] 1 <|
(.lt none (.bin .add) [.v 3,.c (.int .i64 1)] 1 <|
(.leaf .cont [.v 10,.v 9] ())))))))
(.leaf (.yield 1) [.v 4] ())))) <|
(.leaf .ret [.v 0,.v 3] ())))
def Cbi:Tm Unit :=
(.lt none (.mk 10 0) [] 1 <|
(.lt none .len [.v 0] 1 <|
(.bind 1
(.loop [.v 1,.c (.int .i64 0)]
(.lt none (.bin .lss) [.v 4,.v 2] 1 <|
(.ite (.v 5)
(.lt none .inb [.v 0,.v 4] 0 <|
(.lt none (.row 10 0 [true,true,true,true,true,true,true,true,true,false]) [.v 0,.v 4] 10 <|
(.call none 112 [.v 6,.v 7,.v 8,.v 9,.v 10,.v 11,.v 12,.v 13,.v 14,.v 15] 10 [] <|
(.lt none (.mk 10 1) [.v 16,.v 17,.v 18,.v 19,.v 20,.v 21,.v 22,.v 23,.v 24,.v 25] 1 <|
(.lt none (.app 10 96 false) [.v 3,.v 26] 1 <|
(.lt none (.bin .add) [.v 4,.c (.int .i64 1)] 1 <|
(.leaf .cont [.v 27,.v 28] ())))))))
(.leaf (.yield 1) [.v 3] ())))) <|
(.leaf .ret [.v 3] ()))))
def Cbh:Tm Unit :=
(.call none 113 [.v 8,.v 9] 2 [] <|
(.leaf .ret [.v 0,.v 1,.v 2,.v 3,.v 4,.v 5,.v 6,.v 7,.v 10,.v 11] ()))
def Cbg:Tm Unit :=
(.call none 114 [.v 1] 1 [] <|
(.leaf .ret [.v 0,.v 2] ()))
def Uax:Tm Unit :=
(.lt none .ne [.v 0] 0 <|
(.lt none .emp [.v 0] 1 <|
(.ite (.v 1)
(.leaf .ret [.c (.rows 1 [])] ())
(.lt none (.mk 1 0) [] 1 <|
(.lt none (.app 1 8 true) [.v 2,.v 0] 1 <|
(.leaf .ret [.v 3] ()))))))
def Cbf:Tm Unit :=
(.call none 113 [.v 9,.v 10] 2 [] <|
(.call none 113 [.v 11,.v 12] 2 [] <|
(.call none 114 [.v 14] 1 [] <|
(.call none 111 [.v 15] 1 [] <|
(.leaf .ret [.v 0,.v 1,.v 2,.v 3,.v 4,.v 5,.v 6,.v 7,.v 8,.v 16,.v 17,.v 18,.v 19,.v 13,.v 20,.v 21] ())))))
def Cbe:Tm Unit :=
(.call none 90 [.v 0] 2 [] <|
(.call none 117 [.v 0,.v 1,.v 7,.v 8,.v 2,.v 3,.v 4,.v 5,.v 6,.v 9,.v 10] 2 [] <|
(.lt none (.bin .add) [.v 11,.c (.int .i64 1)] 1 <|
(.lt none (.bin .leq) [.v 13,.c (.int .i64 999)] 1 <|
(.leaf .ret [.v 13,.v 12,.v 14] ())))))
def Cbd:Tm Unit :=
(.lt none .len [.v 1] 1 <|
(.bind 1
(.loop [.c (.int .i64 0),.v 9,.v 10]
(.lt none (.bin .lss) [.v 12,.v 11] 1 <|
(.ite (.v 15)
(.lt none .inb [.v 1,.v 12] 0 <|
(.lt none (.row 1 0 [false]) [.v 1,.v 12] 1 <|
(.lt none .len [.v 16] 1 <|
(.bind 3
(.loop [.c (.int .i64 0),.v 13,.v 14]
(.lt none (.bin .lss) [.v 18,.v 17] 1 <|
(.ite (.v 21)
(.lt none .inb [.v 16,.v 18] 0 <|
(.lt none (.row 10 0 [true,true,true,true,true,true,true,true,true,false]) [.v 16,.v 18] 10 <|
(.lt none (.bin .add) [.v 18,.c (.int .i64 1)] 1 <|
(.call none 118 [.v 12,.v 32,.v 22,.v 23,.v 24,.v 25,.v 26,.v 27,.v 28,.v 29,.v 30,.v 31,.v 2,.v 3,.v 4,.v 5,.v 6,.v 7,.v 8,.v 19,.v 20] 2 [] <|
(.lt none (.bin .add) [.v 18,.c (.int .i64 1)] 1 <|
(.leaf .cont [.v 35,.v 33,.v 34] ()))))))
(.leaf (.yield 3) [.v 19,.v 20] ())))) <|
(.lt none (.bin .add) [.v 12,.c (.int .i64 1)] 1 <|
(.leaf .cont [.v 20,.v 18,.v 19] ()))))))
(.leaf (.yield 1) [.v 13,.v 14] ())))) <|
(.leaf .ret [.v 12,.v 13] ())))
def Cbc:Tm Unit :=
(.lt none (.bin .neq) [.v 0,.v 12] 1 <|
(.lt (some (.v 21,false)) .id [.v 1] 1 <|
(.lt (some (.v 21,false)) .id [.v 13] 1 <|
(.lt (some (.v 21,false)) (.bin .neq) [.v 22,.v 23] 1 <|
(.lt none .pick [.v 21,.c (.bool true),.v 24] 1 <|
(.lt (some (.v 25,true)) .id [.v 4] 1 <|
(.lt (some (.v 25,true)) (.bin .neq) [.v 26,.c (.int .i64 0)] 1 <|
(.lt none .pick [.v 25,.v 27,.c (.bool false)] 1 <|
(.call (some (.v 28,true)) 119 [.v 5,.v 6,.v 7,.v 8,.v 9,.v 14,.v 15,.v 16,.v 17,.v 18] 1 [] <|
(.lt none .pick [.v 28,.v 29,.c (.bool false)] 1 <|
(.ite (.v 30)
(.lt none .inb [.v 20,.v 0] 0 <|
(.lt none (.row 1 0 [true]) [.v 20,.v 0] 1 <|
(.lt none .max [.v 31,.v 1] 1 <|
(.lt none .max [.v 19,.v 10] 1 <|
(.lt none .inb [.v 20,.v 0] 0 <|
(.lt none (.set 1 0 1) [.v 20,.v 0,.v 32] 1 <|
(.leaf .ret [.v 33,.v 34] ())))))))
(.leaf .ret [.v 19,.v 20] ()))))))))))))
def Cbb:Tm Unit :=
(.call none 120 [.v 0,.v 1,.v 2,.v 3,.v 4] 1 [] <|
(.call none 121 [.v 10,.v 5,.v 6,.v 7,.v 8,.v 9] 1 [] <|
(.leaf .ret [.v 11] ())))
def Cba:Tm Unit :=
(.lt none (.bin .eql) [.v 0,.c (.int .i64 1)] 1 <|
(.ite (.v 5)
(.lt none .min [.v 2,.v 3] 1 <|
(.lt none .max [.v 2,.v 3] 1 <|
(.lt none (.mk 1 2) [.v 6,.v 7] 1 <|
(.leaf .ret [.v 8] ()))))
(.lt none (.bin .eql) [.v 0,.c (.int .i64 2)] 1 <|
(.ite (.v 6)
(.lt none (.mk 1 1) [.v 2] 1 <|
(.leaf .ret [.v 7] ()))
(.lt none (.mk 1 0) [] 1 <|
(.leaf .ret [.v 7] ()))))))
def Bb9:Tm Unit :=
(.call none 122 [.v 0,.v 1,.v 2,.v 3,.v 4,.v 5] 1 [] <|
(.lt none (.bin .geq) [.v 6,.c (.int .i64 0)] 1 <|
(.leaf .ret [.v 7] ())))
def Bb8:Tm Unit :=
(.lt none .len [.v 0] 1 <|
(.bind 1
(.loop [.c (.int .i64 0)]
(.lt none (.bin .lss) [.v 7,.v 6] 1 <|
(.ite (.v 8)
(.lt none .inb [.v 0,.v 7] 0 <|
(.lt none (.row 1 0 [true]) [.v 0,.v 7] 1 <|
(.call none 123 [.v 9,.v 1,.v 2,.v 3,.v 4,.v 5] 1 [] <|
(.ite (.v 10)
(.leaf .ret [.v 7] ())
(.lt none (.bin .add) [.v 7,.c (.int .i64 1)] 1 <|
(.leaf .cont [.v 11] ()))))))
(.leaf (.yield 1) [] ())))) <|
(.leaf .ret [.c (.int .i64 (-1))] ())))
def Bb7:Tm Unit :=
(.call none 120 [.v 1,.v 2,.v 3,.v 4,.v 5] 1 [] <|
(.call none 100 [.v 6,.v 0] 1 [] <|
(.leaf .ret [.v 7] ())))
def Bb6:Tm Unit :=
(.call none 125 [.v 0,.v 1,.v 2,.v 2,.c (.int .i64 1),.v 3,.v 4,.v 5,.v 6,.v 7,.v 8,.v 9,.v 11,.v 12] 2 [] <|
(.lt none (.mk 1 1) [.v 10] 1 <|
(.call none 126 [.v 0,.v 1,.v 2,.c (.int .i64 1),.v 3,.v 4,.v 5,.v 6,.v 7,.v 8,.v 9,.v 8,.v 9,.c (.bool true),.v 18,.c (.rows 10 []),.v 10,.v 16,.v 17,.v 13,.v 14,.v 15] 6 [] <|
(.lt none (.dep 99) [.v 21] 0 <|
(.lt none (.dep 99) [.v 22] 0 <|
(.lt none (.dep 99) [.v 23] 0 <|
(.lt none .ne [.v 9] 0 <|
(.call none 133 [.c (.int .i64 1),.c (.int .i64 0),.c (.int .i64 0),.v 0,.v 1,.v 2,.c (.int .i64 0),.c (.int .i64 0),.v 3,.v 4,.v 5,.v 6,.v 7,.v 8,.v 9,.v 19,.v 20,.v 21,.v 22,.v 23,.v 24] 6 [] <|
(.leaf .ret [.v 25,.v 26,.v 27,.v 28,.v 29,.v 30] ())))))))))
def Bb5:Tm Unit :=
(.bind 1
(.loop [.v 13]
(.lt none .inb [.v 14,.v 0] 0 <|
(.lt none (.row 1 0 [false]) [.v 14,.v 0] 1 <|
(.lt none .len [.v 15] 1 <|
(.lt none (.bin .lss) [.v 16,.v 1] 1 <|
(.ite (.v 17)
(.lt none .inb [.v 14,.v 0] 0 <|
(.lt none (.row 1 0 [false]) [.v 14,.v 0] 1 <|
(.call none 90 [.v 12] 2 [] <|
(.lt none (.mk 10 1) [.c (.int .i64 0),.c (.int .i64 0),.c (.int .i64 0),.c (.int .i64 0),.c (.int .i64 0),.c (.int .i64 0),.c (.int .i64 0),.c (.int .i64 0),.v 19,.v 20] 1 <|
(.lt none (.set 1 0 1) [.v 14,.v 0,.c .hole] 1 <|
(.lt none (.app 10 96 false) [.v 18,.v 21] 1 <|
(.lt none .inb [.v 22,.v 0] 0 <|
(.lt none (.set 1 0 1) [.v 22,.v 0,.v 23] 1 <|
(.leaf .cont [.v 24] ())))))))))
(.leaf (.yield 1) [.v 14] ()))))))) <|
(.lt none .inb [.v 14,.v 0] 0 <|
(.lt none (.row 1 0 [false]) [.v 14,.v 0] 1 <|
(.lt none (.bin .sub) [.v 1,.c (.int .i64 1)] 1 <|
(.call none 112 [.v 2,.v 3,.v 4,.v 5,.v 6,.v 7,.v 8,.v 9,.v 10,.v 11] 10 [] <|
(.lt none .inb [.v 15,.v 16] 0 <|
(.lt none (.set 10 0 10) [.v 15,.v 16,.v 17,.v 18,.v 19,.v 20,.v 21,.v 22,.v 23,.v 24,.v 25,.v 26] 1 <|
(.lt none (.set 1 0 1) [.v 14,.v 0,.v 27] 1 <|
(.leaf .ret [.v 12,.v 28] ())))))))))
def Bb4:Tm Unit :=
(.call none 127 [.v 0,.v 1,.v 16,.v 17,.v 18,.v 19,.v 20,.v 21] 6 [] <|
(.call none 128 [.v 0,.v 1,.v 22,.v 23,.v 24,.v 25,.v 26,.v 27] 2 [] <|
(.call none 115 [.v 0,.v 1,.v 2,.v 3,.v 4,.v 5,.v 6,.v 7,.v 8,.v 9,.v 10,.v 11,.v 12,.v 13,.v 14,.v 15] 16 [] <|
(.lt none (.mk 16 1) [.v 30,.v 31,.v 32,.v 33,.v 34,.v 35,.v 36,.v 37,.v 38,.v 39,.v 40,.v 41,.v 42,.v 43,.v 44,.v 45] 1 <|
(.call none 132 [.v 25,.v 28,.v 46] 1 [] <|
(.leaf .ret [.v 22,.v 23,.v 24,.v 47,.v 26,.v 27] ()))))))
def Bb3:Tm Unit :=
(.call none 128 [.v 0,.v 1,.v 2,.v 3,.v 4,.v 5,.v 6,.v 7] 2 [] <|
(.ite (.v 9)
(.lt none (.bin .add) [.v 8,.c (.int .i64 1)] 1 <|
(.call none 131 [.v 5,.v 8,.v 10] 1 [] <|
(.leaf .ret [.v 2,.v 3,.v 4,.v 11,.v 6,.v 7] ())))
(.leaf .ret [.v 2,.v 3,.v 4,.v 5,.v 6,.v 7] ())))
def Bb2:Tm Unit :=
(.lt none (.mk 1 2) [.v 0,.v 1] 1 <|
(.call none 129 [.v 5,.v 8] 2 [] <|
(.leaf .ret [.v 9,.v 10] ())))
def Bb1:Tm Unit :=
(.lt none .len [.v 0] 1 <|
(.bind 1
(.loop [.c (.int .i64 0),.v 2]
(.lt none (.bin .lss) [.v 3,.v 4] 1 <|
(.ite (.v 5)
(.lt none (.bin .add) [.v 3,.v 4] 1 <|
(.lt none (.conv .u64) [.v 6] 1 <|
(.lt none (.bin .shr) [.v 7,.c (.int .u64 1)] 1 <|
(.lt none (.conv .i64) [.v 8] 1 <|
(.lt none .inb [.v 0,.v 9] 0 <|
(.lt none (.row 16 0 [true,true,true,true,true,true,true,true,true,true,false,true,false,true,false,false]) [.v 0,.v 9] 16 <|
(.call none 130 [.v 10,.v 11,.v 12,.v 13,.v 14,.v 15,.v 16,.v 17,.v 18,.v 19,.v 20,.v 21,.v 22,.v 23,.v 24,.v 25,.v 1] 1 [] <|
(.lt none (.bin .lss) [.v 26,.c (.int .i64 0)] 1 <|
(.ite (.v 27)
(.lt none (.bin .add) [.v 9,.c (.int .i64 1)] 1 <|
(.leaf .cont [.v 28,.v 4] ()))
(.leaf .cont [.v 3,.v 9] ()))))))))))
(.leaf (.yield 1) [.v 3] ())))) <|
(.lt none (.bin .lss) [.v 3,.v 2] 1 <|
(.lt (some (.v 4,true)) .id [.v 3] 1 <|
(.lt (some (.v 4,true)) .inb [.v 0,.v 5] 0 <|
(.lt (some (.v 4,true)) (.row 16 0 [true,true,true,true,true,true,true,true,true,true,false,true,false,true,false,false]) [.v 0,.v 5] 16 <|
(.call (some (.v 4,true)) 130 [.v 6,.v 7,.v 8,.v 9,.v 10,.v 11,.v 12,.v 13,.v 14,.v 15,.v 16,.v 17,.v 18,.v 19,.v 20,.v 21,.v 1] 1 [] <|
(.lt (some (.v 4,true)) (.bin .eql) [.v 22,.c (.int .i64 0)] 1 <|
(.lt none .pick [.v 4,.v 23,.c (.bool false)] 1 <|
(.leaf .ret [.v 3,.v 24] ()))))))))))
def Bb0:Tm Unit :=
(.lt none (.mk 1 2) [.v 0,.v 1] 1 <|
(.call none 105 [.v 17,.v 16] 1 [] <|
(.leaf .ret [.v 18] ())))
def Sb6:Tm Unit:=.stuck
def Sb5:Tm Unit:=.stuck
def Uaw:Tm Unit :=
(.bind 1
(.loop [.c (.int .i64 0),.v 15,.v 16,.v 17,.v 18,.v 19,.v 20]
(.lt none (.bin .lss) [.v 21,.v 16] 1 <|
(.ite (.v 28)
(.bind 0
(.lt none (.bin .neq) [.v 21,.v 22] 1 <|
(.ite (.v 29)
(.call none 134 [.v 0,.v 1,.v 2,.v 3,.v 4,.v 5,.v 6,.v 7,.v 8,.v 9,.v 10,.v 11,.v 12,.v 13,.v 14,.v 21,.v 22,.v 23,.v 24,.v 25,.v 26,.v 27] 6 [] <|
(.leaf (.yield 0) [.v 30,.v 31,.v 32,.v 33,.v 34,.v 35] ()))
(.leaf (.yield 0) [.v 22,.v 23,.v 24,.v 25,.v 26,.v 27] ()))) <|
(.lt none (.bin .add) [.v 21,.c (.int .i64 1)] 1 <|
(.leaf .cont [.v 35,.v 29,.v 30,.v 31,.v 32,.v 33,.v 34] ())))
(.leaf (.yield 1) [.v 22,.v 23,.v 24,.v 25,.v 26,.v 27] ())))) <|
(.leaf .ret [.v 21,.v 22,.v 23,.v 24,.v 25,.v 26] ()))
def Uav:Tm Unit :=
(.bind 0
(.lt none .emp [.v 14] 1 <|
(.ite (.v 22)
(.call none 90 [.v 17] 2 [] <|
(.leaf (.yield 0) [.v 23,.v 24] ()))
(.leaf (.yield 0) [.v 13,.v 14] ()))) <|
(.call none 135 [.v 0,.v 16,.v 15,.v 3,.v 4,.v 5,.v 6,.v 7,.v 8,.v 9,.v 10,.v 11,.v 12,.v 22,.v 23] 15 [] <|
(.lt none (.mk 15 1) [.v 24,.v 25,.v 26,.v 27,.v 28,.v 29,.v 30,.v 31,.v 32,.v 33,.v 34,.v 35,.v 36,.v 37,.v 38] 1 <|
(.lt none (.app 15 136 false) [.v 20,.v 39] 1 <|
(.leaf .ret [.v 16,.v 17,.v 18,.v 19,.v 40,.v 21] ())))))
def Bbz:Tm Unit :=
(.call none 113 [.v 13,.v 14] 2 [] <|
(.leaf .ret [.v 0,.v 1,.v 2,.v 3,.v 4,.v 5,.v 6,.v 7,.v 8,.v 9,.v 10,.v 11,.v 12,.v 15,.v 16] ()))
def Bby:Tm Unit :=
(.ite (.v 5)
(.leaf .ret [.c (.int .i64 0),.c (.int .i64 0),.c (.rows 1 []),.c (.rows 16 []),.c (.rows 15 []),.c (.bool false),.v 0,.v 1,.c .hole,.c .hole,.c .hole,.v 5] ())
(.leaf .ret [.v 0,.v 1,.v 2,.v 3,.v 4,.c (.bool true),.v 0,.v 1,.c .hole,.c .hole,.c .hole,.v 5] ()))
def Bbx:Tm Unit :=
(.lt none (.bin .neq) [.v 0,.v 4] 1 <|
(.call (some (.v 8,false)) 138 [.v 1,.v 2,.v 5,.v 6] 1 [] <|
(.lt (some (.v 8,false)) .not [.v 9] 1 <|
(.lt none .pick [.v 8,.c (.bool true),.v 10] 1 <|
(.lt (some (.v 11,false)) .len [.v 3] 1 <|
(.lt (some (.v 11,false)) .len [.v 7] 1 <|
(.lt (some (.v 11,false)) (.bin .neq) [.v 12,.v 13] 1 <|
(.lt none .pick [.v 11,.c (.bool true),.v 14] 1 <|
(.ite (.v 15)
(.leaf .ret [.c (.bool false)] ())
(.lt none .len [.v 3] 1 <|
(.bind 1
(.loop [.c (.int .i64 0)]
(.lt none (.bin .lss) [.v 17,.v 16] 1 <|
(.ite (.v 18)
(.lt none .inb [.v 3,.v 17] 0 <|
(.lt none (.row 16 0 [true,true,true,true,true,true,true,true,true,true,false,true,false,true,false,false]) [.v 3,.v 17] 16 <|
(.lt none .inb [.v 7,.v 17] 0 <|
(.lt none (.row 16 0 [true,true,true,true,true,true,true,true,true,true,false,true,false,true,false,false]) [.v 7,.v 17] 16 <|
(.call none 143 [.v 19,.v 20,.v 21,.v 22,.v 23,.v 24,.v 25,.v 26,.v 27,.v 28,.v 29,.v 30,.v 31,.v 32,.v 33,.v 34,.v 35,.v 36,.v 37,.v 38,.v 39,.v 40,.v 41,.v 42,.v 43,.v 44,.v 45,.v 46,.v 47,.v 48,.v 49,.v 50] 1 [] <|
(.lt none .not [.v 51] 1 <|
(.ite (.v 52)
(.leaf .ret [.c (.bool false)] ())
(.lt none (.bin .add) [.v 17,.c (.int .i64 1)] 1 <|
(.leaf .cont [.v 53] ())))))))))
(.leaf (.yield 1) [] ())))) <|
(.leaf .ret [.c (.bool true)] ()))))))))))))
def Bbw:Tm Unit :=
(.lt none (.bin .neq) [.v 0,.v 2] 1 <|
(.lt (some (.v 4,false)) .len [.v 1] 1 <|
(.lt (some (.v 4,false)) .len [.v 3] 1 <|
(.lt (some (.v 4,false)) (.bin .neq) [.v 5,.v 6] 1 <|
(.lt none .pick [.v 4,.c (.bool true),.v 7] 1 <|
(.ite (.v 8)
(.leaf .ret [.c (.bool false)] ())
(.lt none .len [.v 1] 1 <|
(.bind 1
(.loop [.c (.int .i64 0)]
(.lt none (.bin .lss) [.v 10,.v 9] 1 <|
(.ite (.v 11)
(.lt none .inb [.v 1,.v 10] 0 <|
(.lt none (.row 1 0 [false]) [.v 1,.v 10] 1 <|
(.lt none .inb [.v 3,.v 10] 0 <|
(.lt none (.row 1 0 [false]) [.v 3,.v 10] 1 <|
(.call none 139 [.v 12,.v 13] 1 [] <|
(.lt none .not [.v 14] 1 <|
(.ite (.v 15)
(.leaf .ret [.c (.bool false)] ())
(.lt none (.bin .add) [.v 10,.c (.int .i64 1)] 1 <|
(.leaf .cont [.v 16] ())))))))))
(.leaf (.yield 1) [] ())))) <|
(.leaf .ret [.c (.bool true)] ())))))))))
def Bbv:Tm Unit :=
(.lt none .len [.v 0] 1 <|
(.lt none .len [.v 1] 1 <|
(.lt none (.bin .neq) [.v 2,.v 3] 1 <|
(.ite (.v 4)
(.leaf .ret [.c (.bool false)] ())
(.lt none .len [.v 0] 1 <|
(.bind 1
(.loop [.c (.int .i64 0)]
(.lt none (.bin .lss) [.v 6,.v 5] 1 <|
(.ite (.v 7)
(.lt none .inb [.v 0,.v 6] 0 <|
(.lt none (.row 10 0 [true,true,true,true,true,true,true,true,true,false]) [.v 0,.v 6] 10 <|
(.lt none .inb [.v 1,.v 6] 0 <|
(.lt none (.row 10 0 [true,true,true,true,true,true,true,true,true,false]) [.v 1,.v 6] 10 <|
(.call none 140 [.v 8,.v 9,.v 10,.v 11,.v 12,.v 13,.v 14,.v 15,.v 16,.v 17,.v 18,.v 19,.v 20,.v 21,.v 22,.v 23,.v 24,.v 25,.v 26,.v 27] 1 [] <|
(.lt none .not [.v 28] 1 <|
(.ite (.v 29)
(.leaf .ret [.c (.bool false)] ())
(.lt none (.bin .add) [.v 6,.c (.int .i64 1)] 1 <|
(.leaf .cont [.v 30] ())))))))))
(.leaf (.yield 1) [] ())))) <|
(.leaf .ret [.c (.bool true)] ())))))))
def Bbu:Tm Unit :=
(.lt none (.bin .eql) [.v 0,.v 10] 1 <|
(.lt (some (.v 20,true)) .id [.v 1] 1 <|
(.lt (some (.v 20,true)) .id [.v 11] 1 <|
(.lt (some (.v 20,true)) (.bin .eql) [.v 21,.v 22] 1 <|
(.lt none .pick [.v 20,.v 23,.c (.bool false)] 1 <|
(.lt (some (.v 24,true)) .id [.v 2] 1 <|
(.lt (some (.v 24,true)) .id [.v 12] 1 <|
(.lt (some (.v 24,true)) (.bin .eql) [.v 25,.v 26] 1 <|
(.lt none .pick [.v 24,.v 27,.c (.bool false)] 1 <|
(.lt (some (.v 28,true)) (.eqs [0,0,0,0,0]) [.v 3,.v 4,.v 5,.v 6,.v 7,.v 13,.v 14,.v 15,.v 16,.v 17] 1 <|
(.lt none .pick [.v 28,.v 29,.c (.bool false)] 1 <|
(.call (some (.v 30,true)) 141 [.v 8,.v 9,.v 18,.v 19] 1 [] <|
(.lt none .pick [.v 30,.v 31,.c (.bool false)] 1 <|
(.leaf .ret [.v 32] ()))))))))))))))
def Bbt:Tm Unit :=
(.lt none (.bin .eql) [.v 0,.v 2] 1 <|
(.call (some (.v 4,true)) 142 [.v 1,.v 3] 1 [] <|
(.lt none .pick [.v 4,.v 5,.c (.bool false)] 1 <|
(.leaf .ret [.v 6] ()))))
def Bbs:Tm Unit :=
(.lt none .len [.v 0] 1 <|
(.lt none .len [.v 1] 1 <|
(.lt none (.bin .neq) [.v 2,.v 3] 1 <|
(.ite (.v 4)
(.leaf .ret [.c (.bool false)] ())
(.lt none .len [.v 0] 1 <|
(.bind 1
(.loop [.c (.int .i64 0)]
(.lt none (.bin .lss) [.v 6,.v 5] 1 <|
(.ite (.v 7)
(.lt none .inb [.v 0,.v 6] 0 <|
(.lt none (.row 1 0 [true]) [.v 0,.v 6] 1 <|
(.lt none .inb [.v 1,.v 6] 0 <|
(.lt none (.row 1 0 [true]) [.v 1,.v 6] 1 <|
(.lt none (.bin .neq) [.v 8,.v 9] 1 <|
(.ite (.v 10)
(.leaf .ret [.c (.bool false)] ())
(.lt none (.bin .add) [.v 6,.c (.int .i64 1)] 1 <|
(.leaf .cont [.v 11] ()))))))))
(.leaf (.yield 1) [] ())))) <|
(.leaf .ret [.c (.bool true)] ())))))))
def Bbr:Tm Unit :=
(.lt none (.bin .eql) [.v 0,.v 16] 1 <|
(.lt (some (.v 32,true)) .id [.v 1] 1 <|
(.lt (some (.v 32,true)) .id [.v 17] 1 <|
(.lt (some (.v 32,true)) (.bin .eql) [.v 33,.v 34] 1 <|
(.lt none .pick [.v 32,.v 35,.c (.bool false)] 1 <|
(.lt (some (.v 36,true)) .id [.v 2] 1 <|
(.lt (some (.v 36,true)) .id [.v 18] 1 <|
(.lt (some (.v 36,true)) (.bin .eql) [.v 37,.v 38] 1 <|
(.lt none .pick [.v 36,.v 39,.c (.bool false)] 1 <|
(.lt (some (.v 40,true)) .id [.v 3] 1 <|
(.lt (some (.v 40,true)) .id [.v 19] 1 <|
(.lt (some (.v 40,true)) (.bin .eql) [.v 41,.v 42] 1 <|
(.lt none .pick [.v 40,.v 43,.c (.bool false)] 1 <|
(.lt (some (.v 44,true)) (.eqs [0,0,0,0,0]) [.v 4,.v 5,.v 6,.v 7,.v 8,.v 20,.v 21,.v 22,.v 23,.v 24] 1 <|
(.lt none .pick [.v 44,.v 45,.c (.bool false)] 1 <|
(.call (some (.v 46,true)) 141 [.v 9,.v 10,.v 25,.v 26] 1 [] <|
(.lt none .pick [.v 46,.v 47,.c (.bool false)] 1 <|
(.call (some (.v 48,true)) 141 [.v 11,.v 12,.v 27,.v 28] 1 [] <|
(.lt none .pick [.v 48,.v 49,.c (.bool false)] 1 <|
(.lt (some (.v 50,true)) .id [.v 13] 1 <|
(.lt (some (.v 50,true)) .id [.v 29] 1 <|
(.lt (some (.v 50,true)) (.eqb false) [.v 51,.v 52] 1 <|
(.lt none .pick [.v 50,.v 53,.c (.bool false)] 1 <|
(.call (some (.v 54,true)) 142 [.v 14,.v 30] 1 [] <|
(.lt none .pick [.v 54,.v 55,.c (.bool false)] 1 <|
(.call (some (.v 56,true)) 139 [.v 15,.v 31] 1 [] <|
(.lt none .pick [.v 56,.v 57,.c (.bool false)] 1 <|
(.leaf .ret [.v 58] ()))))))))))))))))))))))))))))
def Bbq:Tm Unit :=
(.lt none .len [.v 0] 1 <|
(.lt none .len [.v 1] 1 <|
(.lt none (.bin .neq) [.v 2,.v 3] 1 <|
(.ite (.v 4)
(.leaf .ret [.c (.bool false)] ())
(.lt none .len [.v 0] 1 <|
(.bind 1
(.loop [.c (.int .i64 0)]
(.lt none (.bin .lss) [.v 6,.v 5] 1 <|
(.ite (.v 7)
(.lt none .inb [.v 0,.v 6] 0 <|
(.lt none (.row 15 0 [true,true,true,true,true,true,true,true,true,true,true,true,true,true,false]) [.v 0,.v 6] 15 <|
(.lt none .inb [.v 1,.v 6] 0 <|
(.lt none (.row 15 0 [true,true,true,true,true,true,true,true,true,true,true,true,true,true,false]) [.v 1,.v 6] 15 <|
(.call none 145 [.v 8,.v 9,.v 10,.v 11,.v 12,.v 13,.v 14,.v 15,.v 16,.v 17,.v 18,.v 19,.v 20,.v 21,.v 22,.v 23,.v 24,.v 25,.v 26,.v 27,.v 28,.v 29,.v 30,.v 31,.v 32,.v 33,.v 34,.v 35,.v 36,.v 37] 1 [] <|
(.lt none .not [.v 38] 1 <|
(.ite (.v 39)
(.leaf .ret [.c (.bool false)] ())
(.lt none (.bin .add) [.v 6,.c (.int .i64 1)] 1 <|
(.leaf .cont [.v 40] ())))))))))
(.leaf (.yield 1) [] ())))) <|
(.leaf .ret [.c (.bool true)] ())))))))
def Bbp:Tm Unit :=
(.lt none (.bin .eql) [.v 0,.v 15] 1 <|
(.lt (some (.v 30,true)) .id [.v 1] 1 <|
(.lt (some (.v 30,true)) .id [.v 16] 1 <|
(.lt (some (.v 30,true)) (.bin .eql) [.v 31,.v 32] 1 <|
(.lt none .pick [.v 30,.v 33,.c (.bool false)] 1 <|
(.lt (some (.v 34,true)) .id [.v 2] 1 <|
(.lt (some (.v 34,true)) .id [.v 17] 1 <|
(.lt (some (.v 34,true)) (.bin .eql) [.v 35,.v 36] 1 <|
(.lt none .pick [.v 34,.v 37,.c (.bool false)] 1 <|
(.lt (some (.v 38,true)) .id [.v 3] 1 <|
(.lt (some (.v 38,true)) .id [.v 18] 1 <|
(.lt (some (.v 38,true)) (.bin .eql) [.v 39,.v 40] 1 <|
(.lt none .pick [.v 38,.v 41,.c (.bool false)] 1 <|
(.lt (some (.v 42,true)) .id [.v 4] 1 <|
(.lt (some (.v 42,true)) .id [.v 19] 1 <|
(.lt (some (.v 42,true)) (.bin .eql) [.v 43,.v 44] 1 <|
(.lt none .pick [.v 42,.v 45,.c (.bool false)] 1 <|
(.lt (some (.v 46,true)) .id [.v 5] 1 <|
(.lt (some (.v 46,true)) .id [.v 20] 1 <|
(.lt (some (.v 46,true)) (.bin .eql) [.v 47,.v 48] 1 <|
(.lt none .pick [.v 46,.v 49,.c (.bool false)] 1 <|
(.lt (some (.v 50,true)) .id [.v 6] 1 <|
(.lt (some (.v 50,true)) .id [.v 21] 1 <|
(.lt (some (.v 50,true)) (.bin .eql) [.v 51,.v 52] 1 <|
(.lt none .pick [.v 50,.v 53,.c (.bool false)] 1 <|
(.lt (some (.v 54,true)) .id [.v 7] 1 <|
(.lt (some (.v 54,true)) .id [.v 22] 1 <|
(.lt (some (.v 54,true)) (.bin .eql) [.v 55,.v 56] 1 <|
(.lt none .pick [.v 54,.v 57,.c (.bool false)] 1 <|
(.lt (some (.v 58,true)) (.eqs [0,0,0,0,0]) [.v 8,.v 9,.v 10,.v 11,.v 12,.v 23,.v 24,.v 25,.v 26,.v 27] 1 <|
(.lt none .pick [.v 58,.v 59,.c (.bool false)] 1 <|
(.call (some (.v 60,true)) 141 [.v 13,.v 14,.v 28,.v 29] 1 [] <|
(.lt none .pick [.v 60,.v 61,.c (.bool false)] 1 <|
(.leaf .ret [.v 62] ()))))))))))))))))))))))))))))))))))
def Bbo:Tm Unit :=
(.call none 74 [.v 0,.v 1] 1 [] <|
(.lt none .not [.v 4] 1 <|
(.lt (some (.v 5,false)) .id [.v 0] 1 <|
(.lt (some (.v 5,false)) .id [.v 2] 1 <|
(.lt (some (.v 5,false)) .id [.v 3] 1 <|
(.call (some (.v 5,false)) 94 [.v 6,.v 7,.v 8] 1 [] <|
(.lt (some (.v 5,false)) .not [.v 9] 1 <|
(.lt none .pick [.v 5,.c (.bool true),.v 10] 1 <|
(.ite (.v 11)
(.leaf .ret [.c (.int .i64 0),.c (.int .i64 0),.c (.int .i64 0),.c (.int .i64 0),.c (.int .i64 0),.c (.int .i64 0),.c (.int .i64 0),.c (.int .i64 0),.c (.int .i64 0),.c (.rows 1 []),.c (.bool false)] ())
(.call none 147 [.v 0,.v 1,.v 2,.v 3] 10 [] <|
(.leaf .ret [.v 12,.v 13,.v 14,.v 15,.v 16,.v 17,.v 18,.v 19,.v 20,.v 21,.c (.bool true)] ())))))))))))
def Bbn:Tm Unit :=
(.lt none .inb [.v 1,.v 2] 0 <|
(.lt none (.row 1 0 [false]) [.v 1,.v 2] 1 <|
(.lt none .len [.v 4] 1 <|
(.lt none (.bin .leq) [.v 3,.v 5] 1 <|
(.ite (.v 6)
(.lt none .inb [.v 1,.v 2] 0 <|
(.lt none (.row 1 0 [false]) [.v 1,.v 2] 1 <|
(.lt none (.bin .sub) [.v 3,.c (.int .i64 1)] 1 <|
(.lt none .inb [.v 7,.v 8] 0 <|
(.lt none (.row 10 0 [true,true,true,true,true,true,true,true,true,false]) [.v 7,.v 8] 10 <|
(.call none 112 [.v 9,.v 10,.v 11,.v 12,.v 13,.v 14,.v 15,.v 16,.v 17,.v 18] 10 [] <|
(.leaf .ret [.v 19,.v 20,.v 21,.v 22,.v 23,.v 24,.v 25,.v 26,.v 27,.v 28] ())))))))
(.call none 90 [.v 0] 2 [] <|
(.leaf .ret [.c (.int .i64 0),.c (.int .i64 0),.c (.int .i64 0),.c (.int .i64 0),.c (.int .i64 0),.c (.int .i64 0),.c (.int .i64 0),.c (.int .i64 0),.v 7,.v 8] ())))))))
def Bbm:Tm Unit :=
(.lt none .len [.v 1] 1 <|
(.bind 1
(.loop [.c (.int .i64 0)]
(.lt none (.bin .lss) [.v 5,.v 4] 1 <|
(.ite (.v 6)
(.lt none .inb [.v 1,.v 5] 0 <|
(.lt none (.row 1 0 [false]) [.v 1,.v 5] 1 <|
(.lt none .len [.v 7] 1 <|
(.bind 3
(.loop [.c (.int .i64 0)]
(.lt none (.bin .lss) [.v 9,.v 8] 1 <|
(.ite (.v 10)
(.lt none .inb [.v 7,.v 9] 0 <|
(.lt none (.row 10 0 [true,true,true,true,true,true,true,true,true,false]) [.v 7,.v 9] 10 <|
(.lt none .len [.v 3] 1 <|
(.lt none (.bin .geq) [.v 5,.v 21] 1 <|
(.lt (some (.v 22,false)) .id [.v 9] 1 <|
(.lt (some (.v 22,false)) .id [.v 5] 1 <|
(.lt (some (.v 22,false)) .inb [.v 3,.v 24] 0 <|
(.lt (some (.v 22,false)) (.row 1 0 [false]) [.v 3,.v 24] 1 <|
(.lt (some (.v 22,false)) .len [.v 25] 1 <|
(.lt (some (.v 22,false)) (.bin .geq) [.v 23,.v 26] 1 <|
(.lt none .pick [.v 22,.c (.bool true),.v 27] 1 <|
(.ite (.v 28)
(.leaf .ret [.c (.bool false)] ())
(.lt none .inb [.v 3,.v 5] 0 <|
(.lt none (.row 1 0 [false]) [.v 3,.v 5] 1 <|
(.lt none .inb [.v 29,.v 9] 0 <|
(.lt none (.row 10 0 [true,true,true,true,true,true,true,true,true,false]) [.v 29,.v 9] 10 <|
(.lt none (.bin .lss) [.v 30,.v 11] 1 <|
(.lt (some (.v 40,false)) .id [.v 13] 1 <|
(.lt (some (.v 40,false)) (.bin .eql) [.v 41,.c (.int .i64 3)] 1 <|
(.lt (some (.v 40,false)) .id [.v 42] 1 <|
(.call (some (.v 43,true)) 140 [.v 30,.v 31,.v 32,.v 33,.v 34,.v 35,.v 36,.v 37,.v 38,.v 39,.v 11,.v 12,.v 13,.v 14,.v 15,.v 16,.v 17,.v 18,.v 19,.v 20] 1 [] <|
(.lt (some (.v 43,true)) .not [.v 44] 1 <|
(.lt (some (.v 40,false)) .pick [.v 43,.v 45,.c (.bool false)] 1 <|
(.lt none .pick [.v 40,.c (.bool true),.v 46] 1 <|
(.lt (some (.v 47,false)) .id [.v 13] 1 <|
(.lt (some (.v 47,false)) (.bin .neq) [.v 48,.c (.int .i64 0)] 1 <|
(.lt (some (.v 47,false)) .id [.v 49] 1 <|
(.lt (some (.v 50,true)) .id [.v 32] 1 <|
(.lt (some (.v 50,true)) (.bin .eql) [.v 51,.c (.int .i64 0)] 1 <|
(.lt (some (.v 47,false)) .pick [.v 50,.v 52,.c (.bool false)] 1 <|
(.lt none .pick [.v 47,.c (.bool true),.v 53] 1 <|
(.lt (some (.v 54,false)) .id [.v 31] 1 <|
(.lt (some (.v 54,false)) .id [.v 12] 1 <|
(.lt (some (.v 54,false)) (.bin .lss) [.v 55,.v 56] 1 <|
(.lt none .pick [.v 54,.c (.bool true),.v 57] 1 <|
(.ite (.v 58)
(.leaf .ret [.c (.bool false)] ())
(.lt none (.bin .add) [.v 9,.c (.int .i64 1)] 1 <|
(.leaf .cont [.v 59] ()))))))))))))))))))))))))))))))))))))))
(.leaf (.yield 3) [] ())))) <|
(.lt none (.bin .add) [.v 5,.c (.int .i64 1)] 1 <|
(.leaf .cont [.v 9] ()))))))
(.leaf (.yield 1) [] ())))) <|
(.leaf .ret [.c (.bool true)] ())))
def Bbl:Tm Unit :=
(.call none 3 [.v 0,.c (.int .i64 0),.c (.int .u64 0)] 7 [] <|
(.call none 48 [.v 5,.v 6,.v 7] 5 [] <|
(.leaf .ret [.v 1,.v 2,.v 3,.v 4,.v 8,.v 9] ())))
def Bbk:Tm Unit :=
(.call none 151 [.v 0,.v 1,.v 2,.v 3,.v 4,.v 5] 1 [] <|
(.lt none .not [.v 6] 1 <|
(.ite (.v 7)
(.leaf .ret [.c (.int .i64 0),.c (.int .i64 0),.c (.rows 1 []),.c (.rows 16 []),.c (.rows 15 []),.c (.bool false)] ())
(.call none 152 [.v 1,.v 2,.v 4,.v 5,.v 0] 2 [] <|
(.lt none .not [.v 9] 1 <|
(.ite (.v 10)
(.leaf .ret [.c (.int .i64 0),.c (.int .i64 0),.c (.rows 1 []),.c (.rows 16 []),.c (.rows 15 []),.c (.bool false)] ())
(.call none 108 [.v 0,.v 1,.v 2,.v 3] 6 [] <|
(.call none 147 [.v 12,.v 13,.v 4,.v 5] 10 [] <|
(.lt none (.dep 99) [.v 26] 0 <|
(.call none 90 [.v 12] 2 [] <|
(.lt none (.mk 1 1) [.v 11] 1 <|
(.lt none (.mk 10 1) [.v 17,.v 18,.v 19,.v 20,.v 21,.v 22,.v 23,.v 24,.v 25,.v 26] 1 <|
(.call none 126 [.v 4,.v 5,.v 8,.c (.int .i64 3),.c (.int .i64 0),.c (.int .i64 0),.c (.int .i64 0),.c (.int .i64 0),.c (.int .i64 0),.v 27,.v 28,.v 27,.v 28,.c (.bool false),.v 29,.v 30,.v 11,.v 12,.v 13,.v 14,.v 15,.v 16] 6 [] <|
(.lt none (.dep 99) [.v 33] 0 <|
(.lt none (.dep 99) [.v 34] 0 <|
(.lt none (.dep 99) [.v 35] 0 <|
(.call none 125 [.v 4,.v 5,.v 8,.v 18,.v 19,.v 20,.v 21,.v 22,.v 23,.v 24,.v 25,.v 26,.v 32,.v 33] 2 [] <|
(.call none 133 [.c (.int .i64 6),.c (.int .i64 0),.c (.int .i64 0),.v 4,.v 5,.v 8,.c (.int .i64 0),.c (.int .i64 0),.c (.int .i64 0),.c (.int .i64 0),.c (.int .i64 0),.c (.int .i64 0),.c (.int .i64 0),.c (.int .i64 0),.c (.rows 1 []),.v 31,.v 37,.v 38,.v 34,.v 35,.v 36] 6 [] <|
(.call none 136 [.v 39,.v 40,.v 41,.v 42,.v 43,.v 44] 12 [] <|
(.leaf .ret [.v 45,.v 46,.v 47,.v 48,.v 49,.v 50] ()))))))))))))))))))))
def Bbj:Tm Unit :=
(.call none 73 [.v 0,.v 1,.v 2,.v 3] 1 [] <|
(.lt (some (.v 6,true)) .id [.v 1] 1 <|
(.lt (some (.v 6,true)) .id [.v 4] 1 <|
(.lt (some (.v 6,true)) .id [.v 5] 1 <|
(.call (some (.v 6,true)) 94 [.v 7,.v 8,.v 9] 1 [] <|
(.lt none .pick [.v 6,.v 10,.c (.bool false)] 1 <|
(.lt (some (.v 11,true)) .id [.v 4] 1 <|
(.lt (some (.v 11,true)) .id [.v 5] 1 <|
(.call (some (.v 11,true)) 147 [.v 1,.v 2,.v 12,.v 13] 10 [] <|
(.lt (some (.v 11,true)) .id [.v 16] 1 <|
(.lt (some (.v 11,true)) (.bin .neq) [.v 24,.c (.int .i64 3)] 1 <|
(.lt none .pick [.v 11,.v 25,.c (.bool false)] 1 <|
(.leaf .ret [.v 26] ())))))))))))))
def Bbi:Tm Unit :=
(.call none 147 [.v 0,.v 1,.v 2,.v 3] 10 [] <|
(.lt none (.bin .add) [.v 5,.c (.int .i64 1)] 1 <|
(.lt none .max [.v 15,.c (.int .i64 8)] 1 <|
(.bind 1
(.loop [.v 16]
(.lt none (.bin .rem) [.v 17,.c (.int .i64 8)] 1 <|
(.lt none (.bin .neq) [.v 18,.v 4] 1 <|
(.ite (.v 19)
(.lt none (.bin .add) [.v 17,.c (.int .i64 1)] 1 <|
(.leaf .cont [.v 20] ()))
(.leaf (.yield 1) [.v 17] ()))))) <|
(.lt none (.bin .leq) [.v 17,.c (.int .i64 9999)] 1 <|
(.leaf .ret [.v 17,.v 18] ()))))))
def Bbh:Tm Unit :=
(.call none 3 [.v 0,.c (.int .i64 0),.c (.int .u64 0)] 7 [] <|
(.lt none .len [.v 4] 1 <|
(.lt none (.bin .gtr) [.v 8,.c (.int .i64 0)] 1 <|
(.call (some (.v 9,true)) 12 [.c (.int .i64 6),.v 5,.v 6,.v 7] 4 [.v 5,.v 6,.v 7] <|
(.lt (some (.v 9,true)) .not [.v 10] 1 <|
(.lt none .pick [.v 9,.v 14,.c (.bool false)] 1 <|
(.ite (.v 15)
(.lt none .len [.v 4] 1 <|
(.call none 5 [.v 16,.v 11,.v 12,.v 13] 4 [] <|
(.lt none .inb [.v 4,.v 17] 0 <|
(.lt none (.row 16 0 [true,true,true,true,true,true,true,true,true,true,false,true,false,true,false,false]) [.v 4,.v 17] 16 <|
(.leaf .ret [.v 1,.v 2,.v 3,.v 4,.v 21,.v 22] ())))))
(.call none 48 [.v 11,.v 12,.v 13] 5 [] <|
(.leaf .ret [.v 1,.v 2,.v 3,.v 4,.v 16,.v 17] ())))))))))
def Bbg:Tm Unit :=
(.call none 151 [.v 0,.v 1,.v 2,.v 3,.v 4,.v 5] 1 [] <|
(.lt none .not [.v 6] 1 <|
(.ite (.v 7)
(.leaf .ret [.c (.int .i64 0),.c (.int .i64 0),.c (.rows 1 []),.c (.rows 16 []),.c (.rows 15 []),.c (.bool false)] ())
(.call none 108 [.v 0,.v 1,.v 2,.v 3] 6 [] <|
(.call none 128 [.v 4,.v 5,.v 8,.v 9,.v 10,.v 11,.v 12,.v 13] 2 [] <|
(.lt none .not [.v 15] 1 <|
(.lt (some (.v 16,false)) .id [.v 14] 1 <|
(.lt (some (.v 16,false)) .inb [.v 11,.v 17] 0 <|
(.lt (some (.v 16,false)) (.row 16 3 [true]) [.v 11,.v 17] 1 <|
(.lt (some (.v 16,false)) (.bin .neq) [.v 18,.c (.int .i64 1)] 1 <|
(.lt none .pick [.v 16,.c (.bool true),.v 19] 1 <|
(.lt (some (.v 20,false)) .id [.v 14] 1 <|
(.lt (some (.v 20,false)) .inb [.v 11,.v 21] 0 <|
(.lt (some (.v 20,false)) (.row 16 2 [true]) [.v 11,.v 21] 1 <|
(.lt (some (.v 20,false)) (.bin .neq) [.v 22,.c (.int .i64 0)] 1 <|
(.lt none .pick [.v 20,.c (.bool true),.v 23] 1 <|
(.lt (some (.v 24,false)) .id [.v 9] 1 <|
(.lt (some (.v 24,false)) .id [.v 14] 1 <|
(.lt (some (.v 24,false)) .inb [.v 11,.v 26] 0 <|
(.lt (some (.v 24,false)) (.row 16 14 [false]) [.v 11,.v 26] 1 <|
(.lt (some (.v 24,false)) .len [.v 27] 1 <|
(.call (some (.v 24,false)) 155 [.v 25,.v 28] 1 [] <|
(.lt (some (.v 24,false)) .not [.v 29] 1 <|
(.lt none .pick [.v 24,.c (.bool true),.v 30] 1 <|
(.ite (.v 31)
(.leaf .ret [.c (.int .i64 0),.c (.int .i64 0),.c (.rows 1 []),.c (.rows 16 []),.c (.rows 15 []),.c (.bool false)] ())
(.lt none .inb [.v 11,.v 14] 0 <|
(.lt none (.row 16 0 [true,true,true,true,true,true,true,true,true,true,false,true,false,true,false,false]) [.v 11,.v 14] 16 <|
(.call none 115 [.v 32,.v 33,.v 34,.v 35,.v 36,.v 37,.v 38,.v 39,.v 40,.v 41,.v 42,.v 43,.v 44,.v 45,.v 46,.v 47] 16 [] <|
(.lt none (.dep 99) [.v 58] 0 <|
(.lt none (.dep 99) [.v 60] 0 <|
(.lt none (.dep 99) [.v 62] 0 <|
(.lt none (.dep 99) [.v 63] 0 <|
(.call none 156 [.v 48,.v 49,.v 50,.v 51,.v 52,.v 53,.v 54,.v 55,.v 56,.v 57,.v 58,.v 59,.v 60,.v 61,.v 62,.v 63,.v 8,.v 9,.v 10,.v 11,.v 12,.v 13] 6 [] <|
(.lt none (.dep 99) [.v 66] 0 <|
(.lt none (.dep 99) [.v 67] 0 <|
(.lt none (.dep 99) [.v 68] 0 <|
(.call none 136 [.v 64,.v 65,.v 66,.v 67,.v 68,.v 69] 12 [] <|
(.leaf .ret [.v 70,.v 71,.v 72,.v 73,.v 74,.v 75] ()))))))))))))))))))))))))))))))))))))))
def Bbf:Tm Unit :=
(.lt none (.bin .quo) [.v 0,.c (.int .i64 2)] 1 <|
(.lt none (.bin .gtr) [.v 1,.v 2] 1 <|
(.leaf .ret [.v 3] ())))
def Bbe:Tm Unit :=
(.call none 147 [.v 17,.v 18,.v 0,.v 1] 10 [] <|
(.lt none (.dep 99) [.v 31] 0 <|
(.lt none (.bin .gtr) [.v 22,.v 2] 1 <|
(.ite (.v 32)
(.call none 127 [.v 0,.v 1,.v 16,.v 17,.v 18,.v 19,.v 20,.v 21] 6 [] <|
(.leaf .ret [.v 33,.v 34,.v 35,.v 36,.v 37,.v 38] ()))
(.call none 125 [.v 0,.v 1,.v 2,.v 2,.c (.int .i64 2),.v 4,.v 5,.v 6,.v 7,.v 8,.v 11,.v 12,.v 17,.v 18] 2 [] <|
(.lt none (.mk 1 1) [.v 16] 1 <|
(.call none 126 [.v 0,.v 1,.v 2,.c (.int .i64 2),.v 4,.v 5,.v 6,.v 7,.v 8,.v 11,.v 12,.v 11,.v 12,.c (.bool false),.v 35,.c (.rows 10 []),.v 16,.v 33,.v 34,.v 19,.v 20,.v 21] 6 [] <|
(.lt none (.dep 99) [.v 38] 0 <|
(.lt none (.dep 99) [.v 39] 0 <|
(.lt none (.dep 99) [.v 40] 0 <|
(.lt none .ne [.v 12] 0 <|
(.call none 133 [.c (.int .i64 3),.c (.int .i64 0),.c (.int .i64 0),.v 0,.v 1,.v 2,.c (.int .i64 0),.c (.int .i64 0),.v 4,.v 5,.v 6,.v 7,.v 8,.v 11,.v 12,.v 36,.v 37,.v 38,.v 39,.v 40,.v 41] 6 [] <|
(.leaf .ret [.v 42,.v 43,.v 44,.v 45,.v 46,.v 47] ())))))))))))))
def Bbd:Tm Unit :=
(.call none 14 [.v 0,.v 1,.v 2,.v 3] 1 [] <|
(.lt none .not [.v 6] 1 <|
(.ite (.v 7)
(.leaf .ret [.c (.int .i64 0),.c (.int .i64 0),.c (.rows 1 []),.c (.rows 16 []),.c (.rows 15 []),.c (.bool false),.v 3] ())
(.call none 29 [.v 0,.v 1,.v 2,.v 3] 5 [] <|
(.call none 66 [.v 4,.v 5,.v 8,.v 9,.v 10,.v 11,.c (.bool true)] 1 [] <|
(.lt none (.bin .lss) [.v 13,.c (.int .i64 0)] 1 <|
(.lt (some (.v 14,false)) .id [.v 4] 1 <|
(.lt (some (.v 14,false)) .id [.v 5] 1 <|
(.call (some (.v 14,false)) 50 [.v 1,.v 2,.v 15,.v 16] 10 [] <|
(.lt (some (.v 14,false)) .id [.v 19] 1 <|
(.lt (some (.v 14,false)) (.bin .eql) [.v 27,.c (.int .i64 3)] 1 <|
(.lt none .pick [.v 14,.c (.bool true),.v 28] 1 <|
(.lt (some (.v 29,false)) .id [.v 13] 1 <|
(.lt (some (.v 29,false)) .inb [.v 11,.v 30] 0 <|
(.lt (some (.v 29,false)) (.row 16 3 [true]) [.v 11,.v 30] 1 <|
(.lt (some (.v 29,false)) (.bin .neq) [.v 31,.c (.int .i64 1)] 1 <|
(.lt none .pick [.v 29,.c (.bool true),.v 32] 1 <|
(.lt (some (.v 33,false)) .id [.v 13] 1 <|
(.lt (some (.v 33,false)) .inb [.v 11,.v 34] 0 <|
(.lt (some (.v 33,false)) (.row 16 2 [true]) [.v 11,.v 34] 1 <|
(.lt (some (.v 33,false)) (.bin .neq) [.v 35,.c (.int .i64 0)] 1 <|
(.lt none .pick [.v 33,.c (.bool true),.v 36] 1 <|
(.lt (some (.v 37,false)) .id [.v 13] 1 <|
(.lt (some (.v 37,false)) .inb [.v 11,.v 38] 0 <|
(.lt (some (.v 37,false)) (.row 16 14 [false]) [.v 11,.v 38] 1 <|
(.lt (some (.v 37,false)) .len [.v 39] 1 <|
(.lt (some (.v 37,false)) .id [.v 1] 1 <|
(.lt (some (.v 37,false)) (.bin .quo) [.v 41,.c (.int .i64 2)] 1 <|
(.lt (some (.v 37,false)) (.bin .leq) [.v 40,.v 42] 1 <|
(.lt none .pick [.v 37,.c (.bool true),.v 43] 1 <|
(.ite (.v 44)
(.leaf .ret [.c (.int .i64 0),.c (.int .i64 0),.c (.rows 1 []),.c (.rows 16 []),.c (.rows 15 []),.c (.bool false),.v 12] ())
(.lt none .inb [.v 11,.v 13] 0 <|
(.lt none (.row 16 0 [true,true,true,true,true,true,true,true,true,true,false,true,false,true,false,false]) [.v 11,.v 13] 16 <|
(.call none 69 [.v 45,.v 46,.v 47,.v 48,.v 49,.v 50,.v 51,.v 52,.v 53,.v 54,.v 55,.v 56,.v 57,.v 58,.v 59,.v 60,.v 8,.v 9,.v 10,.v 11,.c (.rows 15 []),.c (.bool true)] 6 [] <|
(.call none 47 [.v 61,.v 62,.v 63,.v 64,.v 65,.v 66] 12 [] <|
(.leaf .ret [.v 67,.v 68,.v 69,.v 70,.v 71,.v 72,.v 12] ()))))))))))))))))))))))))))))))))))))
theorem Pbt:∀ n,vF Tryz.prog (Pax [(114,.tm Uax)]) n 114 Xas:=fun n=>contracts Eb6 (by kernel_rfl) (Uac (List.forall_mem_cons.2 ⟨Zaj (E:=⟨lX tiL,[(114,Xas)],0,0,false,false,[],[],[],0,[]⟩) Tryz.func141 (by kernel_rfl) (tm:=Uax) (by kernel_rfl) (by kernel_rfl),List.forall_mem_nil _⟩)) n 114 Xas (by simp)
def Kbu:Go.Shelf.Ren:=⟨fun|41=>141|n=>n,fun|4=>4|22=>50|23=>3|n=>n,fun n=>n⟩
theorem Gb1:Go.Proofs.SlLaysE0.n41 Tryz.prog Kbu:={ mixed:=by kernel_rfl,f41:=⟨Tryz.f141.name,by kernel_rfl,Tryz.func141.trans (congrArg some (by kernel_rfl))⟩,t4:=Tryz.underlying4,a4:=Tryz.isAgg4,z4:=Tryz.sizeOf4,v4:=Tryz.zeroValue4,t22:=Tryz.underlying50,a22:=Tryz.isAgg50,z22:=Tryz.sizeOf50,v22:=Tryz.zeroValue50 }
noncomputable def Lbg:List D → Option (List D):=Fbq 1 (Pax [(114,.tm Uax)]) 114
noncomputable def T:Nat → Ent:=Pax [(0,.tm tm0),(1,.tm tm1),(2,.tm tm2),(3,.tm tm3),(4,.tm tm4),(5,.tm tm5),(6,.tm tm6),(7,.tm tm7),(8,.tm tm8),(9,.tm tm9),(10,.tm Obk),(11,.tm Obi),(12,.tm Obh),(13,.tm Obg),(14,.tm Obf),(15,.tm Obe),(16,.tm Obd),(17,.tm Ibq),(18,.tm Obc),(19,.tm Obb),(20,.tm Oba),(21,.tm Nb9),(22,.tm Nb8),(23,.tm Nb7),(24,.tm Nb6),(25,.tm Nb5),(26,.tm Nb4),(27,.tm Nb3),(28,.tm Nb2),(29,.tm Nb1),(30,.tm Nb0),(31,.tm Nbz),(32,.tm Nby),(33,.tm Nbx),(34,.tm Nbw),(35,.tm Nbv),(36,.tm Nbu),(37,.tm Nbt),(38,.tm Nbs),(39,.tm Nbr),(40,.tm Nbq),(41,.tm Nbp),(42,.tm Nbo),(43,.tm Nbn),(44,.tm Nbm),(45,.tm Nbl),(46,.tm Nbk),(47,.tm Ibp),(48,.tm Nbj),(49,.tm Nbi),(50,.tm Nbh),(51,.tm Nbg),(52,.tm Nbf),(53,.tm Nbe),(54,.tm Nbd),(55,.tm Nbc),(56,.tm Nbb),(57,.tm Nba),(58,.tm Mb9),(59,.tm Mb8),(60,.tm Mb7),(61,.tm Mb6),(62,.tm Mb5),(63,.tm Mb4),(64,.tm Mb3),(65,.tm Mb2),(66,.tm Mb1),(67,.tm Mb0),(68,.tm Mbz),(69,.tm Mby),(70,.tm Mbx),(71,.tm Mbw),(72,.tm Mbv),(73,.tm Mbu),(74,.tm Mbt),(75,.tm Mbs),(76,.tm Mbr),(77,.tm Mbq),(78,.tm Mbp),(79,.tm Mbo),(80,.tm Mbn),(81,.tm Mbm),(82,.tm Mbl),(83,.tm Mbk),(84,.tm Mbj),(85,.tm Mbi),(86,.tm Mbh),(87,.tm Mbg),(88,.tm Mbf),(89,.tm Mbe),(90,.tm Mbd),(91,.tm Mbc),(92,.tm Mbb),(93,.tm Mba),(94,.tm Lb9),(95,.tm Lb8),(96,.tm Lb7),(97,.tm Lb6),(98,.tm Lb5),(99,.tm Lb4),(100,.tm Cbt),(101,.tm Cbs),(102,.tm Cbr),(103,.tm Cbq),(104,.tm Cbp),(105,.tm Cbo),(106,.tm Cbn),(107,.tm Cbm),(108,.tm Cbl),(109,.tm Cbk),(110,.tm Cbj),(111,.tm Cbi),(112,.tm Cbh),(113,.tm Cbg),(114,.ext Lbg),(115,.tm Cbf),(116,.tm Cbe),(117,.tm Cbd),(118,.tm Cbc),(119,.tm Cbb),(120,.tm Cba),(121,.tm Bb9),(122,.tm Bb8),(123,.tm Bb7),(124,.tm Bb6),(125,.tm Bb5),(126,.tm Bb4),(127,.tm Bb3),(128,.tm Bb2),(129,.tm Bb1),(130,.tm Bb0),(131,.ext (Fbp 16)),(132,.ext (Fbh 16)),(133,.tm Uaw),(134,.tm Uav),(135,.tm Bbz),(136,.tm Bby),(137,.tm Bbx),(138,.tm Bbw),(139,.tm Bbv),(140,.tm Bbu),(141,.tm Bbt),(142,.tm Bbs),(143,.tm Bbr),(144,.tm Bbq),(145,.tm Bbp),(146,.tm Bbo),(147,.tm Bbn),(148,.tm Bbm),(149,.tm Bbl),(150,.tm Bbk),(151,.tm Bbj),(152,.tm Bbi),(153,.tm Bbh),(154,.tm Bbg),(155,.tm Bbf),(156,.tm Bbe),(157,.tm Bbd)]
abbrev K:=Waw Tryz.prog T (lX tiL) sigs
theorem Ubw:Waw Tryz.prog T (lX tiL) sigs 114 Xas:=Aba (m:=98) Gb1 rfl (by kernel_rfl) Tryz.sizeOf3 Pbt rfl
def Tryz.laysD204_ren:Go.Shelf.Ren:=⟨fun|45=>204|n=>n,fun|22=>32|23=>95|3=>3|4=>4|0=>0|n=>n,fun|n=>n⟩
theorem Tryz.laysD204:Go.Proofs.SlLaysE0.n45 Tryz.prog Tryz.laysD204_ren:={
  mixed:=by kernel_rfl
  f45:=⟨Tryz.f204.name,by decide,Tryz.func204.trans (congrArg some (by kernel_rfl))⟩
  t0:=Tryz.underlying0
  a0:=Tryz.isAgg0
  z0:=Tryz.sizeOf0
  v0:=Tryz.zeroValue0
  t3:=Tryz.underlying3
  a3:=Tryz.isAgg3
  z3:=Tryz.sizeOf3
  v3:=Tryz.zeroValue3
  t4:=Tryz.underlying4
  a4:=Tryz.isAgg4
  z4:=Tryz.sizeOf4
  v4:=Tryz.zeroValue4
  t22:=Tryz.underlying32
  a22:=Tryz.isAgg32
  z22:=Tryz.sizeOf32
  v22:=Tryz.zeroValue32 }
theorem Ubf:K 131 Jbw:=Wak (m:=98) Tryz.laysD204 rfl (by kernel_rfl) Tryz.sizeOf95 (by kernel_rfl) rfl
section
open Go.Shelf Go.RowKit Go.Lib Go.Proofs
set_option maxHeartbeats 4000000
theorem Va1 (b off n c vb eW vc:Nat)(vs:List Value)(w:World)(eu:n+1 ≤ c)(mb:vs.length=16)
    (gk:∀ j,j<16 → (w.cell? ⟨b,off+n*16+j,none⟩).isSome=true) (kc:∀ j,j<16 → w.frozen? ⟨b,off+n*16+j,none⟩=false)
    (ic:∀ j v,vs[j]?=some v → w.cell? ⟨vb,eW+j,none⟩=some v) (qp:∀ v∈vs,v.oneCell'=true) :
    Calls Tryz.prog 154 #[.slice (some ⟨b,off,none⟩) n c,.int .i64 n,.slice (some ⟨vb,eW,none⟩) 1 vc] w fun e w' =>
      e=.returned (.slice (some ⟨b,off,none⟩) (n+1) c) ∧ w'=w.setCells b (off+n*16) vs:=by
  obtain⟨i0,kx,np⟩:∃ i0,Tryz.prog.info? 95=some i0 ∧ i0.size=16:=⟨_,rfl,rfl⟩
  have lj:Src Tryz.prog i0.size 32 (.slice (some ⟨vb,eW,none⟩) 1 vc) 1 vs w:=by
    rw[np];exact Src.ofSlice w Tryz.underlying32 ⟨vb,eW,none⟩ 1 vc vs (by omega) (fun j u hj=>by rw[Addr.add_lit];exact ic j u hj) qp
  have cC:∀ ty,(Builtin.append_ #[32,32] ty #[.slice (some ⟨b,off,none⟩) n c,.slice (some ⟨vb,eW,none⟩) 1 vc]).run Tryz.prog w=.ok (.slice (some ⟨b,off,none⟩) (n+1) c) (w.setCells b (off+n*16) vs):=fun ty=>by
    have h:=run_append_room_src w 32 32 ty 95 i0 Tryz.underlying32 kx b off n c _ 1 vs lj eu (by rw[np,mb];exact gk) (by rw[np,mb];exact kc);rw[np]at h;exact h
  go_enter Tryz.func154,Tryz.ntmps154
  go_wp2_with (at_builtin;refine Lib.wpList_append_run _ rfl _ _ _ _ rfl _ _ rfl rfl _ _ (cC _) ?_)
  go_ret
  exact⟨rfl,rfl⟩
theorem Ya7 (base:Option Addr)(n c vb eW vc:Nat)(cs vs:List Value)(w:World)(eu:c<n+1)(oA:n ≤ 100000000000)(fW:cs.length=n*16)(mb:vs.length=16)(fx:base=none → n=0)
    (lh:∀ a,base=some a → ∀ j v,cs[j]?=some v → w.cell? (a.add j)=some v)
    (ic:∀ j v,vs[j]?=some v → w.cell? ⟨vb,eW+j,none⟩=some v) (qp:∀ v∈vs,v.oneCell'=true) :
    Calls Tryz.prog 154 #[.slice base n c,.int .i64 n,.slice (some ⟨vb,eW,none⟩) 1 vc] w fun e w' =>
      ∃ zs:Array Value,zs.size=(grownCap w (n+1) c 95-(n+1))*16 ∧ e=.returned (.slice (some ⟨w.heap.size,0,none⟩) (n+1) (grownCap w (n+1) c 95)) ∧ w'=w.drew.alloc (.cells ((cs++vs).toArray++zs) 95):=by
  obtain⟨i0,z,kx,np,nq,hzb,q8⟩:∃ i0 z,Tryz.prog.info? 95=some i0 ∧ i0.size=16 ∧ i0.zero=some z ∧ i0.bytes ≤ 1000 ∧ z.cells.size=16:=⟨_,_,rfl,rfl,rfl,by decide,rfl⟩
  have lj:Src Tryz.prog i0.size 32 (.slice (some ⟨vb,eW,none⟩) 1 vc) 1 vs w:=by
    rw[np];exact Src.ofSlice w Tryz.underlying32 ⟨vb,eW,none⟩ 1 vc vs (by omega) (fun j u hj=>by rw[Addr.add_lit];exact ic j u hj) qp
  have hold:(Builtin.firstCells i0.size n (.slice base n c)).run Tryz.prog w.drew=.ok cs.toArray w.drew:=by
    rw[np]
    cases base with
    | none =>
      have h0:=fx rfl;subst h0;rw[List.length_eq_zero_iff.1 (show cs.length=0 by omega)];exact run_firstCells_none w.drew 16 0 0 c
    |some a=>exact run_firstCells_some w.drew 16 n a n c cs (by omega) (fun j v hj=>lh a rfl j v hj)
  have fa:(n+1)*i0.bytes ≤ 140737488355328:=Xb3 (Nat.mul_le_mul (show n+1 ≤ 100000000001 by omega) hzb) (by decide)
  have cC:∀ ty,(Builtin.append_ #[32,32] ty #[.slice base n c,.slice (some ⟨vb,eW,none⟩) 1 vc]).run Tryz.prog w=_:=fun ty =>
    run_append_grow_src w 32 32 ty 95 i0 z Tryz.underlying32 kx nq base n c cs hold _ 1 vs lj eu (by omega) (growslice_fits eu fa)
  obtain⟨zs,qf⟩:∃ zs,zs=Builtin.zeroCells z.cells (grownCap w (n+1) c 95-(n+1)):=⟨_,rfl⟩;have ue:zs.size=(grownCap w (n+1) c 95-(n+1))*16:=by rw[qf];simp[Builtin.zeroCells,q8]
  rw[← qf]at cC
  suffices hC:Calls Tryz.prog 154 #[.slice base n c,.int .i64 n,.slice (some ⟨vb,eW,none⟩) 1 vc] w fun e w'=>e=.returned (.slice (some ⟨w.heap.size,0,none⟩) (n+1) (grownCap w (n+1) c 95)) ∧ w'=w.drew.alloc (.cells ((cs++vs).toArray++zs) 95) from hC.mono fun e w' h=>⟨zs,ue,h⟩
  clear qf ue fa q8 hzb nq
  go_enter Tryz.func154,Tryz.ntmps154
  cases base with
  | none =>
    have h0:=fx rfl;subst h0
    go_wp2_with (at_builtin;refine Lib.wpList_append_run _ rfl _ _ _ _ rfl _ _ rfl rfl _ _ (cC _) ?_)
    go_ret
    exact⟨rfl,rfl⟩
  | some a =>
    obtain⟨ab,ao,asp⟩:=a
    go_wp2_with (at_builtin;refine Lib.wpList_append_run _ rfl _ _ _ _ rfl _ _ rfl rfl _ _ (cC _) ?_)
    all_goals (go_ret;exact⟨rfl,rfl⟩)
theorem Ra3 (b off n c i vb eW vc:Nat)(cs vs:List Value)(w:World)(hi:i<n)(eu:n+1 ≤ c)(oA:n ≤ 100000000000)(hvb:vb≠b)(fW:cs.length=n*16)(mb:vs.length=16)
    (lh:∀ j v,cs[j]?=some v → w.cell? ⟨b,off+j,none⟩=some v) (gk:∀ j,j<(n+1)*16 → (w.cell? ⟨b,off+j,none⟩).isSome=true) (kc:∀ j,w.frozen? ⟨b,off+j,none⟩=false)
    (ic:∀ j v,vs[j]?=some v → w.cell? ⟨vb,eW+j,none⟩=some v) (xh:∀ v∈cs,v.oneCell'=true) (qp:∀ v∈vs,v.oneCell'=true)
    (tA tB:TypeId) (kA kB:Nat) (hsa:w.shape? vb=some (tA,kA)) (qT:w.shape? b=some (tB,kB)) (hkB:kB≠0) (tU:w.frozen? ⟨vb,eW,none⟩=false) (hfe:w.frozen? ⟨vb,kA,none⟩=false) :
    Calls Tryz.prog 154 #[.slice (some ⟨b,off,none⟩) n c,.int .i64 i,.slice (some ⟨vb,eW,none⟩) 1 vc] w fun e w' =>
      e=.returned (.slice (some ⟨b,off,none⟩) (n+1) c) ∧ w'=(w.drew.setCells b (off+(i+1)*16) (cs.drop (i*16))).setCells b (off+i*16) vs:=by
  have mixed:Tryz.prog.follows .mixedOrders=true:=by kernel_rfl
  have dh:(Tryz.prog.info? 95).map (·.size)=some 16:=by kernel_rfl
  have nj:¬ ((i:Int)=(n:Int)):=by omega
  have hov:∀ lb cb,(callFunc 206 #[.slice (some ⟨vb,eW,none⟩) 1 vc,.slice (some ⟨b,off+(i+1)*16,none⟩) lb cb]).run Tryz.prog w=.ok (.value (.bool false)) w:=fun lb cb=>by
    rw [run_callFunc_extern Tryz.func206 (by kernel_rfl) (by kernel_rfl) (by kernel_rfl) (e := Extern.SlicesOverlaps.overlaps #[32, 32] #[4]) (by kernel_rfl),
      Lib.run_overlaps_apart w 32 4 95 Tryz.underlying32 16 Tryz.sizeOf95 ⟨vb,eW,none⟩ ⟨b,off+(i+1)*16,none⟩ 1 vc lb cb hvb tA tB kA kB hsa qT hkB tU hfe]
    rfl
  have oe:(cs.drop (i*16)).length=(n-i)*16:=by rw[Wb4,fW];omega
  have hw1:IntKind.i64.wrap ((i:Int)+1)=(i:Int)+1:=by rw[IntKind.wrap_i64];omega
  have hw2:IntKind.i64.wrap ((n:Int)+1)=(n:Int)+1:=by rw[IntKind.wrap_i64];omega
  have lR:(0:Int) ≤ (i:Int)+1:=by omega
  have gm:i ≤ n:=by omega
  have htn:((i:Int)+1).toNat=i+1:=by omega
  have htn2:((n:Int)+1).toNat=n+1:=by omega
  have gp:¬ (c=i+1):=by omega
  have rh:(i:Int) ≤ (n:Int)+1:=by omega
  have hb4:¬ (c=i):=by omega
  have hb5:¬ ((c:Int)<(n:Int)+1):=by omega
  have a1e:∀ ty dc sc,(Builtin.copy_ #[32,32] ty #[.slice (some ⟨b,off+(i+1)*16,none⟩) (n-i) dc,.slice (some ⟨b,off+i*16,none⟩) (n+1-i) sc]).run Tryz.prog w.drew =   .ok (goInt ((n-i:Nat):Int)) (w.drew.setCells b (off+(i+1)*16) (cs.drop (i*16))):=fun ty dc sc=>by
    have h:=yG (P:=Tryz.prog) w.drew 32 32 ty 95 b (off+(i+1)*16) (n-i) dc ⟨b,off+i*16,none⟩ (n+1-i) sc (cs.drop (i*16)) Tryz.underlying32 dh (by rw[oe];simp only[Yb8];split<;>omega)
      (fun j v hj=>by rw[Addr.add_lit,Vb8];exact lh (i*16+j) v (by rwa[Wbt]at hj))
      (fun j hj=>by rw[Vb8];exact gk _ (by omega)) (fun j hj=>by rw[Vb8];exact kc _) (fun v hv=>xh v (Xbj hv))
    rw[h,show Nat.min (n+1-i) (n-i)=n-i by simp only[Yb8];split<;>omega]
  obtain⟨W1,pt⟩:∃ W1,W1=w.drew.setCells b (off+(i+1)*16) (cs.drop (i*16)):=⟨_,rfl⟩
  have a16:∀ k,k<(n+1)*16 → (W1.cell? ⟨b,off+k,none⟩).isSome=true:=fun k hk=>by
    rw[pt];exact isSome_setCells b _ _ _ (fun j hj=>by rw[Vb8];exact gk _ (by omega)) _ (gk k hk)
  have a7a:∀ (W:World),(∀ x,W.cell? x=W1.cell? x) → (∀ x,W.frozen? x=W1.frozen? x) → ∀ ty dc,(Builtin.copy_ #[32,32] ty #[.slice (some ⟨b,off+i*16,none⟩) (n+1-i) dc,.slice (some ⟨vb,eW,none⟩) 1 vc]).run Tryz.prog W=.ok (goInt 1) (W.setCells b (off+i*16) vs):=fun W w4 hWf ty dc=>by
    have h:=yG (P:=Tryz.prog) W 32 32 ty 95 b (off+i*16) (n+1-i) dc ⟨vb,eW,none⟩ 1 vc vs Tryz.underlying32 dh (by rw[mb];simp only[Yb8];split<;>omega)
      (fun j v hj=>by
        rw[Addr.add_lit,w4,pt,World.cell?_setCells_out b _ _ _ _ (fun h _=>absurd h hvb)];exact ic j v hj)
      (fun j hj=>by rw[w4,Vb8];exact a16 _ (by omega)) (fun j hj=>by rw[hWf,pt,World.frozen?_setCells,Vb8];exact kc _) qp
    rw[h,show Nat.min 1 (n+1-i)=1 by simp only[Yb8];split<;>omega];rfl
  rw[← pt]at a1e;clear gk kc dh lh ic xh qp hsa qT hkB tU hfe oe a16
  go_enter Tryz.func154,Tryz.ntmps154
  go_wp2_with (simp only[hov])
  go_region_law_o (refine step_copy_runI rfl _ _ 32 32 rfl _ _ (by simp[Act.eval,Act.put]) (by simp[Act.eval,Act.put]) (a1e _ _ _) ?_)
  go_wp2_with (at_builtin;refine wpList_copy_runI _ rfl _ _ 32 32 rfl _ _ rfl rfl (a7a _ (fun _=>rfl) (fun _=>rfl) _ _) ?_)
  go_ret
  first|exact⟨rfl,rfl⟩|exact⟨rfl,by rw[pt]⟩
theorem Va2 (b off n c i vb eW vc:Nat)(cs vs:List Value)(w:World)(hi:i<n)(zf:n ≤ c)(eu:c<n+1)(oA:n ≤ 100000000000)(fW:cs.length=n*16)(mb:vs.length=16)
    (lh:∀ j v,cs[j]?=some v → w.cell? ⟨b,off+j,none⟩=some v)
    (ic:∀ j v,vs[j]?=some v → w.cell? ⟨vb,eW+j,none⟩=some v) (xh:∀ v∈cs,v.oneCell'=true) (qp:∀ v∈vs,v.oneCell'=true) :
    Calls Tryz.prog 154 #[.slice (some ⟨b,off,none⟩) n c,.int .i64 i,.slice (some ⟨vb,eW,none⟩) 1 vc] w fun e w' =>
      ∃ z1 z2:Array Value,z1.size=(n+1-i)*16 ∧ z2.size=(grownCap w (n+1) c 95-(n+1))*16 ∧ e=.returned (.slice (some ⟨w.heap.size,0,none⟩) (n+1) (grownCap w (n+1) c 95)) ∧
      w'=(((w.alloc (.cells ((cs.take (i*16)).toArray++z1++z2) 95)).drew.setCells w.heap.size (i*16) vs).drew).setCells w.heap.size ((i+1)*16) (cs.drop (i*16)):=by
  have mixed:Tryz.prog.follows .mixedOrders=true:=by kernel_rfl
  obtain⟨i0,z,kx,np,nq,hzb,q8⟩:∃ i0 z,Tryz.prog.info? 95=some i0 ∧ i0.size=16 ∧ i0.zero=some z ∧ i0.bytes ≤ 1000 ∧ z.cells.size=16:=⟨_,_,rfl,rfl,rfl,by decide,rfl⟩;have nj:¬ ((i:Int)=(n:Int)):=by omega
  have hz3:(c:Int)<(n:Int)+1:=by omega
  have dh:(Tryz.prog.info? 95).map (·.size)=some 16:=by kernel_rfl
  have hbw:b<w.heap.size:=block_lt_of_cell (lh 0 _ (Vbq (by omega)));have xi:vb<w.heap.size:=block_lt_of_cell (ic 0 _ (Vbq (by omega)));have hkk:(n:Int)+1-(i:Int)=((n+1-i:Nat):Int):=by omega
  have hik:i+(n+1-i)=n+1:=by omega
  have fa:(n+1)*i0.bytes ≤ 140737488355328:=Xb3 (Nat.mul_le_mul (show n+1 ≤ 100000000001 by omega) hzb) (by decide);have qh:(n+1-i)*i0.bytes ≤ 281474976710656:=Xb3 (Nat.mul_le_mul_right _ (show n+1-i ≤ n+1 by omega)) (by omega)
  have hold:(Builtin.firstCells i0.size i (.slice (some ⟨b,off,none⟩) i c)).run Tryz.prog w.drew=.ok (cs.take (i*16)).toArray w.drew:=by
    rw[np]
    exact run_firstCells_some w.drew 16 i ⟨b,off,none⟩ i c (cs.take (i*16)) (by rw[Wbh];omega) (fun j v hj=>by
      rw[Addr.add_lit];rw[List.getElem?_take]at hj;split at hj
      · exact lh j v hj
      · cases hj)
  obtain⟨z1,lf⟩:∃ z1,z1=Builtin.zeroCells z.cells (n+1-i):=⟨_,rfl⟩;obtain⟨G,hG⟩:∃ G,G=grownCap w (n+1) c 95:=⟨_,rfl⟩;obtain⟨z2,zx⟩:∃ z2,z2=Builtin.zeroCells z.cells (G-(n+1)):=⟨_,rfl⟩;have kg:z1.size=(n+1-i)*16:=by rw[lf];simp[Builtin.zeroCells,q8]
  have kb:z2.size=(G-(n+1))*16:=by rw[zx];simp[Builtin.zeroCells,q8]
  obtain⟨py,vd⟩:∃ py:Array Value,py=(cs.take (i*16)).toArray++z1++z2:=⟨_,rfl⟩
  have hrz:∀ ty,(Builtin.append_ #[32,3] ty #[.slice (some ⟨b,off,none⟩) i c,.int .i64 ((n:Int)+1-(i:Int))]).run Tryz.prog w =
      .ok (.slice (some ⟨w.heap.size,0,none⟩) (n+1) G) (w.drew.alloc (.cells py 95)):=fun ty=>by
    have h:=Lib.run_append_grow_zeros w 32 3 ty 95 i0 z .i64 .i64 Tryz.underlying32 Tryz.underlying3 kx nq (some ⟨b,off,none⟩) i c (cs.take (i*16)) hold (n+1-i) (by omega) (by omega) (by omega) (by omega) qh (by rw[hik];exact growslice_fits eu fa);rw[hik]at h;rw[hkk,vd,lf,zx,hG];exact h
  have hGn:n+1 ≤ G:=by rw[hG];exact grownCap_ge w _ _ _
  rw[← hG]
  have hRl:(n+1)*16 ≤ py.size:=by
    rw[vd];simp only[Array.size_append,List.size_toArray,Wbh,kg];omega
  suffices hC:Calls Tryz.prog 154 #[.slice (some ⟨b,off,none⟩) n c,.int .i64 i,.slice (some ⟨vb,eW,none⟩) 1 vc] w fun e w' =>
      e=.returned (.slice (some ⟨w.heap.size,0,none⟩) (n+1) G) ∧
      w'=(((w.alloc (.cells py 95)).drew.setCells w.heap.size (i*16) vs).drew).setCells w.heap.size ((i+1)*16) (cs.drop (i*16)) from hC.mono fun e w' h=>⟨z1,z2,kg,kb,h.1,by rw[← vd];exact h.2⟩
  obtain⟨W1,pt⟩:∃ W1,W1=w.drew.alloc (.cells py 95):=⟨_,rfl⟩;rw[← pt]at hrz
  have hN:∀ j,j<(n+1)*16 → (W1.cell? ⟨w.heap.size,j,none⟩).isSome=true:=fun j hj=>by
    rw[pt,World.cell?_alloc_at (w:=w.drew) py _ w.heap.size j rfl,Array.getElem?_eq_getElem (by omega)];rfl
  have hNf:∀ j,W1.frozen? ⟨w.heap.size,j,none⟩=false:=fun j=>by rw[pt];exact World.frozen?_alloc_at (w:=w.drew) py _ w.heap.size j rfl
  have hOb:∀ j v,w.cell? ⟨b,j,none⟩=some v → W1.cell? ⟨b,j,none⟩=some v:=fun j v h=>by rw[pt,World.cell?_alloc_past (w:=w.drew) _ b j hbw];exact h
  have hOv:∀ j v,w.cell? ⟨vb,j,none⟩=some v → W1.cell? ⟨vb,j,none⟩=some v:=fun j v h=>by rw[pt,World.cell?_alloc_past (w:=w.drew) _ vb j xi];exact h
  have a6j:∀ (W:World),(∀ x,W.cell? x=W1.cell? x) → (∀ x,W.frozen? x=W1.frozen? x) → ∀ ty dc,(Builtin.copy_ #[32,32] ty #[.slice (some ⟨w.heap.size,i*16,none⟩) (n+1-i) dc,.slice (some ⟨vb,eW,none⟩) 1 vc]).run Tryz.prog W=.ok (goInt 1) (W.setCells w.heap.size (i*16) vs):=fun W w4 hWf ty dc=>by
    have h:=yG (P:=Tryz.prog) W 32 32 ty 95 w.heap.size (i*16) (n+1-i) dc ⟨vb,eW,none⟩ 1 vc vs Tryz.underlying32 dh (by rw[mb];simp only[Yb8];split<;>omega)
      (fun j v hj=>by rw[Addr.add_lit,w4];exact hOv _ v (ic j v hj))
      (fun j hj=>by rw[w4];exact hN _ (by omega)) (fun j hj=>by rw[hWf];exact hNf _) qp
    rw[h,show Nat.min 1 (n+1-i)=1 by simp only[Yb8];split<;>omega];rfl
  have hGi:¬ (G=i):=by omega
  have hGim:¬ (G=i+1):=by omega
  have hci:¬ (c=i):=by omega
  have hbN:b≠w.heap.size:=by omega
  have oe:(cs.drop (i*16)).length=(n-i)*16:=by rw[Wb4,fW];omega
  have a2r:∀ (W:World),(∀ x,W.cell? x=(W1.setCells w.heap.size (i*16) vs).cell? x) → (∀ x,W.frozen? x=(W1.setCells w.heap.size (i*16) vs).frozen? x) → ∀ ty dc sc,(Builtin.copy_ #[32,32] ty #[.slice (some ⟨w.heap.size,(i+1)*16,none⟩) (n-i) dc,.slice (some ⟨b,off+i*16,none⟩) (n-i) sc]).run Tryz.prog W=.ok (goInt ((n-i:Nat):Int)) (W.setCells w.heap.size ((i+1)*16) (cs.drop (i*16))):=fun W w4 hWf ty dc sc=>by
    have h:=yG (P:=Tryz.prog) W 32 32 ty 95 w.heap.size ((i+1)*16) (n-i) dc ⟨b,off+i*16,none⟩ (n-i) sc (cs.drop (i*16)) Tryz.underlying32 dh (by rw[oe];simp only[Yb8];split<;>omega)
      (fun j v hj=>by
        rw[Addr.add_lit,w4,World.cell?_setCells_out _ _ _ _ _ (fun h _=>absurd h hbN),Vb8];exact hOb _ v (lh (i*16+j) v (by rwa[Wbt]at hj)))
      (fun j hj=>by rw[w4];exact isSome_setCells _ _ _ _ (fun t ht=>hN _ (by omega)) _ (hN _ (by omega)))
      (fun j hj=>by rw[hWf,World.frozen?_setCells];exact hNf _) (fun v hv=>xh v (Xbj hv))
    rw[h,show Nat.min (n-i) (n-i)=n-i by simp only[Yb8];split<;>omega]
  subst pt;have hE1:∀ x,((w.alloc (.cells py 95)).drew).cell? x=(w.drew.alloc (.cells py 95)).cell? x:=fun x=>rfl
  have hE2:∀ x,((w.alloc (.cells py 95)).drew).frozen? x=(w.drew.alloc (.cells py 95)).frozen? x:=fun x=>rfl
  have hF1:∀ x,(((w.alloc (.cells py 95)).drew.setCells w.heap.size (i*16) vs).drew).cell? x=((w.drew.alloc (.cells py 95)).setCells w.heap.size (i*16) vs).cell? x:=fun x=>rfl
  have hF2:∀ x,(((w.alloc (.cells py 95)).drew.setCells w.heap.size (i*16) vs).drew).frozen? x=((w.drew.alloc (.cells py 95)).setCells w.heap.size (i*16) vs).frozen? x:=fun x=>rfl
  have hw1:IntKind.i64.wrap ((i:Int)+1)=(i:Int)+1:=by rw[IntKind.wrap_i64];omega
  have hw2:IntKind.i64.wrap ((n:Int)+1)=(n:Int)+1:=by rw[IntKind.wrap_i64];omega
  have hw3:IntKind.i64.wrap ((n:Int)+1-(i:Int))=(n:Int)+1-(i:Int):=by rw[IntKind.wrap_i64];omega
  have lR:(0:Int) ≤ (i:Int)+1:=by omega
  have gm:i ≤ n:=by omega
  have htn:((i:Int)+1).toNat=i+1:=by omega
  have rh:(i:Int) ≤ (n:Int):=by omega
  have hb6:i ≤ c:=by omega
  have rS:i ≤ n+1:=by omega
  have hb8:n ≤ G:=by omega
  clear hkk hik hold vd hG hRl fa qh zx lf kg kb hzb q8 nq kx np hN hNf hOb hOv dh oe xh qp lh ic
  go_enter Tryz.func154,Tryz.ntmps154
  go_wp2_with (first
    |(at_builtin;refine Lib.wpList_append_run _ rfl _ _ _ _ rfl _ _ rfl rfl _ _ (hrz _) ?_)
    |(at_builtin;refine wpList_copy_runI _ rfl _ _ 32 32 rfl _ _ rfl rfl (a6j _ hE1 hE2 _ _) ?_)
    |(at_builtin;refine wpList_copy_runI _ rfl _ _ 32 32 rfl _ _ rfl rfl (a2r _ (fun _=>rfl) (fun _=>rfl) _ _ _) ?_))
  go_region_law_o (refine step_copy_runI rfl _ _ 32 32 rfl (.slice (some ⟨w.heap.size,(i+1)*16,none⟩) (n-i) (G-(i+1))) (.slice (some ⟨b,off+i*16,none⟩) (n-i) (c-i)) (by simp[Act.eval,Act.put]) (by simp[Act.eval,Act.put]) (a2r _ hF1 hF2 _ (G-(i+1)) (c-i)) ?_)
  go_wp2
  go_ret
  exact⟨rfl,rfl⟩
theorem Va0:Sav Tryz.prog 154 16:=by
  intro A n c i vb eW vc cs vs w gm zf oA fW mb xh qp jo hA ic hfv;have yx:=ic 0 _ (Vbq (show 0<vs.length by omega));by_cases eu:n+1 ≤ c
  · obtain⟨a,rfl⟩:∃ a,A=some a:=by
      cases A with
      |none=>have:=jo rfl;omega
      |some a=>exact⟨a,rfl⟩
    obtain⟨gk,cU,tU,lh,cT⟩:=hA a rfl;obtain⟨b,off,s⟩:=a;obtain rfl:s=none:=gk;dsimp only at cU lh cT;have tU:=tU (by omega)
    rcases Wbc i n with hi|hi
    · obtain⟨u0,ru⟩:=cT 0 (by omega)
      obtain⟨tA,kA,hsa,-⟩:=Bao yx;obtain⟨tB,kB,qT,hkB⟩:=Bao ru;refine (Ra3 b off n c i vb eW vc cs vs w hi eu oA (fun e=>cU e.symm) fW mb lh (fun j hj=>by obtain⟨u,hu⟩:=cT j (by omega);rw[hu];rfl) (fun j=>xG tU rfl) ic xh qp tA tB kA kB hsa qT hkB (xG hfv rfl) (xG hfv rfl)).mono ?_
      rintro e w' ⟨rfl,hw⟩
      exact⟨b,off,c,rfl,Ya1 hi eu fW mb tU lh cT hw⟩
    · obtain rfl:i=n:=by omega
      refine (Va1 b off i c vb eW vc vs w eu mb (fun j hj=>by obtain⟨u,hu⟩:=cT (i*16+j) (by omega);rw[← Vb8]at hu;rw[hu];rfl) (fun j _=>xG tU rfl) ic qp).mono ?_
      rintro e w' ⟨rfl,hw⟩
      exact⟨b,off,c,rfl,Oa8 eu fW mb tU lh cT hw⟩
  · rcases Wbc i n with hi|hi
    · obtain⟨a,rfl⟩:∃ a,A=some a:=by
        cases A with
        |none=>have:=jo rfl;omega
        |some a=>exact⟨a,rfl⟩
      obtain⟨gk,cU,tU,lh,cT⟩:=hA a rfl;obtain⟨b,off,s⟩:=a;obtain rfl:s=none:=gk;refine (Va2 b off n c i vb eW vc cs vs w hi zf (by omega) oA fW mb lh ic xh qp).mono ?_
      rintro e w' ⟨z1,z2,kg,kb,rfl,hw⟩
      exact⟨w.heap.size,0,grownCap w (n+1) c 95,rfl,Dbx hi (grownCap_ge w _ _ _) fW mb kg kb hw⟩
    · obtain rfl:i=n:=by omega
      refine (Ya7 A i c vb eW vc cs vs w (by omega) oA fW mb (fun e=>by have:=jo e;omega) (fun a e j u hj=>by
        obtain⟨gk,-,-,lh,-⟩:=hA a e;obtain⟨b,off,s⟩:=a;obtain rfl:s=none:=gk;rw[Addr.add_lit];exact lh j u hj) ic qp).mono ?_
      rintro e w' ⟨zs,hl,rfl,hw⟩
      exact⟨w.heap.size,0,grownCap w (i+1) c 95,rfl,Oa9 (grownCap_ge w _ _ _) fW mb hl hw⟩
end
theorem Ube:K 132 Jbv:=Gb7 (m:=98) Tryz.func154 (by kernel_rfl) rfl (by decide) Va0 rfl
theorem o0:K 0 sg0:=fnK (E:=E0) (tm:=tm0) Tryz.func7 (by kernel_rfl)
theorem o1:K 1 sg1:=fnK (E:=E0) (tm:=tm1) Tryz.func30 (by kernel_rfl)
theorem o2:K 2 sg2:=fnK (E:=E0) (tm:=tm2) Tryz.func31 (by kernel_rfl)
theorem o3:K 3 sg3:=fnK (E:=⟨lX tiL,sigs,0,0,false,false,[],[],[],0,[23,24,30,31,51,52,53,54,57,58,59,69,70,94,95,158,159,219,220]⟩) (tm:=tm3) Tryz.func100 (by kernel_rfl)
theorem o4:K 4 sg4:=fnK (E:=E0) (tm:=tm4) Tryz.func178 (by kernel_rfl)
theorem o5:K 5 sg5:=fnK (E:=E0) (tm:=tm5) Tryz.func109 (by kernel_rfl)
theorem o6:K 6 sg6:=fnK (E:=E0) (tm:=tm6) Tryz.func186 (by kernel_rfl)
theorem o7:K 7 sg7:=fnK (E:=E0) (tm:=tm7) Tryz.func47 (by kernel_rfl)
theorem o8:K 8 sg8:=fnK (E:=E0) (tm:=tm8) Tryz.func127 (by kernel_rfl)
theorem o9:K 9 sg9:=fnK (E:=E0) (tm:=tm9) Tryz.func115 (by kernel_rfl)
theorem o10:K 10 Sbs:=fnK (E:=E0) (tm:=Obk) Tryz.func128 (by kernel_rfl)
theorem o11:K 11 Sbr:=fnK (E:=E0) (tm:=Obi) Tryz.func179 (by kernel_rfl)
theorem o12:K 12 Sbq:=fnK (E:=E0) (tm:=Obh) Tryz.func108 (by kernel_rfl)
theorem o13:K 13 Sbp:=fnK (E:=E0) (tm:=Obg) Tryz.func21 (by kernel_rfl)
theorem o14:K 14 Sbo:=fnK (E:=E0) (tm:=Obf) Tryz.func40 (by kernel_rfl)
theorem o15:K 15 Sbn:=fnK (E:=⟨lX tiL,sigs,0,0,false,false,[],[(7,[(84,0,0,0)],[3,12,60,63,66,78,81,84,1],0,[]),(4,[(66,0,0,0)],[3,60,63,66,1],1,[])],[],0,[]⟩) (tm:=Obe) Tryz.func114 (by kernel_rfl)
theorem o16:K 16 Sbm:=fnK (E:=E0) (tm:=Obd) Tryz.func151 (by kernel_rfl)
theorem o17:K 17 Sbl:=fnK (E:=E0) (tm:=Ibq) Tryz.func75 (by kernel_rfl)
theorem o18:K 18 Sbk:=fnK (E:=E0) (tm:=Obc) Tryz.func165 (by kernel_rfl)
theorem o19:K 19 Sbj:=fnK (E:=E0) (tm:=Obb) Tryz.func214 (by kernel_rfl)
theorem o20:K 20 Sbi:=fnK (E:=E0) (tm:=Oba) Tryz.func85 (by kernel_rfl)
theorem o21:K 21 Sbh:=fnK (E:=E0) (tm:=Nb9) Tryz.func156 (by kernel_rfl)
theorem o22:K 22 Sbg:=fnK (E:=E0) (tm:=Nb8) Tryz.func209 (by kernel_rfl)
theorem o23:K 23 Sbf:=fnK (E:=E0) (tm:=Nb7) Tryz.func164 (by kernel_rfl)
theorem o24:K 24 Sbe:=fnK (E:=E0) (tm:=Nb6) Tryz.func213 (by kernel_rfl)
theorem o25:K 25 Sbd:=fnK (E:=⟨lX tiL,sigs,0,0,false,false,[],[(4,[(165,0,0,0)],[0,15,159,162,165,1],0,[])],[],0,[]⟩) (tm:=Nb5) Tryz.func116 (by kernel_rfl)
theorem o26:K 26 Sbc:=fnK (E:=E0) (tm:=Nb4) Tryz.func73 (by kernel_rfl)
theorem o27:K 27 Sbb:=fnK (E:=E0) (tm:=Nb3) Tryz.func194 (by kernel_rfl)
theorem o28:K 28 Sba:=fnK (E:=E0) (tm:=Nb2) Tryz.func195 (by kernel_rfl)
theorem o29:K 29 Rb9:=fnK (E:=E0) (tm:=Nb1) Tryz.func51 (by kernel_rfl)
theorem o30:K 30 Rb8:=fnK (E:=⟨lX tiL,sigs,0,0,false,false,[],[(6,[(63,0,0,0),(16,1,2,99)],[6,9,12,36,39,42,57,60,63,1,4,16],177,[546]),(3,[(42,0,0,0),(16,1,2,99)],[6,9,36,39,42,1,4,16],180,[0])],[],0,[]⟩) (tm:=Nb0) Tryz.func123 (by kernel_rfl)
theorem o31:K 31 Rb7:=fnK (E:=E0) (tm:=Nbz) Tryz.func133 (by kernel_rfl)
theorem o32:K 32 Rb6:=fnK (E:=E0) (tm:=Nby) Tryz.func172 (by kernel_rfl)
theorem o33:K 33 Rb5:=fnK (E:=E0) (tm:=Nbx) Tryz.func202 (by kernel_rfl)
theorem o34:K 34 Rb4:=fnK (E:=E0) (tm:=Nbw) Tryz.func132 (by kernel_rfl)
theorem o35:K 35 Rb3:=fnK (E:=⟨lX tiL,sigs,0,0,false,false,[],[(6,[(81,0,0,0),(19,0,0,0),(19,1,2,99)],[6,9,15,24,27,30,54,57,60,75,78,81,1,4,7,19],13,[63]),(3,[(60,0,0,0),(19,0,0,0),(19,1,2,99)],[6,9,15,24,27,54,57,60,1,4,7,19],18,[0])],[],0,[]⟩) (tm:=Nbv) Tryz.func87 (by kernel_rfl)
theorem o36:K 36 Rb2:=fnK (E:=E0) (tm:=Nbu) Tryz.func157 (by kernel_rfl)
theorem o37:K 37 Rb1:=fnK (E:=E0) (tm:=Nbt) Tryz.func210 (by kernel_rfl)
theorem o38:K 38 Rb0:=fnK (E:=E0) (tm:=Nbs) Tryz.func216 (by kernel_rfl)
theorem o39:K 39 Rbz:=fnK (E:=E0) (tm:=Nbr) Tryz.func158 (by kernel_rfl)
theorem o40:K 40 Rby:=fnK (E:=⟨lX tiL,sigs,0,0,false,false,[],[],[],0,[23,24,30,31,51,52,53,54,57,58,59,69,70,94,95,158,159,219,220]⟩) (tm:=Nbq) Tryz.func86 (by kernel_rfl)
theorem o41:K 41 Rbx:=fnK (E:=E0) (tm:=Nbp) Tryz.func77 (by kernel_rfl)
theorem o42:K 42 Rbw:=fnK (E:=E0) (tm:=Nbo) Tryz.func152 (by kernel_rfl)
theorem o43:K 43 Rbv:=fnK (E:=⟨lX tiL,sigs,0,0,false,false,[],[],[],0,[23,24,30,31,51,52,53,54,57,58,59,69,70,94,95,158,159,219,220]⟩) (tm:=Nbn) Tryz.func76 (by kernel_rfl)
theorem o44:K 44 Rbu:=fnK (E:=E0) (tm:=Nbm) Tryz.func134 (by kernel_rfl)
theorem o45:K 45 Rbt:=fnK (E:=E0) (tm:=Nbl) Tryz.func78 (by kernel_rfl)
theorem o46:K 46 Rbs:=fnK (E:=E0) (tm:=Nbk) Tryz.func94 (by kernel_rfl)
theorem o47:K 47 Rbr:=fnK (E:=E0) (tm:=Ibp) Tryz.func55 (by kernel_rfl)
theorem o48:K 48 Rbq:=fnK (E:=E0) (tm:=Nbj) Tryz.func107 (by kernel_rfl)
theorem o49:K 49 Rbp:=fnK (E:=⟨lX tiL,sigs,0,0,true,false,[],[],[],0,[23,24,30,31,51,52,53,54,57,58,59,69,70,94,95,158,159,219,220]⟩) (tm:=Nbi) Tryz.func19 (by kernel_rfl)
theorem o50:K 50 Rbo:=fnK (E:=E0) (tm:=Nbh) Tryz.func53 (by kernel_rfl)
theorem o51:K 51 Rbn:=fnK (E:=E0) (tm:=Nbg) Tryz.func74 (by kernel_rfl)
theorem o52:K 52 Rbm:=fnK (E:=E0) (tm:=Nbf) Tryz.func149 (by kernel_rfl)
theorem o53:K 53 Rbl:=fnK (E:=E0) (tm:=Nbe) Tryz.func150 (by kernel_rfl)
theorem o54:K 54 Rbk:=fnK (E:=E0) (tm:=Nbd) Tryz.func110 (by kernel_rfl)
theorem o55:K 55 Rbj:=fnK (E:=E0) (tm:=Nbc) Tryz.func187 (by kernel_rfl)
theorem o56:K 56 Rbi:=fnK (E:=E0) (tm:=Nbb) Tryz.func188 (by kernel_rfl)
theorem o57:K 57 Rbh:=fnK (E:=E0) (tm:=Nba) Tryz.func189 (by kernel_rfl)
theorem o58:K 58 Rbg:=fnK (E:=E0) (tm:=Mb9) Tryz.func101 (by kernel_rfl)
theorem o59:K 59 Rbf:=fnK (E:=⟨lX tiL,sigs,0,0,false,false,[],[],[],0,[23,24,30,31,51,52,53,54,57,58,59,69,70,94,95,158,159,219,220]⟩) (tm:=Mb8) Tryz.func25 (by kernel_rfl)
theorem o60:K 60 Rbe:=fnK (E:=E0) (tm:=Mb7) Tryz.func92 (by kernel_rfl)
theorem o61:K 61 Rbd:=fnK (E:=⟨lX tiL,sigs,0,0,false,false,[],[],[],0,[23,24,30,31,51,52,53,54,57,58,59,69,70,94,95,158,159,219,220]⟩) (tm:=Mb6) Tryz.func93 (by kernel_rfl)
theorem o62:K 62 Rbc:=fnK (E:=⟨lX tiL,sigs,0,0,false,false,[],[],[],0,[23,24,30,31,51,52,53,54,57,58,59,69,70,94,95,158,159,219,220]⟩) (tm:=Mb5) Tryz.func166 (by kernel_rfl)
theorem o63:K 63 Rbb:=fnK (E:=E0) (tm:=Mb4) Tryz.func215 (by kernel_rfl)
theorem o64:K 64 Rba:=fnK (E:=⟨lX tiL,sigs,0,0,false,false,[],[],[],0,[23,24,30,31,51,52,53,54,57,58,59,69,70,94,95,158,159,219,220]⟩) (tm:=Mb3) Tryz.func167 (by kernel_rfl)
theorem o65:K 65 Qb9:=fnK (E:=E0) (tm:=Mb2) Tryz.func168 (by kernel_rfl)
theorem o66:K 66 Qb8:=fnK (E:=E0) (tm:=Mb1) Tryz.func52 (by kernel_rfl)
theorem o67:K 67 Qb7:=fnK (E:=⟨lX tiL,sigs,0,0,false,false,[],[],[],0,[23,24,30,31,51,52,53,54,57,58,59,69,70,94,95,158,159,219,220]⟩) (tm:=Mb0) Tryz.func169 (by kernel_rfl)
theorem o68:K 68 Qb6:=fnK (E:=⟨lX tiL,sigs,0,0,false,false,[],[],[],0,[23,24,30,31,51,52,53,54,57,58,59,69,70,94,95,158,159,219,220]⟩) (tm:=Mbz) Tryz.func170 (by kernel_rfl)
theorem o69:K 69 Qb5:=fnK (E:=⟨lX tiL,sigs,0,0,false,false,[],[],[],0,[23,24,30,31,51,52,53,54,57,58,59,69,70,94,95,158,159,219,220]⟩) (tm:=Mby) Tryz.func54 (by kernel_rfl)
theorem o70:K 70 Qb4:=fnK (E:=⟨lX tiL,sigs,0,0,false,false,[],[],[],0,[23,24,30,31,51,52,53,54,57,58,59,69,70,94,95,158,159,219,220]⟩) (tm:=Mbx) Tryz.func171 (by kernel_rfl)
theorem o71:K 71 Qb3:=fnK (E:=⟨lX tiL,sigs,0,0,false,false,[],[(5,[(21,0,0,0),(24,0,0,0),(27,0,0,0),(51,0,0,0),(25,0,0,0),(25,1,2,99)],[0,3,15,18,21,24,27,30,45,48,51,4,7,25],10,[0])],[],0,[]⟩) (tm:=Mbw) Tryz.func217 (by kernel_rfl)
theorem o72:K 72 Qb2:=fnK (E:=E0) (tm:=Mbv) Tryz.func23 (by kernel_rfl)
theorem o73:K 73 Qb1:=fnK (E:=E0) (tm:=Mbu) Tryz.func39 (by kernel_rfl)
theorem o74:K 74 Qb0:=fnK (E:=E0) (tm:=Mbt) Tryz.func104 (by kernel_rfl)
theorem o75:K 75 Qbz:=fnK (E:=E0) (tm:=Mbs) Tryz.func125 (by kernel_rfl)
theorem o76:K 76 Qby:=fnK (E:=E0) (tm:=Mbr) Tryz.func182 (by kernel_rfl)
theorem o77:K 77 Qbx:=fnK (E:=E0) (tm:=Mbq) Tryz.func223 (by kernel_rfl)
theorem o78:K 78 Qbw:=fnK (E:=E0) (tm:=Mbp) Tryz.func183 (by kernel_rfl)
theorem o79:K 79 Qbv:=fnK (E:=E0) (tm:=Mbo) Tryz.func184 (by kernel_rfl)
theorem o80:K 80 Qbu:=fnK (E:=E0) (tm:=Mbn) Tryz.func224 (by kernel_rfl)
theorem o81:K 81 Qbt:=fnK (E:=E0) (tm:=Mbm) Tryz.func185 (by kernel_rfl)
theorem o82:K 82 Qbs:=fnK (E:=E0) (tm:=Mbl) Tryz.func117 (by kernel_rfl)
theorem o83:K 83 Qbr:=fnK (E:=E0) (tm:=Mbk) Tryz.func111 (by kernel_rfl)
theorem o84:K 84 Qbq:=fnK (E:=E0) (tm:=Mbj) Tryz.func88 (by kernel_rfl)
theorem o85:K 85 Qbp:=fnK (E:=E0) (tm:=Mbi) Tryz.func159 (by kernel_rfl)
theorem o86:K 86 Qbo:=fnK (E:=E0) (tm:=Mbh) Tryz.func119 (by kernel_rfl)
theorem o87:K 87 Qbn:=fnK (E:=E0) (tm:=Mbg) Tryz.func196 (by kernel_rfl)
theorem o88:K 88 Qbm:=fnK (E:=E0) (tm:=Mbf) Tryz.func229 (by kernel_rfl)
theorem o89:K 89 Qbl:=fnK (E:=E0) (tm:=Mbe) Tryz.func197 (by kernel_rfl)
theorem o90:K 90 Qbk:=fnK (E:=E0) (tm:=Mbd) Tryz.func81 (by kernel_rfl)
theorem o91:K 91 Qbj:=fnK (E:=E0) (tm:=Mbc) Tryz.func120 (by kernel_rfl)
theorem o92:K 92 Qbi:=fnK (E:=E0) (tm:=Mbb) Tryz.func198 (by kernel_rfl)
theorem o93:K 93 Qbh:=fnK (E:=E0) (tm:=Mba) Tryz.func112 (by kernel_rfl)
theorem o94:K 94 Qbg:=fnK (E:=E0) (tm:=Lb9) Tryz.func105 (by kernel_rfl)
theorem o95:K 95 Qbf:=fnK (E:=E0) (tm:=Lb8) Tryz.func190 (by kernel_rfl)
theorem o96:K 96 Qbe:=fnK (E:=E0) (tm:=Lb7) Tryz.func225 (by kernel_rfl)
theorem o97:K 97 Qbd:=fnK (E:=E0) (tm:=Lb6) Tryz.func196 (by kernel_rfl)
theorem o98:K 98 Qbc:=fnK (E:=E0) (tm:=Lb5) Tryz.func229 (by kernel_rfl)
theorem o99:K 99 Qbb:=fnK (E:=E0) (tm:=Lb4) Tryz.func226 (by kernel_rfl)
theorem Ub9:K 100 Kbq:=fnK (E:=E0) (tm:=Cbt) Tryz.func191 (by kernel_rfl)
theorem Ub8:K 101 Kbp:=fnK (E:=E0) (tm:=Cbs) Tryz.func227 (by kernel_rfl)
theorem Ub7:K 102 Kbo:=fnK (E:=E0) (tm:=Cbr) Tryz.func184 (by kernel_rfl)
theorem Ub6:K 103 Kbn:=fnK (E:=E0) (tm:=Cbq) Tryz.func224 (by kernel_rfl)
theorem Ub5:K 104 Kbm:=fnK (E:=E0) (tm:=Cbp) Tryz.func192 (by kernel_rfl)
theorem Ub4:K 105 Kbl:=fnK (E:=E0) (tm:=Cbo) Tryz.func113 (by kernel_rfl)
theorem Ub3:K 106 Kbk:=fnK (E:=E0) (tm:=Cbn) Tryz.func193 (by kernel_rfl)
theorem Ub2:K 107 Kbj:=fnK (E:=E0) (tm:=Cbm) Tryz.func228 (by kernel_rfl)
theorem Ub1:K 108 Kbi:=fnK (E:=E0) (tm:=Cbl) Tryz.func59 (by kernel_rfl)
theorem Ub0:K 109 Kbh:=fnK (E:=E0) (tm:=Cbk) Tryz.func122 (by kernel_rfl)
theorem Ubz:K 110 Kbg:=fnK (E:=E0) (tm:=Cbj) Tryz.func199 (by kernel_rfl)
theorem o111:K 111 Kbf:=fnK (E:=E0) (tm:=Cbi) Tryz.func142 (by kernel_rfl)
theorem Uby:K 112 Kbe:=fnK (E:=E0) (tm:=Cbh) Tryz.func153 (by kernel_rfl)
theorem Ubx:K 113 Kbd:=fnK (E:=E0) (tm:=Cbg) Tryz.func140 (by kernel_rfl)
theorem Ubv:K 115 Kbc:=fnK (E:=E0) (tm:=Cbf) Tryz.func63 (by kernel_rfl)
theorem Ubu:K 116 Kbb:=fnK (E:=E0) (tm:=Cbe) Tryz.func89 (by kernel_rfl)
theorem Ubt:K 117 Kba:=fnK (E:=⟨lX tiL,sigs,0,0,false,false,[],[(5,[(54,0,0,0),(10,0,0,0),(10,1,2,99)],[93,96,99,102,3,12,27,30,33,48,51,54,1,4,7,10,13],1,[27]),(2,[(33,0,0,0),(10,0,0,0),(10,1,2,99)],[93,96,99,102,3,27,30,33,1,4,7,10,13],6,[0])],[],0,[]⟩) (tm:=Cbd) Tryz.func160 (by kernel_rfl)
theorem Ubs:K 118 Jb9:=fnK (E:=E0) (tm:=Cbc) Tryz.func161 (by kernel_rfl)
theorem Ubr:K 119 Jb8:=fnK (E:=E0) (tm:=Cbb) Tryz.func162 (by kernel_rfl)
theorem Ubq:K 120 Jb7:=fnK (E:=E0) (tm:=Cba) Tryz.func211 (by kernel_rfl)
theorem Ubp:K 121 Jb6:=fnK (E:=E0) (tm:=Bb9) Tryz.func196 (by kernel_rfl)
theorem Ubo:K 122 Jb5:=fnK (E:=E0) (tm:=Bb8) Tryz.func229 (by kernel_rfl)
theorem Ubn:K 123 Jb4:=fnK (E:=E0) (tm:=Bb7) Tryz.func212 (by kernel_rfl)
theorem Ubm:K 124 Jb3:=fnK (E:=E0) (tm:=Bb6) Tryz.func90 (by kernel_rfl)
theorem Ubl:K 125 Jb2:=fnK (E:=E0) (tm:=Bb5) Tryz.func83 (by kernel_rfl)
theorem Ubk:K 126 Jb1:=fnK (E:=E0) (tm:=Bb4) Tryz.func82 (by kernel_rfl)
theorem Ubj:K 127 Jb0:=fnK (E:=E0) (tm:=Bb3) Tryz.func139 (by kernel_rfl)
theorem Ubi:K 128 Jbz:=fnK (E:=E0) (tm:=Bb2) Tryz.func60 (by kernel_rfl)
theorem Ubh:K 129 Jby:=fnK (E:=E0) (tm:=Bb1) Tryz.func137 (by kernel_rfl)
theorem Ubg:K 130 Jbx:=fnK (E:=E0) (tm:=Bb0) Tryz.func138 (by kernel_rfl)
theorem Ubd:K 133 Jbu:=fnK (E:=E0) (tm:=Uaw) Tryz.func84 (by kernel_rfl)
theorem Ubc:K 134 Jbt:=fnK (E:=E0) (tm:=Uav) Tryz.func155 (by kernel_rfl)
theorem Ubb:K 135 Jbs:=fnK (E:=E0) (tm:=Bbz) Tryz.func208 (by kernel_rfl)
theorem Uba:K 136 Jbr:=fnK (E:=E0) (tm:=Bby) Tryz.func64 (by kernel_rfl)
theorem Tb9:K 137 Jbq:=fnK (E:=E0) (tm:=Bbx) Tryz.func32 (by kernel_rfl)
theorem Tb8:K 138 Jbp:=fnK (E:=E0) (tm:=Bbw) Tryz.func48 (by kernel_rfl)
theorem Tb7:K 139 Jbo:=fnK (E:=E0) (tm:=Bbv) Tryz.func129 (by kernel_rfl)
theorem Tb6:K 140 Jbn:=fnK (E:=E0) (tm:=Bbu) Tryz.func106 (by kernel_rfl)
theorem Tb5:K 141 Jbm:=fnK (E:=E0) (tm:=Bbt) Tryz.func180 (by kernel_rfl)
theorem Tb4:K 142 Jbl:=fnK (E:=E0) (tm:=Bbs) Tryz.func181 (by kernel_rfl)
theorem Tb3:K 143 Jbk:=fnK (E:=E0) (tm:=Bbr) Tryz.func102 (by kernel_rfl)
theorem Tb2:K 144 Jbj:=fnK (E:=E0) (tm:=Bbq) Tryz.func33 (by kernel_rfl)
theorem Tb1:K 145 Jbi:=fnK (E:=E0) (tm:=Bbp) Tryz.func103 (by kernel_rfl)
theorem Tb0:K 146 Jbh:=fnK (E:=E0) (tm:=Bbo) Tryz.func34 (by kernel_rfl)
theorem Tbz:K 147 Jbg:=fnK (E:=E0) (tm:=Bbn) Tryz.func80 (by kernel_rfl)
theorem Tby:K 148 Jbf:=fnK (E:=⟨lX tiL,sigs,0,0,false,false,[],[(5,[(63,0,0,0)],[6,9,15,33,36,57,60,63,1,4],0,[]),(2,[(36,0,0,0)],[6,9,33,36,1,4],1,[])],[],0,[]⟩) (tm:=Bbm) Tryz.func35 (by kernel_rfl)
theorem Tbx:K 149 Jbe:=fnK (E:=E0) (tm:=Bbl) Tryz.func36 (by kernel_rfl)
theorem Tbw:K 150 Jbd:=fnK (E:=⟨lX tiL,sigs,0,0,true,false,[],[],[],0,[]⟩) (tm:=Bbk) Tryz.func20 (by kernel_rfl)
theorem Tbv:K 151 Jbc:=fnK (E:=E0) (tm:=Bbj) Tryz.func58 (by kernel_rfl)
theorem Tbu:K 152 Jbb:=fnK (E:=E0) (tm:=Bbi) Tryz.func79 (by kernel_rfl)
theorem Tbt:K 153 Jba:=fnK (E:=E0) (tm:=Bbh) Tryz.func37 (by kernel_rfl)
theorem Tbs:K 154 Ib9:=fnK (E:=E0) (tm:=Bbg) Tryz.func12 (by kernel_rfl)
theorem Tbr:K 155 Ib8:=fnK (E:=E0) (tm:=Bbf) Tryz.func61 (by kernel_rfl)
theorem Tbq:K 156 Ib7:=fnK (E:=E0) (tm:=Bbe) Tryz.func62 (by kernel_rfl)
theorem Tbp:K 157 Ib6:=fnK (E:=E0) (tm:=Bbd) Tryz.func10 (by kernel_rfl)
theorem Lbf:∀ key s,(key,s)∈sigs → Waw Tryz.prog T (lX tiL) sigs key s:=Uac (fc o0 <| fc o1 <| fc o2 <| fc o3 <| fc o4 <| fc o5 <| fc o6 <| fc o7 <| fc o8 <| fc o9 <| fc o10 <| fc o11 <| fc o12 <| fc o13 <| fc o14 <| fc o15 <| fc o16 <| fc o17 <| fc o18 <| fc o19 <| fc o20 <| fc o21 <| fc o22 <| fc o23 <| fc o24 <| fc o25 <| fc o26 <| fc o27 <| fc o28 <| fc o29 <| fc o30 <| fc o31 <| fc o32 <| fc o33 <| fc o34 <| fc o35 <| fc o36 <| fc o37 <| fc o38 <| fc o39 <| fc o40 <| fc o41 <| fc o42 <| fc o43 <| fc o44 <| fc o45 <| fc o46 <| fc o47 <| fc o48 <| fc o49 <| fc o50 <| fc o51 <| fc o52 <| fc o53 <| fc o54 <| fc o55 <| fc o56 <| fc o57 <| fc o58 <| fc o59 <| fc o60 <| fc o61 <| fc o62 <| fc o63 <| fc o64 <| fc o65 <| fc o66 <| fc o67 <| fc o68 <| fc o69 <| fc o70 <| fc o71 <| fc o72 <| fc o73 <| fc o74 <| fc o75 <| fc o76 <| fc o77 <| fc o78 <| fc o79 <| fc o80 <| fc o81 <| fc o82 <| fc o83 <| fc o84 <| fc o85 <| fc o86 <| fc o87 <| fc o88 <| fc o89 <| fc o90 <| fc o91 <| fc o92 <| fc o93 <| fc o94 <| fc o95 <| fc o96 <| fc o97 <| fc o98 <| fc o99 <| fc Ub9 <| fc Ub8 <| fc Ub7 <| fc Ub6 <| fc Ub5 <| fc Ub4 <| fc Ub3 <| fc Ub2 <| fc Ub1 <| fc Ub0 <| fc Ubz <| fc o111 <| fc Uby <| fc Ubx <| fc Ubw <| fc Ubv <| fc Ubu <| fc Ubt <| fc Ubs <| fc Ubr <| fc Ubq <| fc Ubp <| fc Ubo <| fc Ubn <| fc Ubm <| fc Ubl <| fc Ubk <| fc Ubj <| fc Ubi <| fc Ubh <| fc Ubg <| fc Ubf <| fc Ube <| fc Ubd <| fc Ubc <| fc Ubb <| fc Uba <| fc Tb9 <| fc Tb8 <| fc Tb7 <| fc Tb6 <| fc Tb5 <| fc Tb4 <| fc Tb3 <| fc Tb2 <| fc Tb1 <| fc Tb0 <| fc Tbz <| fc Tby <| fc Tbx <| fc Tbw <| fc Tbv <| fc Tbu <| fc Tbt <| fc Tbs <| fc Tbr <| fc Tbq <| fc Tbp <| fc0)
theorem contract:∀ n,vF Tryz.prog T n 0 sg0:=fun n=>contracts Eb6 (by kernel_rfl) Lbf n 0 sg0 (by simp[sigs])
end FnLeads
end Go.Proofs.YtgpamlpecmldfaaGreat
