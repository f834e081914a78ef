import Derived.Test.YtcbkmmhkccnamaaGreatChecked
import Derived.Test.YtcbkmmhkccnamaaGreatRf9
import Derived.KernelRfl
set_option linter.all false
namespace Go.Proofs.YtcbkmmhkccnamaaGreat
namespace FnExactFirstOpen
open Go Go.Proofs.YtcbkmmhkccnamaaGreat.Rf
set_option maxRecDepth 100000
def t3:TI:=⟨false,1,8,[.sc (.int .i64 0)],[],none,(some .i64),false,false,false,false⟩
theorem ti3:rM Tryz.prog 3=some t3:=by kernel_rfl
def t4:TI:=⟨false,1,1,[.sc (.bool false)],[],none,none,true,false,false,false⟩
theorem ti4:rM Tryz.prog 4=some t4:=by kernel_rfl
def t22:TI:=⟨false,1,24,[.sl 4],[],(some 90),none,false,false,false,false⟩
theorem Nbi:rM Tryz.prog 22=some t22:=by kernel_rfl
def t23:TI:=⟨false,1,24,[.sl 15],[],(some 96),none,false,false,false,false⟩
theorem Nbh:rM Tryz.prog 23=some t23:=by kernel_rfl
def t24:TI:=⟨false,1,24,[.sl 7],[],(some 116),none,false,false,false,false⟩
theorem Nbg:rM Tryz.prog 24=some t24:=by kernel_rfl
def t26:TI:=⟨true,3,72,[.sl 4,.sl 15,.sl 7],[(0,22),(1,23),(2,24)],none,none,false,false,false,false⟩
theorem Nbf:rM Tryz.prog 26=some t26:=by kernel_rfl
def t27:TI:=⟨false,1,24,[.sl 1],[],(some 3),none,false,false,false,false⟩
theorem Nbe:rM Tryz.prog 27=some t27:=by kernel_rfl
def t31:TI:=⟨false,1,24,[.sl 4],[],(some 71),none,false,false,false,false⟩
theorem Nbd:rM Tryz.prog 31=some t31:=by kernel_rfl
def t32:TI:=⟨false,1,24,[.sl 15],[],(some 102),none,false,false,false,false⟩
theorem Nbc:rM Tryz.prog 32=some t32:=by kernel_rfl
def t33:TI:=⟨false,1,24,[.sl 7],[],(some 113),none,false,false,false,false⟩
theorem Nbb:rM Tryz.prog 33=some t33:=by kernel_rfl
def t35:TI:=⟨true,3,72,[.sl 4,.sl 15,.sl 7],[(0,31),(1,32),(2,33)],none,none,false,false,false,false⟩
theorem Nba:rM Tryz.prog 35=some t35:=by kernel_rfl
def t52:TI:=⟨false,1,24,[.sl 1],[],(some 27),none,false,false,false,false⟩
theorem Mb9:rM Tryz.prog 52=some t52:=by kernel_rfl
def t66:TI:=⟨false,1,24,[.sl 1],[],(some 105),none,false,false,false,false⟩
theorem Mb8:rM Tryz.prog 66=some t66:=by kernel_rfl
def t68:TI:=⟨true,2,32,[.sc (.int .i64 0),.sl 1],[(0,3),(1,66)],none,none,false,false,false,false⟩
theorem Mb7:rM Tryz.prog 68=some t68:=by kernel_rfl
def t69:TI:=⟨false,1,24,[.sl 16],[],(some 148),none,false,false,false,false⟩
theorem Mb6:rM Tryz.prog 69=some t69:=by kernel_rfl
def t71:TI:=⟨true,4,64,[.sc (.int .i64 0),.sc (.int .i64 0),.sl 1,.sl 16],[(0,3),(1,68),(3,69)],none,none,false,false,false,false⟩
theorem Mb5:rM Tryz.prog 71=some t71:=by kernel_rfl
def t75:TI:=⟨true,5,40,[.sc (.int .i64 0),.sc (.int .i64 0),.sc (.int .i64 0),.sc (.int .i64 0),.sc (.int .i64 0)],[(0,3),(1,3),(2,3),(3,3),(4,3)],none,none,false,false,false,true⟩
theorem Mb4:rM Tryz.prog 75=some t75:=by kernel_rfl
def t85:TI:=⟨false,1,24,[.sl 1],[],(some 191),none,false,false,false,false⟩
theorem Mb3:rM Tryz.prog 85=some t85:=by kernel_rfl
def t87:TI:=⟨true,2,32,[.sc (.int .i64 0),.sl 1],[(0,3),(1,85)],none,none,false,false,false,false⟩
theorem Mb2:rM Tryz.prog 87=some t87:=by kernel_rfl
def t88:TI:=⟨false,1,24,[.sl 16],[],(some 193),none,false,false,false,false⟩
theorem Mb1:rM Tryz.prog 88=some t88:=by kernel_rfl
def t90:TI:=⟨true,4,64,[.sc (.int .i64 0),.sc (.int .i64 0),.sl 1,.sl 16],[(0,3),(1,87),(3,88)],none,none,false,false,false,false⟩
theorem Mb0:rM Tryz.prog 90=some t90:=by kernel_rfl
def t92:TI:=⟨true,5,40,[.sc (.int .i64 0),.sc (.int .i64 0),.sc (.int .i64 0),.sc (.int .i64 0),.sc (.int .i64 0)],[(0,3),(1,3),(2,3),(3,3),(4,3)],none,none,false,false,false,true⟩
theorem Mbz:rM Tryz.prog 92=some t92:=by kernel_rfl
def t94:TI:=⟨true,2,32,[.sc (.int .i64 0),.sl 1],[(0,3),(1,27)],none,none,false,false,false,false⟩
theorem Mby:rM Tryz.prog 94=some t94:=by kernel_rfl
def t96:TI:=⟨true,15,136,[.sc (.int .i64 0),.sc (.int .i64 0),.sc (.int .i64 0),.sc (.int .i64 0),.sc (.int .i64 0),.sc (.int .i64 0),.sc (.int .i64 0),.sc (.int .i64 0),.sc (.int .i64 0),.sc (.int .i64 0),.sc (.int .i64 0),.sc (.int .i64 0),.sc (.int .i64 0),.sc (.int .i64 0),.sl 1],[(0,3),(1,3),(2,3),(3,3),(4,3),(5,3),(6,3),(7,3),(8,92),(13,94)],none,none,false,false,false,false⟩
theorem Mbx:rM Tryz.prog 96=some t96:=by kernel_rfl
def Jb3:TI:=⟨true,2,32,[.sc (.int .i64 0),.sl 1],[(0,3),(1,27)],none,none,false,false,false,false⟩
theorem Ib5:rM Tryz.prog 100=some Jb3:=by kernel_rfl
def Jb2:TI:=⟨true,15,136,[.sc (.int .i64 0),.sc (.int .i64 0),.sc (.int .i64 0),.sc (.int .i64 0),.sc (.int .i64 0),.sc (.int .i64 0),.sc (.int .i64 0),.sc (.int .i64 0),.sc (.int .i64 0),.sc (.int .i64 0),.sc (.int .i64 0),.sc (.int .i64 0),.sc (.int .i64 0),.sc (.int .i64 0),.sl 1],[(0,3),(1,3),(2,3),(3,3),(4,3),(5,3),(6,3),(7,3),(8,75),(13,100)],none,none,false,false,false,false⟩
theorem Ib4:rM Tryz.prog 102=some Jb2:=by kernel_rfl
def t105:TI:=⟨false,1,24,[.sl 10],[],(some 108),none,false,false,false,false⟩
theorem Ib3:rM Tryz.prog 105=some t105:=by kernel_rfl
def Jb1:TI:=⟨true,10,96,[.sc (.int .i64 0),.sc (.int .i64 0),.sc (.int .i64 0),.sc (.int .i64 0),.sc (.int .i64 0),.sc (.int .i64 0),.sc (.int .i64 0),.sc (.int .i64 0),.sc (.int .i64 0),.sl 1],[(0,3),(1,3),(2,3),(3,75),(8,100)],none,none,false,false,false,false⟩
theorem Ib2:rM Tryz.prog 108=some Jb1:=by kernel_rfl
def Jb0:TI:=⟨true,7,56,[.sc (.int .i64 0),.sc (.int .i64 0),.sc (.int .i64 0),.sc (.int .i64 0),.sc (.int .i64 0),.sc (.int .i64 0),.sc (.int .i64 0)],[(0,3),(1,3),(2,75)],none,none,false,false,false,true⟩
theorem Ib1:rM Tryz.prog 113=some Jb0:=by kernel_rfl
def t116:TI:=⟨true,7,56,[.sc (.int .i64 0),.sc (.int .i64 0),.sc (.int .i64 0),.sc (.int .i64 0),.sc (.int .i64 0),.sc (.int .i64 0),.sc (.int .i64 0)],[(0,3),(1,3),(2,92)],none,none,false,false,false,true⟩
theorem Ib0:rM Tryz.prog 116=some t116:=by kernel_rfl
def t148:TI:=⟨true,16,192,[.sc (.int .i64 0),.sc (.int .i64 0),.sc (.int .i64 0),.sc (.int .i64 0),.sc (.int .i64 0),.sc (.int .i64 0),.sc (.int .i64 0),.sc (.int .i64 0),.sc (.int .i64 0),.sc (.int .i64 0),.sl 1,.sc (.int .i64 0),.sl 1,.sc (.bool false),.sl 1,.sl 10],[(0,3),(1,3),(2,3),(3,3),(4,75),(9,100),(11,100),(13,4),(14,27),(15,105)],none,none,false,false,false,false⟩
theorem Ibz:rM Tryz.prog 148=some t148:=by kernel_rfl
def Jbz:TI:=⟨false,1,24,[.sl 10],[],(some 250),none,false,false,false,false⟩
theorem Iby:rM Tryz.prog 191=some Jbz:=by kernel_rfl
def t193:TI:=⟨true,16,192,[.sc (.int .i64 0),.sc (.int .i64 0),.sc (.int .i64 0),.sc (.int .i64 0),.sc (.int .i64 0),.sc (.int .i64 0),.sc (.int .i64 0),.sc (.int .i64 0),.sc (.int .i64 0),.sc (.int .i64 0),.sl 1,.sc (.int .i64 0),.sl 1,.sc (.bool false),.sl 1,.sl 10],[(0,3),(1,3),(2,3),(3,3),(4,92),(9,94),(11,94),(13,4),(14,27),(15,191)],none,none,false,false,false,false⟩
theorem Ibx:rM Tryz.prog 193=some t193:=by kernel_rfl
def Jby:TI:=⟨true,10,96,[.sc (.int .i64 0),.sc (.int .i64 0),.sc (.int .i64 0),.sc (.int .i64 0),.sc (.int .i64 0),.sc (.int .i64 0),.sc (.int .i64 0),.sc (.int .i64 0),.sc (.int .i64 0),.sl 1],[(0,3),(1,3),(2,3),(3,92),(8,94)],none,none,false,false,false,false⟩
theorem Ibw:rM Tryz.prog 250=some Jby:=by kernel_rfl
def tiL:List (Nat×TI):=[(3,t3),(4,t4),(22,t22),(23,t23),(24,t24),(26,t26),(27,t27),(31,t31),(32,t32),(33,t33),(35,t35),(52,t52),(66,t66),(68,t68),(69,t69),(71,t71),(75,t75),(85,t85),(87,t87),(88,t88),(90,t90),(92,t92),(94,t94),(96,t96),(100,Jb3),(102,Jb2),(105,t105),(108,Jb1),(113,Jb0),(116,t116),(148,t148),(191,Jbz),(193,t193),(250,Jby)]
theorem Za4:sM Tryz.prog (sF tiL):=Oa9 (l:=tiL) (fc ti3 <| fc ti4 <| fc Nbi <| fc Nbh <| fc Nbg <| fc Nbf <| fc Nbe <| fc Nbd <| fc Nbc <| fc Nbb <| fc Nba <| fc Mb9 <| fc Mb8 <| fc Mb7 <| fc Mb6 <| fc Mb5 <| fc Mb4 <| fc Mb3 <| fc Mb2 <| fc Mb1 <| fc Mb0 <| fc Mbz <| fc Mby <| fc Mbx <| fc Ib5 <| fc Ib4 <| fc Ib3 <| fc Ib2 <| fc Ib1 <| fc Ib0 <| fc Ibz <| fc Iby <| fc Ibx <| fc Ibw <| fc0)
def sg0:Sig:=⟨4,[(true,[.fz false,.fz false,.fz false]),(false,[.fz false])],[],[(false,[.sc])]⟩
def sg1:Sig:=⟨8,[(true,[.fz false,.fz false,.fz false]),(false,[.sc])],[],[(false,[.sc])]⟩
def sg2:Sig:=⟨23,[(false,[.fz false]),(false,[.sc])],[],[(false,[.sc])]⟩
def sg3:Sig:=⟨52,[(true,[.sc,.sc,.fz false,.fz false]),(false,[.sc])],[],[(false,[.sc])]⟩
def sg4:Sig:=⟨103,[(true,[.sc,.fz false]),(false,[.sc])],[],[(false,[.sc])]⟩
def sg5:Sig:=⟨167,[(false,[.fz false]),(false,[.sc])],[],[(false,[.sc])]⟩
def sg6:Sig:=⟨212,[(false,[.fz false]),(false,[.sc])],[],[(false,[.sc])]⟩
def sg7:Sig:=⟨237,[(true,[.sc,.sc,.sc,.sc,.sc,.sc,.sc,.sc,.sc,.fz false]),(false,[.sc])],[],[(false,[.sc])]⟩
def sg8:Sig:=⟨105,[(true,[.sc,.fz false]),(false,[.sc])],[],[(false,[.sc])]⟩
def sg9:Sig:=⟨169,[(false,[.fz false]),(false,[.sc])],[],[(false,[.sc])]⟩
def Mbl:Sig:=⟨104,[(false,[.fz false]),(false,[.sc])],[],[(false,[.sc])]⟩
def Mbk:Sig:=⟨168,[(true,[.sc,.sc,.sc,.sc,.sc,.sc,.sc,.sc,.sc,.sc,.fz false,.sc,.fz false,.sc,.fz false,.fz false]),(false,[.sc])],[],[(false,[.sc])]⟩
def Mbj:Sig:=⟨24,[(false,[.fz false]),(false,[.sc])],[],[(false,[.sc])]⟩
def Mbi:Sig:=⟨53,[(true,[.sc,.sc,.sc,.sc,.sc,.sc,.sc,.sc,.sc,.sc,.sc,.sc,.sc,.sc,.fz false]),(false,[.sc])],[],[(false,[.sc])]⟩
def Mbh:Sig:=⟨25,[(false,[.fz false]),(false,[.sc])],[],[(false,[.sc])]⟩
def Mbg:Sig:=⟨10,[(true,[.fz false,.fz false,.fz false])],[],[(true,[.ow 99,.ow 99,.ow 99])]⟩
def Mbf:Sig:=⟨29,[(false,[.fz false])],[],[(false,[.ow 99])]⟩
def Mbe:Sig:=⟨61,[(true,[.sc,.sc,.fz false,.fz false])],[],[(true,[.sc,.sc,.ow 99,.ow 99])]⟩
def Mbd:Sig:=⟨114,[(true,[.sc,.fz false])],[],[(true,[.sc,.ow 99])]⟩
def Mbc:Sig:=⟨173,[(false,[.fz false])],[],[(false,[.ow 99])]⟩
def Mbb:Sig:=⟨215,[(false,[.fz false])],[],[(false,[.ow 99])]⟩
def Mba:Sig:=⟨238,[(true,[.sc,.sc,.sc,.sc,.sc,.sc,.sc,.sc,.sc,.fz false])],[],[(true,[.sc,.sc,.sc,.sc,.sc,.sc,.sc,.sc,.sc,.ow 99])]⟩
def Lb9:Sig:=⟨116,[(true,[.sc,.sc,.sc,.sc,.sc])],[],[(true,[.sc,.sc,.sc,.sc,.sc])]⟩
def Lb8:Sig:=⟨117,[(true,[.sc,.fz false])],[],[(true,[.sc,.ow 99])]⟩
def Lb7:Sig:=⟨11,[(false,[.fz false])],[],[(false,[.ow 99])]⟩
def Lb6:Sig:=⟨115,[(false,[.fz false])],[],[(false,[.ow 99])]⟩
def Lb5:Sig:=⟨174,[(true,[.sc,.sc,.sc,.sc,.sc,.sc,.sc,.sc,.sc,.sc,.fz false,.sc,.fz false,.sc,.fz false,.fz false])],[],[(true,[.sc,.sc,.sc,.sc,.sc,.sc,.sc,.sc,.sc,.sc,.ow 99,.sc,.ow 99,.sc,.ow 99,.ow 99])]⟩
def Lb4:Sig:=⟨30,[(false,[.fz false])],[],[(false,[.ow 99])]⟩
def Lb3:Sig:=⟨62,[(true,[.sc,.sc,.sc,.sc,.sc,.sc,.sc,.sc,.sc,.sc,.sc,.sc,.sc,.sc,.fz false])],[],[(true,[.sc,.sc,.sc,.sc,.sc,.sc,.sc,.sc,.sc,.sc,.sc,.sc,.sc,.sc,.ow 99])]⟩
def Lb2:Sig:=⟨31,[(false,[.fz false])],[],[(false,[.ow 99])]⟩
def Lb1:Sig:=⟨63,[(true,[.sc,.sc,.sc,.sc,.sc,.sc,.sc])],[],[(true,[.sc,.sc,.sc,.sc,.sc,.sc,.sc])]⟩
def Lb0:Sig:=⟨15,[(true,[.fz false,.fz false,.fz false]),(false,[.fz false])],[],[(false,[.sc]),(false,[.sc]),(false,[.sc]),(false,[.sc])]⟩
def Lbz:Sig:=⟨37,[(true,[.fz false,.fz false,.fz false]),(false,[.fz false])],[],[(false,[.sc])]⟩
def Lby:Sig:=⟨26,[(true,[.fz false,.fz false,.fz false])],[],[(false,[.sc])]⟩
def Lbx:Sig:=⟨54,[(false,[.sc])],[],[(false,[.sc])]⟩
def Lbw:Sig:=⟨55,[(false,[.sc]),(false,[.fz false])],[],[(false,[.sc])]⟩
def Lbv:Sig:=⟨106,[(false,[.sc]),(false,[.sc]),(false,[.sc])],[],[(false,[.sc])]⟩
def Lbu:Sig:=⟨58,[(false,[.sc]),(false,[.sc]),(false,[.sc])],[],[(false,[.sc])]⟩
def Lbt:Sig:=⟨107,[(true,[.sc,.sc,.sc,.sc,.sc])],[],[(false,[.sc])]⟩
def Lbs:Sig:=⟨170,[(true,[.sc,.sc,.sc,.sc,.sc])],[],[(false,[.sc])]⟩
def Lbr:Sig:=⟨213,[(false,[.sc])],[],[(false,[.sc])]⟩
def Lbq:Sig:=⟨56,[(true,[.sc,.sc,.fz false,.fz false])],[],[(false,[.sc])]⟩
def Lbp:Sig:=⟨108,[(true,[.sc,.fz false])],[],[(false,[.sc])]⟩
def Lbo:Sig:=⟨110,[(false,[.sc]),(true,[.sc,.sc,.sc,.sc,.sc,.sc,.sc,.sc,.sc,.fz false])],[],[(false,[.sc])]⟩
def Lbn:Sig:=⟨112,[(false,[.sc])],[],[(true,[.sc,.ow 99])]⟩
def Lbm:Sig:=⟨77,[(true,[.sc,.fz false]),(true,[.sc,.fz false])],[],[(false,[.sc])]⟩
def Lbl:Sig:=⟨136,[(false,[.fz false]),(false,[.fz false])],[],[(false,[.sc])]⟩
def Lbk:Sig:=⟨111,[(false,[.sc]),(true,[.sc,.fz false])],[],[(false,[.sc])]⟩
def Lbj:Sig:=⟨171,[(false,[.fz false]),(false,[.sc]),(false,[.sc])],[],[(false,[.sc])]⟩
def Lbi:Sig:=⟨109,[(false,[.sc]),(false,[.sc]),(true,[.sc,.sc,.sc,.sc,.sc,.sc,.sc,.sc,.sc,.sc,.fz false,.sc,.fz false,.sc,.fz false,.fz false])],[],[(false,[.sc])]⟩
def Lbh:Sig:=⟨27,[(false,[.fz false]),(false,[.sc]),(false,[.sc])],[],[(false,[.sc])]⟩
def Lbg:Sig:=⟨166,[(false,[.fz false]),(false,[.sc])],[],[(false,[.sc])]⟩
def Lbf:Sig:=⟨57,[(false,[.sc]),(true,[.sc,.sc,.sc,.sc,.sc,.sc,.sc,.sc,.sc,.sc,.sc,.sc,.sc,.sc,.fz false])],[],[(false,[.sc])]⟩
def Lbe:Sig:=⟨38,[(true,[.fz false,.fz false,.fz false]),(false,[.fz false])],[],[(false,[.sc]),(false,[.sc]),(false,[.sc]),(false,[.sc])]⟩
def Lbd:Sig:=⟨28,[(true,[.fz false,.fz false,.fz false]),(false,[.fz false])],[],[(false,[.ow 99])]⟩
def Lbc:Sig:=⟨59,[(false,[.sc]),(false,[.sc])],[],[(false,[.sc])]⟩
def Lbb:Sig:=⟨60,[(true,[.sc,.fz false]),(false,[.sc]),(false,[.sc])],[],[(true,[.sc,.sc,.sc,.sc,.sc,.sc,.sc,.sc,.sc,.ow 99])]⟩
def Lba:Sig:=⟨113,[(true,[.sc,.sc,.sc,.sc,.sc,.sc,.sc,.sc,.sc,.fz false])],[],[(true,[.sc,.sc,.sc,.sc,.sc,.sc,.sc,.sc,.sc,.ow 99])]⟩
def Kb9:Sig:=⟨172,[(true,[.sc,.fz false])],[],[(true,[.sc,.ow 99])]⟩
def Kb8:Sig:=⟨214,[(false,[.fz false])],[],[(false,[.ow 99])]⟩
def Kb7:Sig:=⟨16,[(true,[.fz false,.fz false,.fz false]),(false,[.fz false])],[],[(false,[.sc]),(false,[.sc]),(false,[.sc]),(false,[.sc])]⟩
def Kb6:Sig:=⟨32,[(true,[.fz false,.fz false,.fz false]),(false,[.fz false])],[],[(false,[.sc])]⟩
def Kb5:Sig:=⟨42,[(true,[.fz false,.fz false,.fz false])],[],[(false,[.sc])]⟩
def Kb4:Sig:=⟨80,[(false,[.sc])],[],[(false,[.sc])]⟩
def Kb3:Sig:=⟨81,[(false,[.fz false]),(false,[.clo 82 [.px 0]])],[(true,[(.sc,.sc)])],[(false,[.sc])]⟩
def Kb2:Sig:=⟨143,[(false,[.fz false]),(false,[.clo 82 [.px 0]])],[(true,[(.sc,.sc)])],[(false,[.sc])]⟩
def Kb1:Sig:=⟨82,[(true,[.sc,.sc,.sc,.sc,.sc,.sc,.sc,.sc,.sc,.sc,.sc,.sc,.sc,.sc,.fz false]),(false,[.px 0])],[(true,[(.sc,.sc)])],[(false,[.sc])]⟩
def Kb0:Sig:=⟨83,[(false,[.sc]),(true,[.sc,.sc,.sc,.sc,.sc,.sc,.sc,.sc,.sc,.sc,.sc,.sc,.sc,.sc,.fz false])],[],[(false,[.sc])]⟩
def Kbz:Sig:=⟨120,[(false,[.sc]),(false,[.sc]),(false,[.sc])],[],[(false,[.sc])]⟩
def Kby:Sig:=⟨85,[(false,[.sc]),(false,[.sc]),(false,[.sc])],[],[(false,[.sc])]⟩
def Kbx:Sig:=⟨145,[(true,[.sc,.sc,.sc,.sc,.sc,.sc,.sc,.sc,.sc,.sc,.sc,.sc,.sc,.sc,.fz false])],[],[(true,[.sc,.sc,.sc,.sc,.sc,.sc,.sc,.sc,.sc,.ow 99])]⟩
def Kbw:Sig:=⟨175,[(true,[.sc,.fz false])],[],[(true,[.sc,.ow 99])]⟩
def Dbl:Sig:=⟨216,[(false,[.fz false])],[],[(false,[.ow 99])]⟩
def Kbv:Sig:=⟨144,[(false,[.sc]),(true,[.sc,.sc,.sc,.sc,.sc,.sc,.sc,.sc,.sc,.fz false])],[],[(false,[.sc])]⟩
def Kbu:Sig:=⟨86,[(true,[.sc,.sc,.sc,.sc,.sc])],[],[(false,[.sc])]⟩
def Kbt:Sig:=⟨149,[(false,[.sc])],[],[(false,[.sc])]⟩
def Kbs:Sig:=⟨146,[(false,[.sc]),(true,[.sc,.fz false])],[],[(false,[.sc])]⟩
def Kbr:Sig:=⟨66,[(false,[.fz false]),(false,[.clo 194 []])],[],[(false,[.sc])]⟩
def Kbq:Sig:=⟨123,[(false,[.fz false]),(false,[.clo 194 []])],[],[(false,[.sc])]⟩
def Kbp:Sig:=⟨194,[(false,[.sc])],[],[(false,[.sc])]⟩
def Kbo:Sig:=⟨125,[(false,[.sc])],[],[(true,[.sc,.ow 99])]⟩
def Kbn:Sig:=⟨89,[(true,[.sc,.fz false]),(true,[.sc,.fz false])],[],[(false,[.sc])]⟩
def Kbm:Sig:=⟨128,[(false,[.fz false]),(false,[.fz false])],[],[(false,[.sc])]⟩
def Kbl:Sig:=⟨84,[(true,[.sc,.sc,.fz false,.fz false])],[],[(false,[.sc])]⟩
def Kbk:Sig:=⟨147,[(true,[.sc,.fz false])],[],[(false,[.sc])]⟩
def Kbj:Sig:=⟨195,[(false,[.fz false]),(false,[.clo 196 [.px 0]])],[(true,[(.sc,.sc),(.fz false,.fz)])],[(false,[.sc])]⟩
def Kbi:Sig:=⟨225,[(false,[.fz false]),(false,[.clo 196 [.px 0]])],[(true,[(.sc,.sc),(.fz false,.fz)])],[(false,[.sc])]⟩
def Kbh:Sig:=⟨196,[(false,[.fz false]),(false,[.px 0])],[(true,[(.sc,.sc),(.fz false,.fz)])],[(false,[.sc])]⟩
def Kbg:Sig:=⟨197,[(false,[.fz false]),(false,[.clo 198 [.px 0]])],[(true,[(.sc,.sc),(.fz false,.fz)])],[(false,[.sc])]⟩
def Kbf:Sig:=⟨226,[(false,[.fz false]),(false,[.clo 198 [.px 0]])],[(true,[(.sc,.sc),(.fz false,.fz)])],[(false,[.sc])]⟩
def Kbe:Sig:=⟨198,[(true,[.sc,.sc,.sc,.sc,.sc,.sc,.sc,.sc,.sc,.fz false]),(false,[.px 0])],[(true,[(.sc,.sc),(.fz false,.fz)])],[(false,[.sc])]⟩
def Kbd:Sig:=⟨148,[(false,[.sc]),(false,[.sc]),(true,[.sc,.sc,.sc,.sc,.sc,.sc,.sc,.sc,.sc,.sc,.fz false,.sc,.fz false,.sc,.fz false,.fz false])],[],[(false,[.sc])]⟩
def Kbc:Sig:=⟨64,[(false,[.sc]),(false,[.fz false])],[],[(false,[.sc])]⟩
def Kbb:Sig:=⟨118,[(false,[.fz false])],[],[(false,[.sc])]⟩
def Kba:Sig:=⟨66,[(false,[.fz false]),(false,[.clo 119 [.px 0]])],[(true,[(.sc,.sc)])],[(false,[.sc])]⟩
def Jb9:Sig:=⟨123,[(false,[.fz false]),(false,[.clo 119 [.px 0]])],[(true,[(.sc,.sc)])],[(false,[.sc])]⟩
def Jb8:Sig:=⟨119,[(false,[.sc]),(false,[.px 0])],[(true,[(.sc,.sc)])],[(false,[.sc])]⟩
def Jb7:Sig:=⟨199,[(false,[.fz false]),(false,[.sc])],[],[(false,[.sc])]⟩
def Jb6:Sig:=⟨227,[(false,[.fz false]),(false,[.sc])],[],[(false,[.sc])]⟩
def Jb5:Sig:=⟨197,[(false,[.fz false]),(false,[.clo 200 [.px 0]])],[(true,[(.sc,.sc)])],[(false,[.sc])]⟩
def Ebo:Sig:=⟨226,[(false,[.fz false]),(false,[.clo 200 [.px 0]])],[(true,[(.sc,.sc)])],[(false,[.sc])]⟩
def Ebn:Sig:=⟨200,[(true,[.sc,.sc,.sc,.sc,.sc,.sc,.sc,.sc,.sc,.fz false]),(false,[.px 0])],[(true,[(.sc,.sc)])],[(false,[.sc])]⟩
def Ebm:Sig:=⟨72,[(false,[.fz false]),(false,[.fz false])],[],[(false,[.sc])]⟩
def Ebl:Sig:=⟨131,[(false,[.sc]),(false,[.sc])],[],[(false,[.sc])]⟩
def Ebk:Sig:=⟨186,[(false,[.sc])],[],[(false,[.sc])]⟩
def Ebj:Sig:=⟨87,[(true,[.fz false,.fz false,.fz false]),(false,[.sc]),(false,[.sc]),(false,[.sc])],[],[(false,[.sc])]⟩
def Ebi:Sig:=⟨150,[(false,[.fz false]),(false,[.clo 151 [.px 0,.px 1]])],[(true,[(.sc,.sc)]),(true,[(.sc,.sc)])],[(false,[.sc])]⟩
def Ebh:Sig:=⟨151,[(true,[.sc,.sc,.sc,.sc,.sc,.sc,.sc]),(false,[.px 0]),(false,[.px 1])],[(true,[(.sc,.sc)]),(true,[(.sc,.sc)])],[(false,[.sc])]⟩
def Ebg:Sig:=⟨39,[(true,[.fz false,.fz false,.fz false]),(false,[.fz false])],[],[(false,[.sc]),(false,[.fz]),(false,[.sc])]⟩
def Ebf:Sig:=⟨33,[(true,[.fz false,.fz false,.fz false]),(false,[.fz false])],[],[(false,[.fz])]⟩
def Ebe:Sig:=⟨65,[(true,[.sc,.fz false])],[],[(false,[.ow 99])]⟩
def Ebd:Sig:=⟨121,[(true,[.sc,.fz false]),(false,[.clo 122 [.px 0,.px 1,.px 2]])],[(false,[(.sc,.sc)]),(true,[(.sc,.sc)]),(true,[(.sc,.sc)])],[]⟩
def Ebc:Sig:=⟨122,[(false,[.sc]),(false,[.sc]),(true,[.sc,.sc,.sc,.sc,.sc,.sc,.sc,.sc,.sc,.fz false]),(false,[.px 0]),(false,[.px 1]),(false,[.px 2])],[(false,[(.sc,.sc)]),(true,[(.sc,.sc)]),(true,[(.sc,.sc)])],[]⟩
def Ebb:Sig:=⟨66,[(false,[.fz false]),(false,[.clo 67 [.px 0,.px 1]])],[(true,[(.fz false,.fz),(.fz false,.fz),(.fz false,.fz)]),(true,[(.fz false,.fz)])],[(false,[.sc])]⟩
def Eba:Sig:=⟨123,[(false,[.fz false]),(false,[.clo 67 [.px 0,.px 1]])],[(true,[(.fz false,.fz),(.fz false,.fz),(.fz false,.fz)]),(true,[(.fz false,.fz)])],[(false,[.sc])]⟩
def Db9:Sig:=⟨67,[(false,[.sc]),(false,[.px 0]),(false,[.px 1])],[(true,[(.fz false,.fz),(.fz false,.fz),(.fz false,.fz)]),(true,[(.fz false,.fz)])],[(false,[.sc])]⟩
def Db8:Sig:=⟨68,[(true,[.sc,.fz false]),(false,[.sc]),(false,[.sc])],[],[(true,[.sc,.sc,.sc,.sc,.sc,.sc,.sc,.sc,.sc,.ow 99])]⟩
def Db7:Sig:=⟨124,[(true,[.sc,.sc,.sc,.sc,.sc,.sc,.sc,.sc,.sc,.fz false])],[],[(true,[.sc,.sc,.sc,.sc,.sc,.sc,.sc,.sc,.sc,.ow 99])]⟩
def Db6:Sig:=⟨69,[(false,[.fz false]),(false,[.fz false])],[],[(false,[.sc])]⟩
def Db5:Sig:=⟨126,[(false,[.fz false]),(false,[.clo 127 [.px 0]])],[(true,[(.fz false,.fz)])],[(false,[.sc])]⟩
def Db4:Sig:=⟨156,[(false,[.fz false]),(false,[.clo 127 [.px 0]])],[(true,[(.fz false,.fz)])],[(false,[.sc])]⟩
def Db3:Sig:=⟨127,[(false,[.fz false]),(false,[.px 0])],[(true,[(.fz false,.fz)])],[(false,[.sc])]⟩
def Db2:Sig:=⟨70,[(false,[.mu 1]),(false,[.clo 71 []])],[],[]⟩
def Db1:Sig:=⟨13,[(true,[.fz false,.fz false,.fz false]),(true,[.fz false,.fz false,.fz false])],[],[(false,[.sc])]⟩
def Db0:Sig:=⟨34,[(false,[.fz false]),(false,[.fz false])],[],[(false,[.sc])]⟩
def Dbz:Sig:=⟨73,[(true,[.sc,.sc,.fz false,.fz false]),(true,[.sc,.sc,.fz false,.fz false])],[],[(false,[.sc])]⟩
def Dby:Sig:=⟨132,[(true,[.sc,.fz false]),(true,[.sc,.fz false])],[],[(false,[.sc])]⟩
def Dbx:Sig:=⟨187,[(false,[.fz false]),(false,[.fz false])],[],[(false,[.sc])]⟩
def Dbw:Sig:=⟨222,[(false,[.fz false]),(false,[.fz false])],[],[(false,[.sc])]⟩
def Dbv:Sig:=⟨240,[(true,[.sc,.sc,.sc,.sc,.sc,.sc,.sc,.sc,.sc,.fz false]),(true,[.sc,.sc,.sc,.sc,.sc,.sc,.sc,.sc,.sc,.fz false])],[],[(false,[.sc])]⟩
def Dbu:Sig:=⟨134,[(true,[.sc,.sc,.sc,.sc,.sc]),(true,[.sc,.sc,.sc,.sc,.sc])],[],[(false,[.sc])]⟩
def Dbt:Sig:=⟨135,[(true,[.sc,.fz false]),(true,[.sc,.fz false])],[],[(false,[.sc])]⟩
def Dbs:Sig:=⟨14,[(false,[.fz false]),(false,[.fz false])],[],[(false,[.sc])]⟩
def Dbr:Sig:=⟨133,[(false,[.fz false]),(false,[.fz false])],[],[(false,[.sc])]⟩
def Dbq:Sig:=⟨188,[(true,[.sc,.sc,.sc,.sc,.sc,.sc,.sc,.sc,.sc,.sc,.fz false,.sc,.fz false,.sc,.fz false,.fz false]),(true,[.sc,.sc,.sc,.sc,.sc,.sc,.sc,.sc,.sc,.sc,.fz false,.sc,.fz false,.sc,.fz false,.fz false])],[],[(false,[.sc])]⟩
def Dbp:Sig:=⟨35,[(false,[.fz false]),(false,[.fz false])],[],[(false,[.sc])]⟩
def Dbo:Sig:=⟨74,[(true,[.sc,.sc,.sc,.sc,.sc,.sc,.sc,.sc,.sc,.sc,.sc,.sc,.sc,.sc,.fz false]),(true,[.sc,.sc,.sc,.sc,.sc,.sc,.sc,.sc,.sc,.sc,.sc,.sc,.sc,.sc,.fz false])],[],[(false,[.sc])]⟩
def Dbn:Sig:=⟨36,[(false,[.fz false]),(false,[.fz false])],[],[(false,[.sc])]⟩
def Dbm:Sig:=⟨75,[(true,[.sc,.sc,.sc,.sc,.sc,.sc,.sc]),(true,[.sc,.sc,.sc,.sc,.sc,.sc,.sc])],[],[(false,[.sc])]⟩
def sigs:List (Nat×Sig):=[(0,sg0),(1,sg1),(2,sg2),(3,sg3),(4,sg4),(5,sg5),(6,sg6),(7,sg7),(8,sg8),(9,sg9),(10,Mbl),(11,Mbk),(12,Mbj),(13,Mbi),(14,Mbh),(15,Mbg),(16,Mbf),(17,Mbe),(18,Mbd),(19,Mbc),(20,Mbb),(21,Mba),(22,Lb9),(23,Lb8),(24,Lb7),(25,Lb6),(26,Lb5),(27,Lb4),(28,Lb3),(29,Lb2),(30,Lb1),(31,Lb0),(32,Lbz),(33,Lby),(34,Lbx),(35,Lbw),(36,Lbv),(37,Lbu),(38,Lbt),(39,Lbs),(40,Lbr),(41,Lbq),(42,Lbp),(43,Lbo),(44,Lbn),(45,Lbm),(46,Lbl),(47,Lbk),(48,Lbj),(49,Lbi),(50,Lbh),(51,Lbg),(52,Lbf),(53,Lbe),(54,Lbd),(55,Lbc),(56,Lbb),(57,Lba),(58,Kb9),(59,Kb8),(60,Kb7),(61,Kb6),(62,Kb5),(63,Kb4),(64,Kb3),(65,Kb2),(66,Kb1),(67,Kb0),(68,Kbz),(69,Kby),(70,Kbx),(71,Kbw),(72,Dbl),(73,Kbv),(74,Kbu),(75,Kbt),(76,Kbs),(77,Kbr),(78,Kbq),(79,Kbp),(80,Kbo),(81,Kbn),(82,Kbm),(83,Kbl),(84,Kbk),(85,Kbj),(86,Kbi),(87,Kbh),(88,Kbg),(89,Kbf),(90,Kbe),(91,Kbd),(92,Kbc),(93,Kbb),(94,Kba),(95,Jb9),(96,Jb8),(97,Jb7),(98,Jb6),(99,Jb5),(100,Ebo),(101,Ebn),(102,Ebm),(103,Ebl),(104,Ebk),(105,Ebj),(106,Ebi),(107,Ebh),(108,Ebg),(109,Ebf),(110,Ebe),(111,Ebd),(112,Ebc),(113,Ebb),(114,Eba),(115,Db9),(116,Db8),(117,Db7),(118,Db6),(119,Db5),(120,Db4),(121,Db3),(122,Db2),(123,Db1),(124,Db0),(125,Dbz),(126,Dby),(127,Dbx),(128,Dbw),(129,Dbv),(130,Dbu),(131,Dbt),(132,Dbs),(133,Dbr),(134,Dbq),(135,Dbp),(136,Dbo),(137,Dbn),(138,Dbm)]
abbrev E0:Env:=⟨sF tiL,sigs,0,0,false,false,[],[],[],0⟩
def tm0:Tm Unit :=
(.lt none .len [.v 3] 1 <|
(.lt none (.bin .gtr) [.v 4,.c (.int .i64 1048576)] 1 <|
(.ite (.v 5)
(.leaf .ret [.c (.bool true)] ())
(.call none 1 [.v 0,.v 1,.v 2,.c (.int .i64 1048576)] 1 [] <|
(.lt none (.bin .lss) [.v 6,.c (.int .i64 0)] 1 <|
(.ite (.v 7)
(.leaf .ret [.c (.bool true)] ())
(.call none 15 [.v 0,.v 1,.v 2] 3 [] <|
(.call none 24 [.v 3] 1 [] <|
(.call none 31 [.v 8,.v 9,.v 10,.v 11] 4 [] <|
(.call none 15 [.v 0,.v 1,.v 2] 3 [] <|
(.call none 24 [.v 3] 1 [] <|
(.call none 60 [.v 16,.v 17,.v 18,.v 19] 4 [] <|
(.lt none (.bin .neq) [.v 20,.v 12] 1 <|
(.lt (some (.v 24,false)) .id [.v 21] 1 <|
(.lt (some (.v 24,false)) .id [.v 13] 1 <|
(.lt (some (.v 24,false)) (.bin .neq) [.v 25,.v 26] 1 <|
(.lt none .pick [.v 24,.c (.bool true),.v 27] 1 <|
(.lt (some (.v 28,false)) .id [.v 22] 1 <|
(.lt (some (.v 28,false)) .id [.v 14] 1 <|
(.lt (some (.v 28,false)) (.bin .neq) [.v 29,.v 30] 1 <|
(.lt none .pick [.v 28,.c (.bool true),.v 31] 1 <|
(.lt (some (.v 32,false)) .id [.v 23] 1 <|
(.lt (some (.v 32,false)) .id [.v 15] 1 <|
(.lt (some (.v 32,false)) (.eqb true) [.v 33,.v 34] 1 <|
(.lt none .pick [.v 32,.c (.bool true),.v 35] 1 <|
(.ite (.v 36)
(.leaf .ret [.c (.bool false)] ())
(.call none 15 [.v 0,.v 1,.v 2] 3 [] <|
(.call none 123 [.v 16,.v 17,.v 18,.v 37,.v 38,.v 39] 1 [] <|
(.lt none .not [.v 40] 1 <|
(.ite (.v 41)
(.leaf .ret [.c (.bool false)] ())
(.call none 24 [.v 3] 1 [] <|
(.call none 132 [.v 19,.v 42] 1 [] <|
(.lt none .not [.v 43] 1 <|
(.ite (.v 44)
(.leaf .ret [.c (.bool false)] ())
(.leaf .ret [.c (.bool true)] ())))))))))))))))))))))))))))))))))))
def tm1:Tm Unit :=
(.call none 2 [.v 0,.v 3] 1 [] <|
(.lt none (.bin .lss) [.v 4,.c (.int .i64 0)] 1 <|
(.ite (.v 5)
(.leaf .ret [.c (.int .i64 (-1))] ())
(.call none 12 [.v 1,.v 4] 1 [] <|
(.lt none (.bin .lss) [.v 6,.c (.int .i64 0)] 1 <|
(.ite (.v 7)
(.leaf .ret [.c (.int .i64 (-1))] ())
(.call none 14 [.v 2,.v 6] 1 [] <|
(.lt none (.bin .lss) [.v 8,.c (.int .i64 0)] 1 <|
(.ite (.v 9)
(.leaf .ret [.c (.int .i64 (-1))] ())
(.leaf .ret [.v 8] ()))))))))))
def tm2:Tm Unit :=
(.lt none .len [.v 0] 1 <|
(.lt none (.bin .sub) [.v 1,.v 2] 1 <|
(.lt none (.bin .lss) [.v 3,.c (.int .i64 0)] 1 <|
(.ite (.v 4)
(.leaf .ret [.c (.int .i64 (-1))] ())
(.bind 1
(.loop [.v 3,.c (.int .i64 0)]
(.lt none .len [.v 0] 1 <|
(.lt none (.bin .lss) [.v 6,.v 7] 1 <|
(.ite (.v 8)
(.lt none .inb [.v 0,.v 6] 0 <|
(.lt none (.row 4 0 [true,true,false,false]) [.v 0,.v 6] 4 <|
(.call none 3 [.v 9,.v 10,.v 11,.v 12,.v 5] 1 [] <|
(.lt none (.bin .lss) [.v 13,.c (.int .i64 0)] 1 <|
(.ite (.v 14)
(.leaf .ret [.c (.int .i64 (-1))] ())
(.lt none (.bin .add) [.v 6,.c (.int .i64 1)] 1 <|
(.leaf .cont [.v 13,.v 15] ())))))))
(.leaf (.yield 1) [.v 5] ()))))) <|
(.leaf .ret [.v 5] ()))))))
def tm3:Tm Unit :=
(.call none 4 [.v 1,.v 2,.v 4] 1 [] <|
(.lt none (.bin .lss) [.v 5,.c (.int .i64 0)] 1 <|
(.ite (.v 6)
(.leaf .ret [.c (.int .i64 (-1))] ())
(.call none 10 [.v 3,.v 5] 1 [] <|
(.lt none (.bin .lss) [.v 7,.c (.int .i64 0)] 1 <|
(.ite (.v 8)
(.leaf .ret [.c (.int .i64 (-1))] ())
(.leaf .ret [.v 7] ())))))))
def tm4:Tm Unit :=
(.call none 5 [.v 1,.v 2] 1 [] <|
(.lt none (.bin .lss) [.v 3,.c (.int .i64 0)] 1 <|
(.ite (.v 4)
(.leaf .ret [.c (.int .i64 (-1))] ())
(.leaf .ret [.v 3] ()))))
def tm5:Tm Unit :=
(.lt none .len [.v 0] 1 <|
(.lt none (.bin .sub) [.v 1,.v 2] 1 <|
(.lt none (.bin .lss) [.v 3,.c (.int .i64 0)] 1 <|
(.ite (.v 4)
(.leaf .ret [.c (.int .i64 (-1))] ())
(.bind 1
(.loop [.v 3,.c (.int .i64 0)]
(.lt none .len [.v 0] 1 <|
(.lt none (.bin .lss) [.v 6,.v 7] 1 <|
(.ite (.v 8)
(.lt none .inb [.v 0,.v 6] 0 <|
(.lt none (.row 1 0 [false]) [.v 0,.v 6] 1 <|
(.call none 6 [.v 9,.v 5] 1 [] <|
(.lt none (.bin .lss) [.v 10,.c (.int .i64 0)] 1 <|
(.ite (.v 11)
(.leaf .ret [.c (.int .i64 (-1))] ())
(.lt none (.bin .add) [.v 6,.c (.int .i64 1)] 1 <|
(.leaf .cont [.v 10,.v 12] ())))))))
(.leaf (.yield 1) [.v 5] ()))))) <|
(.leaf .ret [.v 5] ()))))))
def tm6:Tm Unit :=
(.lt none .len [.v 0] 1 <|
(.lt none (.bin .sub) [.v 1,.v 2] 1 <|
(.lt none (.bin .lss) [.v 3,.c (.int .i64 0)] 1 <|
(.ite (.v 4)
(.leaf .ret [.c (.int .i64 (-1))] ())
(.bind 1
(.loop [.v 3,.c (.int .i64 0)]
(.lt none .len [.v 0] 1 <|
(.lt none (.bin .lss) [.v 6,.v 7] 1 <|
(.ite (.v 8)
(.lt none .inb [.v 0,.v 6] 0 <|
(.lt none (.row 10 0 [true,true,true,true,true,true,true,true,true,false]) [.v 0,.v 6] 10 <|
(.call none 7 [.v 9,.v 10,.v 11,.v 12,.v 13,.v 14,.v 15,.v 16,.v 17,.v 18,.v 5] 1 [] <|
(.lt none (.bin .lss) [.v 19,.c (.int .i64 0)] 1 <|
(.ite (.v 20)
(.leaf .ret [.c (.int .i64 (-1))] ())
(.lt none (.bin .add) [.v 6,.c (.int .i64 1)] 1 <|
(.leaf .cont [.v 19,.v 21] ())))))))
(.leaf (.yield 1) [.v 5] ()))))) <|
(.leaf .ret [.v 5] ()))))))
def tm7:Tm Unit :=
(.call none 8 [.v 8,.v 9,.v 10] 1 [] <|
(.lt none (.bin .lss) [.v 11,.c (.int .i64 0)] 1 <|
(.ite (.v 12)
(.leaf .ret [.c (.int .i64 (-1))] ())
(.leaf .ret [.v 11] ()))))
def tm8:Tm Unit :=
(.call none 9 [.v 1,.v 2] 1 [] <|
(.lt none (.bin .lss) [.v 3,.c (.int .i64 0)] 1 <|
(.ite (.v 4)
(.leaf .ret [.c (.int .i64 (-1))] ())
(.leaf .ret [.v 3] ()))))
def tm9:Tm Unit :=
(.lt none .len [.v 0] 1 <|
(.lt none (.bin .sub) [.v 1,.v 2] 1 <|
(.lt none (.bin .lss) [.v 3,.c (.int .i64 0)] 1 <|
(.ite (.v 4)
(.leaf .ret [.c (.int .i64 (-1))] ())
(.leaf .ret [.v 3] ())))))
def Ibj:Tm Unit :=
(.lt none .len [.v 0] 1 <|
(.lt none (.bin .sub) [.v 1,.v 2] 1 <|
(.lt none (.bin .lss) [.v 3,.c (.int .i64 0)] 1 <|
(.ite (.v 4)
(.leaf .ret [.c (.int .i64 (-1))] ())
(.bind 1
(.loop [.v 3,.c (.int .i64 0)]
(.lt none .len [.v 0] 1 <|
(.lt none (.bin .lss) [.v 6,.v 7] 1 <|
(.ite (.v 8)
(.lt none .inb [.v 0,.v 6] 0 <|
(.lt none (.row 16 0 [true,true,true,true,true,true,true,true,true,true,false,true,false,true,false,false]) [.v 0,.v 6] 16 <|
(.call none 11 [.v 9,.v 10,.v 11,.v 12,.v 13,.v 14,.v 15,.v 16,.v 17,.v 18,.v 19,.v 20,.v 21,.v 22,.v 23,.v 24,.v 5] 1 [] <|
(.lt none (.bin .lss) [.v 25,.c (.int .i64 0)] 1 <|
(.ite (.v 26)
(.leaf .ret [.c (.int .i64 (-1))] ())
(.lt none (.bin .add) [.v 6,.c (.int .i64 1)] 1 <|
(.leaf .cont [.v 25,.v 27] ())))))))
(.leaf (.yield 1) [.v 5] ()))))) <|
(.leaf .ret [.v 5] ()))))))
def Ibi:Tm Unit :=
(.call none 8 [.v 9,.v 10,.v 16] 1 [] <|
(.lt none (.bin .lss) [.v 17,.c (.int .i64 0)] 1 <|
(.ite (.v 18)
(.leaf .ret [.c (.int .i64 (-1))] ())
(.call none 8 [.v 11,.v 12,.v 17] 1 [] <|
(.lt none (.bin .lss) [.v 19,.c (.int .i64 0)] 1 <|
(.ite (.v 20)
(.leaf .ret [.c (.int .i64 (-1))] ())
(.call none 9 [.v 14,.v 19] 1 [] <|
(.lt none (.bin .lss) [.v 21,.c (.int .i64 0)] 1 <|
(.ite (.v 22)
(.leaf .ret [.c (.int .i64 (-1))] ())
(.call none 6 [.v 15,.v 21] 1 [] <|
(.lt none (.bin .lss) [.v 23,.c (.int .i64 0)] 1 <|
(.ite (.v 24)
(.leaf .ret [.c (.int .i64 (-1))] ())
(.leaf .ret [.v 23] ())))))))))))))
def Ibh:Tm Unit :=
(.lt none .len [.v 0] 1 <|
(.lt none (.bin .sub) [.v 1,.v 2] 1 <|
(.lt none (.bin .lss) [.v 3,.c (.int .i64 0)] 1 <|
(.ite (.v 4)
(.leaf .ret [.c (.int .i64 (-1))] ())
(.bind 1
(.loop [.v 3,.c (.int .i64 0)]
(.lt none .len [.v 0] 1 <|
(.lt none (.bin .lss) [.v 6,.v 7] 1 <|
(.ite (.v 8)
(.lt none .inb [.v 0,.v 6] 0 <|
(.lt none (.row 15 0 [true,true,true,true,true,true,true,true,true,true,true,true,true,true,false]) [.v 0,.v 6] 15 <|
(.call none 13 [.v 9,.v 10,.v 11,.v 12,.v 13,.v 14,.v 15,.v 16,.v 17,.v 18,.v 19,.v 20,.v 21,.v 22,.v 23,.v 5] 1 [] <|
(.lt none (.bin .lss) [.v 24,.c (.int .i64 0)] 1 <|
(.ite (.v 25)
(.leaf .ret [.c (.int .i64 (-1))] ())
(.lt none (.bin .add) [.v 6,.c (.int .i64 1)] 1 <|
(.leaf .cont [.v 24,.v 26] ())))))))
(.leaf (.yield 1) [.v 5] ()))))) <|
(.leaf .ret [.v 5] ()))))))
def Ibg:Tm Unit :=
(.call none 8 [.v 13,.v 14,.v 15] 1 [] <|
(.lt none (.bin .lss) [.v 16,.c (.int .i64 0)] 1 <|
(.ite (.v 17)
(.leaf .ret [.c (.int .i64 (-1))] ())
(.leaf .ret [.v 16] ()))))
def Ibf:Tm Unit :=
(.lt none .len [.v 0] 1 <|
(.lt none (.bin .sub) [.v 1,.v 2] 1 <|
(.lt none (.bin .lss) [.v 3,.c (.int .i64 0)] 1 <|
(.ite (.v 4)
(.leaf .ret [.c (.int .i64 (-1))] ())
(.leaf .ret [.v 3] ())))))
def Ibe:Tm Unit :=
(.call none 16 [.v 0] 1 [] <|
(.call none 27 [.v 1] 1 [] <|
(.call none 29 [.v 2] 1 [] <|
(.leaf .ret [.v 3,.v 4,.v 5] ()))))
def Ibd:Tm Unit :=
(.lt none .len [.v 0] 1 <|
(.lt none (.make 64 [(.int .i64 0),(.int .i64 0),(.rows 1 []),(.rows 16 [])]) [.v 1] 1 <|
(.bind 1
(.loop [.v 2,.c (.int .i64 0)]
(.lt none .len [.v 0] 1 <|
(.lt none (.bin .lss) [.v 4,.v 5] 1 <|
(.ite (.v 6)
(.lt none .inb [.v 0,.v 4] 0 <|
(.lt none (.row 4 0 [true,true,false,false]) [.v 0,.v 4] 4 <|
(.call none 17 [.v 7,.v 8,.v 9,.v 10] 4 [] <|
(.lt none .inb [.v 3,.v 4] 0 <|
(.lt none (.set 4 0 4) [.v 3,.v 4,.v 11,.v 12,.v 13,.v 14] 1 <|
(.lt none (.bin .add) [.v 4,.c (.int .i64 1)] 1 <|
(.leaf .cont [.v 15,.v 16] ())))))))
(.leaf (.yield 1) [.v 3] ()))))) <|
(.leaf .ret [.v 3] ()))))
def Ibc:Tm Unit :=
(.call none 18 [.v 1,.v 2] 2 [] <|
(.call none 25 [.v 3] 1 [] <|
(.leaf .ret [.v 0,.v 4,.v 5,.v 6] ())))
def Ibb:Tm Unit :=
(.call none 19 [.v 1] 1 [] <|
(.leaf .ret [.v 0,.v 2] ()))
def Iba:Tm Unit :=
(.lt none .len [.v 0] 1 <|
(.lt none (.make 24 [(.rows 10 [])]) [.v 1] 1 <|
(.bind 1
(.loop [.v 2,.c (.int .i64 0)]
(.lt none .len [.v 0] 1 <|
(.lt none (.bin .lss) [.v 4,.v 5] 1 <|
(.ite (.v 6)
(.lt none .inb [.v 0,.v 4] 0 <|
(.lt none (.row 1 0 [false]) [.v 0,.v 4] 1 <|
(.call none 20 [.v 7] 1 [] <|
(.lt none .inb [.v 3,.v 4] 0 <|
(.lt none (.set 1 0 1) [.v 3,.v 4,.v 8] 1 <|
(.lt none (.bin .add) [.v 4,.c (.int .i64 1)] 1 <|
(.leaf .cont [.v 9,.v 10] ())))))))
(.leaf (.yield 1) [.v 3] ()))))) <|
(.leaf .ret [.v 3] ()))))
def Hb9:Tm Unit :=
(.lt none .len [.v 0] 1 <|
(.lt none (.make 96 [(.int .i64 0),(.int .i64 0),(.int .i64 0),(.int .i64 0),(.int .i64 0),(.int .i64 0),(.int .i64 0),(.int .i64 0),(.int .i64 0),(.rows 1 [])]) [.v 1] 1 <|
(.bind 1
(.loop [.v 2,.c (.int .i64 0)]
(.lt none .len [.v 0] 1 <|
(.lt none (.bin .lss) [.v 4,.v 5] 1 <|
(.ite (.v 6)
(.lt none .inb [.v 0,.v 4] 0 <|
(.lt none (.row 10 0 [true,true,true,true,true,true,true,true,true,false]) [.v 0,.v 4] 10 <|
(.call none 21 [.v 7,.v 8,.v 9,.v 10,.v 11,.v 12,.v 13,.v 14,.v 15,.v 16] 10 [] <|
(.lt none .inb [.v 3,.v 4] 0 <|
(.lt none (.set 10 0 10) [.v 3,.v 4,.v 17,.v 18,.v 19,.v 20,.v 21,.v 22,.v 23,.v 24,.v 25,.v 26] 1 <|
(.lt none (.bin .add) [.v 4,.c (.int .i64 1)] 1 <|
(.leaf .cont [.v 27,.v 28] ())))))))
(.leaf (.yield 1) [.v 3] ()))))) <|
(.leaf .ret [.v 3] ()))))
def Hb8:Tm Unit :=
(.call none 22 [.v 3,.v 4,.v 5,.v 6,.v 7] 5 [] <|
(.call none 23 [.v 8,.v 9] 2 [] <|
(.leaf .ret [.v 0,.v 1,.v 2,.v 10,.v 11,.v 12,.v 13,.v 14,.v 15,.v 16] ())))
def Hb7:Tm Unit :=
(.leaf .ret [.v 0,.v 1,.v 2,.v 3,.v 4] ())
def Hb6:Tm Unit :=
(.call none 24 [.v 1] 1 [] <|
(.leaf .ret [.v 0,.v 2] ()))
def Hbz:Tm Unit :=
(.lt none .len [.v 0] 1 <|
(.lt none (.make 8 [(.int .i64 0)]) [.v 1] 1 <|
(.bind 1
(.loop [.v 2,.c (.int .i64 0)]
(.lt none .len [.v 0] 1 <|
(.lt none (.bin .lss) [.v 4,.v 5] 1 <|
(.ite (.v 6)
(.lt none .inb [.v 0,.v 4] 0 <|
(.lt none (.row 1 0 [true]) [.v 0,.v 4] 1 <|
(.lt none .inb [.v 3,.v 4] 0 <|
(.lt none (.set 1 0 1) [.v 3,.v 4,.v 7] 1 <|
(.lt none (.bin .add) [.v 4,.c (.int .i64 1)] 1 <|
(.leaf .cont [.v 8,.v 9] ()))))))
(.leaf (.yield 1) [.v 3] ()))))) <|
(.leaf .ret [.v 3] ()))))
def Hby:Tm Unit :=
(.lt none .len [.v 0] 1 <|
(.lt none (.make 192 [(.int .i64 0),(.int .i64 0),(.int .i64 0),(.int .i64 0),(.int .i64 0),(.int .i64 0),(.int .i64 0),(.int .i64 0),(.int .i64 0),(.int .i64 0),(.rows 1 []),(.int .i64 0),(.rows 1 []),(.bool false),(.rows 1 []),(.rows 10 [])]) [.v 1] 1 <|
(.bind 1
(.loop [.v 2,.c (.int .i64 0)]
(.lt none .len [.v 0] 1 <|
(.lt none (.bin .lss) [.v 4,.v 5] 1 <|
(.ite (.v 6)
(.lt none .inb [.v 0,.v 4] 0 <|
(.lt none (.row 16 0 [true,true,true,true,true,true,true,true,true,true,false,true,false,true,false,false]) [.v 0,.v 4] 16 <|
(.call none 26 [.v 7,.v 8,.v 9,.v 10,.v 11,.v 12,.v 13,.v 14,.v 15,.v 16,.v 17,.v 18,.v 19,.v 20,.v 21,.v 22] 16 [] <|
(.lt none .inb [.v 3,.v 4] 0 <|
(.lt none (.set 16 0 16) [.v 3,.v 4,.v 23,.v 24,.v 25,.v 26,.v 27,.v 28,.v 29,.v 30,.v 31,.v 32,.v 33,.v 34,.v 35,.v 36,.v 37,.v 38] 1 <|
(.lt none (.bin .add) [.v 4,.c (.int .i64 1)] 1 <|
(.leaf .cont [.v 39,.v 40] ())))))))
(.leaf (.yield 1) [.v 3] ()))))) <|
(.leaf .ret [.v 3] ()))))
def Hbx:Tm Unit :=
(.call none 22 [.v 4,.v 5,.v 6,.v 7,.v 8] 5 [] <|
(.call none 23 [.v 9,.v 10] 2 [] <|
(.call none 23 [.v 11,.v 12] 2 [] <|
(.call none 24 [.v 14] 1 [] <|
(.call none 20 [.v 15] 1 [] <|
(.leaf .ret [.v 0,.v 1,.v 2,.v 3,.v 16,.v 17,.v 18,.v 19,.v 20,.v 21,.v 22,.v 23,.v 24,.v 13,.v 25,.v 26] ()))))))
def Hbw:Tm Unit :=
(.lt none .len [.v 0] 1 <|
(.lt none (.make 136 [(.int .i64 0),(.int .i64 0),(.int .i64 0),(.int .i64 0),(.int .i64 0),(.int .i64 0),(.int .i64 0),(.int .i64 0),(.int .i64 0),(.int .i64 0),(.int .i64 0),(.int .i64 0),(.int .i64 0),(.int .i64 0),(.rows 1 [])]) [.v 1] 1 <|
(.bind 1
(.loop [.v 2,.c (.int .i64 0)]
(.lt none .len [.v 0] 1 <|
(.lt none (.bin .lss) [.v 4,.v 5] 1 <|
(.ite (.v 6)
(.lt none .inb [.v 0,.v 4] 0 <|
(.lt none (.row 15 0 [true,true,true,true,true,true,true,true,true,true,true,true,true,true,false]) [.v 0,.v 4] 15 <|
(.call none 28 [.v 7,.v 8,.v 9,.v 10,.v 11,.v 12,.v 13,.v 14,.v 15,.v 16,.v 17,.v 18,.v 19,.v 20,.v 21] 15 [] <|
(.lt none .inb [.v 3,.v 4] 0 <|
(.lt none (.set 15 0 15) [.v 3,.v 4,.v 22,.v 23,.v 24,.v 25,.v 26,.v 27,.v 28,.v 29,.v 30,.v 31,.v 32,.v 33,.v 34,.v 35,.v 36] 1 <|
(.lt none (.bin .add) [.v 4,.c (.int .i64 1)] 1 <|
(.leaf .cont [.v 37,.v 38] ())))))))
(.leaf (.yield 1) [.v 3] ()))))) <|
(.leaf .ret [.v 3] ()))))
def Hbv:Tm Unit :=
(.call none 22 [.v 8,.v 9,.v 10,.v 11,.v 12] 5 [] <|
(.call none 23 [.v 13,.v 14] 2 [] <|
(.leaf .ret [.v 0,.v 1,.v 2,.v 3,.v 4,.v 5,.v 6,.v 7,.v 15,.v 16,.v 17,.v 18,.v 19,.v 20,.v 21] ())))
def Hbu:Tm Unit :=
(.lt none .len [.v 0] 1 <|
(.lt none (.make 56 [(.int .i64 0),(.int .i64 0),(.int .i64 0),(.int .i64 0),(.int .i64 0),(.int .i64 0),(.int .i64 0)]) [.v 1] 1 <|
(.bind 1
(.loop [.v 2,.c (.int .i64 0)]
(.lt none .len [.v 0] 1 <|
(.lt none (.bin .lss) [.v 4,.v 5] 1 <|
(.ite (.v 6)
(.lt none .inb [.v 0,.v 4] 0 <|
(.lt none (.row 7 0 [true,true,true,true,true,true,true]) [.v 0,.v 4] 7 <|
(.call none 30 [.v 7,.v 8,.v 9,.v 10,.v 11,.v 12,.v 13] 7 [] <|
(.lt none .inb [.v 3,.v 4] 0 <|
(.lt none (.set 7 0 7) [.v 3,.v 4,.v 14,.v 15,.v 16,.v 17,.v 18,.v 19,.v 20] 1 <|
(.lt none (.bin .add) [.v 4,.c (.int .i64 1)] 1 <|
(.leaf .cont [.v 21,.v 22] ())))))))
(.leaf (.yield 1) [.v 3] ()))))) <|
(.leaf .ret [.v 3] ()))))
def Hbt:Tm Unit :=
(.call none 22 [.v 2,.v 3,.v 4,.v 5,.v 6] 5 [] <|
(.leaf .ret [.v 0,.v 1,.v 7,.v 8,.v 9,.v 10,.v 11] ()))
def Hbs:Tm Unit :=
(.call none 32 [.v 0,.v 1,.v 2,.v 3] 1 [] <|
(.lt none .not [.v 4] 1 <|
(.ite (.v 5)
(.leaf .ret [.c (.int .i64 0),.c (.int .i64 0),.c (.int .i64 0),.c (.bool false)] ())
(.call none 53 [.v 0,.v 1,.v 2,.v 3] 4 [] <|
(.leaf .ret [.v 6,.v 7,.v 8,.v 9] ())))))
def Hbr:Tm Unit :=
(.call none 33 [.v 0,.v 1,.v 2] 1 [] <|
(.lt (some (.v 4,true)) .len [.v 3] 1 <|
(.lt (some (.v 4,true)) (.bin .gtr) [.v 5,.c (.int .i64 0)] 1 <|
(.lt none .pick [.v 4,.v 6,.c (.bool false)] 1 <|
(.lt (some (.v 7,true)) .len [.v 0] 1 <|
(.lt (some (.v 7,true)) (.bin .sub) [.v 8,.c (.int .i64 1)] 1 <|
(.call (some (.v 7,true)) 50 [.v 3,.c (.int .i64 0),.v 9] 1 [] <|
(.lt none .pick [.v 7,.v 10,.c (.bool false)] 1 <|
(.leaf .ret [.v 11] ())))))))))
def Hbq:Tm Unit :=
(.lt none .len [.v 0] 1 <|
(.call none 34 [.v 3] 1 [] <|
(.lt none .not [.v 4] 1 <|
(.lt (some (.v 5,false)) .len [.v 1] 1 <|
(.lt (some (.v 5,false)) (.bin .gtr) [.v 6,.c (.int .i64 80)] 1 <|
(.lt none .pick [.v 5,.c (.bool true),.v 7] 1 <|
(.lt (some (.v 8,false)) .id [.v 3] 1 <|
(.call (some (.v 8,false)) 35 [.v 9,.v 2] 1 [] <|
(.lt (some (.v 8,false)) .not [.v 10] 1 <|
(.lt none .pick [.v 8,.c (.bool true),.v 11] 1 <|
(.ite (.v 12)
(.leaf .ret [.c (.bool false)] ())
(.lt none .len [.v 0] 1 <|
(.bind 1
(.loop [.c (.int .i64 0)]
(.lt none (.bin .lss) [.v 14,.v 13] 1 <|
(.ite (.v 15)
(.lt none .inb [.v 0,.v 14] 0 <|
(.lt none (.row 4 0 [true,true,false,false]) [.v 0,.v 14] 4 <|
(.call none 41 [.v 16,.v 17,.v 18,.v 19] 1 [] <|
(.lt none .not [.v 20] 1 <|
(.lt (some (.v 21,false)) .id [.v 16] 1 <|
(.lt (some (.v 21,false)) .id [.v 14] 1 <|
(.lt (some (.v 21,false)) (.bin .neq) [.v 22,.v 23] 1 <|
(.lt none .pick [.v 21,.c (.bool true),.v 24] 1 <|
(.lt (some (.v 25,false)) .id [.v 17] 1 <|
(.lt (some (.v 25,false)) .id [.v 3] 1 <|
(.lt (some (.v 25,false)) (.bin .neq) [.v 26,.v 27] 1 <|
(.lt none .pick [.v 25,.c (.bool true),.v 28] 1 <|
(.ite (.v 29)
(.leaf .ret [.c (.bool false)] ())
(.lt none (.bin .add) [.v 14,.c (.int .i64 1)] 1 <|
(.leaf .cont [.v 30] ())))))))))))))))
(.leaf (.yield 1) [] ())))) <|
(.lt none .len [.v 1] 1 <|
(.bind 3
(.loop [.c (.int .i64 0)]
(.lt none (.bin .lss) [.v 15,.v 14] 1 <|
(.ite (.v 16)
(.lt none .inb [.v 1,.v 15] 0 <|
(.lt none (.row 15 0 [true,true,true,true,true,true,true,true,true,true,true,true,true,true,false]) [.v 1,.v 15] 15 <|
(.call none 52 [.v 3,.v 17,.v 18,.v 19,.v 20,.v 21,.v 22,.v 23,.v 24,.v 25,.v 26,.v 27,.v 28,.v 29,.v 30,.v 31] 1 [] <|
(.lt none .not [.v 32] 1 <|
(.ite (.v 33)
(.leaf .ret [.c (.bool false)] ())
(.lt none (.bin .add) [.v 15,.c (.int .i64 1)] 1 <|
(.leaf .cont [.v 34] ())))))))
(.leaf (.yield 3) [] ())))) <|
(.leaf .ret [.c (.bool true)] ()))))))))))))))))
def Hbp:Tm Unit :=
(.lt none (.bin .eql) [.v 0,.c (.int .i64 3)] 1 <|
(.lt (some (.v 1,false)) .id [.v 0] 1 <|
(.lt (some (.v 1,false)) (.bin .eql) [.v 2,.c (.int .i64 5)] 1 <|
(.lt none .pick [.v 1,.c (.bool true),.v 3] 1 <|
(.leaf .ret [.v 4] ())))))
def Hbo:Tm Unit :=
(.lt none .len [.v 1] 1 <|
(.bind 1
(.loop [.c (.int .i64 0)]
(.lt none (.bin .lss) [.v 3,.v 2] 1 <|
(.ite (.v 4)
(.lt none .inb [.v 1,.v 3] 0 <|
(.lt none (.row 7 0 [true,true,true,true,true,true,true]) [.v 1,.v 3] 7 <|
(.call none 36 [.v 0,.v 5,.v 6] 1 [] <|
(.lt none .not [.v 12] 1 <|
(.call (some (.v 13,false)) 38 [.v 7,.v 8,.v 9,.v 10,.v 11] 1 [] <|
(.lt (some (.v 13,false)) .not [.v 14] 1 <|
(.lt none .pick [.v 13,.c (.bool true),.v 15] 1 <|
(.lt (some (.v 16,false)) .id [.v 7] 1 <|
(.lt (some (.v 16,false)) (.bin .eql) [.v 17,.c (.int .i64 0)] 1 <|
(.lt none .pick [.v 16,.c (.bool true),.v 18] 1 <|
(.ite (.v 19)
(.leaf .ret [.c (.bool false)] ())
(.lt none (.sub 7 false) [.v 1,.c (.int .i64 0),.v 3] 1 <|
(.lt none .len [.v 20] 1 <|
(.bind 3
(.loop [.c (.int .i64 0)]
(.lt none (.bin .lss) [.v 22,.v 21] 1 <|
(.ite (.v 23)
(.lt none .inb [.v 20,.v 22] 0 <|
(.lt none (.row 7 0 [true,true,true,true,true,true,true]) [.v 20,.v 22] 7 <|
(.lt none (.bin .eql) [.v 5,.v 24] 1 <|
(.lt (some (.v 31,true)) .id [.v 6] 1 <|
(.lt (some (.v 31,true)) .id [.v 25] 1 <|
(.lt (some (.v 31,true)) (.bin .eql) [.v 32,.v 33] 1 <|
(.lt none .pick [.v 31,.v 34,.c (.bool false)] 1 <|
(.ite (.v 35)
(.leaf .ret [.c (.bool false)] ())
(.lt none (.bin .add) [.v 22,.c (.int .i64 1)] 1 <|
(.leaf .cont [.v 36] ()))))))))))
(.leaf (.yield 3) [] ())))) <|
(.lt none (.bin .add) [.v 3,.c (.int .i64 1)] 1 <|
(.leaf .cont [.v 22] ()))))))))))))))))
(.leaf (.yield 1) [] ())))) <|
(.leaf .ret [.c (.bool true)] ())))
def Hbn:Tm Unit :=
(.lt none (.bin .sub) [.v 0,.c (.int .i64 1)] 1 <|
(.call none 37 [.v 1,.c (.int .i64 0),.v 3] 1 [] <|
(.lt (some (.v 4,true)) .id [.v 2] 1 <|
(.call (some (.v 4,true)) 37 [.v 5,.c (.int .i64 1),.c (.int .i64 6)] 1 [] <|
(.lt none .pick [.v 4,.v 6,.c (.bool false)] 1 <|
(.leaf .ret [.v 7] ()))))))
def Hbm:Tm Unit :=
(.lt none (.bin .geq) [.v 0,.v 1] 1 <|
(.lt (some (.v 3,true)) .id [.v 0] 1 <|
(.lt (some (.v 3,true)) .id [.v 2] 1 <|
(.lt (some (.v 3,true)) (.bin .leq) [.v 4,.v 5] 1 <|
(.lt none .pick [.v 3,.v 6,.c (.bool false)] 1 <|
(.leaf .ret [.v 7] ()))))))
def Hbl:Tm Unit :=
(.lt none (.bin .eql) [.v 0,.c (.int .i64 0)] 1 <|
(.ite (.v 5)
(.lt none (.eqs [0,0,0,0,0]) [.v 0,.v 1,.v 2,.v 3,.v 4,.c (.int .i64 0),.c (.int .i64 0),.c (.int .i64 0),.c (.int .i64 0),.c (.int .i64 0)] 1 <|
(.leaf .ret [.v 6] ()))
(.lt none (.bin .eql) [.v 0,.c (.int .i64 1)] 1 <|
(.ite (.v 6)
(.call none 39 [.v 0,.v 1,.v 2,.v 3,.v 4] 1 [] <|
(.lt none (.bin .eql) [.v 7,.c (.int .i64 0)] 1 <|
(.leaf .ret [.v 8] ())))
(.lt none (.bin .eql) [.v 0,.c (.int .i64 2)] 1 <|
(.ite (.v 7)
(.call none 39 [.v 0,.v 1,.v 2,.v 3,.v 4] 1 [] <|
(.lt none (.bin .eql) [.v 8,.c (.int .i64 0)] 1 <|
(.lt (some (.v 9,true)) .id [.v 3] 1 <|
(.lt (some (.v 9,true)) (.bin .eql) [.v 10,.c (.int .i64 0)] 1 <|
(.lt none .pick [.v 9,.v 11,.c (.bool false)] 1 <|
(.lt (some (.v 12,true)) .id [.v 4] 1 <|
(.lt (some (.v 12,true)) (.bin .eql) [.v 13,.c (.int .i64 0)] 1 <|
(.lt none .pick [.v 12,.v 14,.c (.bool false)] 1 <|
(.leaf .ret [.v 15] ())))))))))
(.leaf .ret [.c (.bool false)] ())))))))
def Hbk:Tm Unit :=
(.lt none (.bin .eql) [.v 0,.c (.int .i64 1)] 1 <|
(.call none 40 [.v 2] 1 [] <|
(.lt none .not [.v 6] 1 <|
(.lt (some (.v 7,false)) .id [.v 5] 1 <|
(.lt (some (.v 7,false)) .id [.v 8] 1 <|
(.lt (some (.v 9,true)) .id [.v 3] 1 <|
(.call (some (.v 9,true)) 40 [.v 10] 1 [] <|
(.lt (some (.v 9,true)) .not [.v 11] 1 <|
(.lt (some (.v 7,false)) .pick [.v 9,.v 12,.c (.bool false)] 1 <|
(.lt none .pick [.v 7,.c (.bool true),.v 13] 1 <|
(.ite (.v 14)
(.leaf .ret [.c (.int .i64 4)] ())
(.lt (some (.v 5,true)) .id [.v 2] 1 <|
(.lt (some (.v 5,true)) .id [.v 3] 1 <|
(.lt (some (.v 5,true)) (.bin .eql) [.v 15,.v 16] 1 <|
(.lt none .pick [.v 5,.v 17,.c (.bool false)] 1 <|
(.ite (.v 18)
(.leaf .ret [.c (.int .i64 5)] ())
(.call none 37 [.v 1,.c (.int .i64 1),.c (.int .i64 999)] 1 [] <|
(.lt none .not [.v 19] 1 <|
(.lt (some (.v 20,false)) .id [.v 5] 1 <|
(.lt (some (.v 20,false)) .id [.v 21] 1 <|
(.lt (some (.v 22,true)) .id [.v 4] 1 <|
(.call (some (.v 22,true)) 37 [.v 23,.c (.int .i64 1),.c (.int .i64 1000)] 1 [] <|
(.lt (some (.v 22,true)) .not [.v 24] 1 <|
(.lt (some (.v 20,false)) .pick [.v 22,.v 25,.c (.bool false)] 1 <|
(.lt none .pick [.v 20,.c (.bool true),.v 26] 1 <|
(.ite (.v 27)
(.leaf .ret [.c (.int .i64 6)] ())
(.leaf .ret [.c (.int .i64 0)] ())))))))))))))))))))))))))))
def Hbj:Tm Unit :=
(.call none 37 [.v 0,.c (.int .i64 0),.c (.int .i64 3)] 1 [] <|
(.leaf .ret [.v 1] ()))
def Hbi:Tm Unit :=
(.call none 42 [.v 1,.v 2] 1 [] <|
(.lt none .not [.v 4] 1 <|
(.lt (some (.v 5,false)) .id [.v 0] 1 <|
(.lt (some (.v 5,false)) .id [.v 1] 1 <|
(.lt (some (.v 5,false)) (.bin .sub) [.v 7,.c (.int .i64 1)] 1 <|
(.call (some (.v 5,false)) 37 [.v 6,.c (.int .i64 0),.v 8] 1 [] <|
(.lt (some (.v 5,false)) .not [.v 9] 1 <|
(.lt none .pick [.v 5,.c (.bool true),.v 10] 1 <|
(.ite (.v 11)
(.leaf .ret [.c (.bool false)] ())
(.lt none .len [.v 3] 1 <|
(.bind 1
(.loop [.c (.int .i64 0)]
(.lt none (.bin .lss) [.v 13,.v 12] 1 <|
(.ite (.v 14)
(.bind 0
(.lt none .inb [.v 3,.v 13] 0 <|
(.lt none (.row 16 0 [true,true,true,true,true,true,true,true,true,true,false,true,false,true,false,false]) [.v 3,.v 13] 16 <|
(.call none 49 [.v 1,.v 0,.v 15,.v 16,.v 17,.v 18,.v 19,.v 20,.v 21,.v 22,.v 23,.v 24,.v 25,.v 26,.v 27,.v 28,.v 29,.v 30] 1 [] <|
(.lt none .not [.v 31] 1 <|
(.ite (.v 32)
(.leaf .ret [.c (.bool false)] ())
(.lt none (.bin .gtr) [.v 13,.c (.int .i64 0)] 1 <|
(.ite (.v 33)
(.lt none (.bin .sub) [.v 13,.c (.int .i64 1)] 1 <|
(.lt none .inb [.v 3,.v 34] 0 <|
(.lt none (.row 16 0 [true,true,true,true,true,true,true,true,true,true,false,true,false,true,false,false]) [.v 3,.v 34] 16 <|
(.lt none (.bin .gtr) [.v 35,.v 15] 1 <|
(.lt (some (.v 51,false)) .id [.v 35] 1 <|
(.lt (some (.v 51,false)) .id [.v 15] 1 <|
(.lt (some (.v 51,false)) (.bin .eql) [.v 52,.v 53] 1 <|
(.lt (some (.v 51,false)) .id [.v 54] 1 <|
(.lt (some (.v 55,true)) .id [.v 36] 1 <|
(.lt (some (.v 55,true)) .id [.v 16] 1 <|
(.lt (some (.v 55,true)) (.bin .geq) [.v 56,.v 57] 1 <|
(.lt (some (.v 51,false)) .pick [.v 55,.v 58,.c (.bool false)] 1 <|
(.lt none .pick [.v 51,.c (.bool true),.v 59] 1 <|
(.ite (.v 60)
(.leaf .ret [.c (.bool false)] ())
(.leaf (.yield 0) [] ())))))))))))))))
(.leaf (.yield 0) [] ())))))))) <|
(.lt none (.bin .add) [.v 13,.c (.int .i64 1)] 1 <|
(.leaf .cont [.v 15] ())))
(.leaf (.yield 1) [] ())))) <|
(.leaf .ret [.c (.bool true)] ()))))))))))))
def Hbh:Tm Unit :=
(.call none 34 [.v 0] 1 [] <|
(.lt none .not [.v 2] 1 <|
(.lt (some (.v 3,false)) .len [.v 1] 1 <|
(.lt (some (.v 3,false)) .id [.v 0] 1 <|
(.lt (some (.v 3,false)) (.bin .neq) [.v 4,.v 5] 1 <|
(.lt none .pick [.v 3,.c (.bool true),.v 6] 1 <|
(.ite (.v 7)
(.leaf .ret [.c (.bool false)] ())
(.lt none .len [.v 1] 1 <|
(.bind 1
(.loop [.c (.int .i64 0)]
(.lt none (.bin .lss) [.v 9,.v 8] 1 <|
(.ite (.v 10)
(.lt none .inb [.v 1,.v 9] 0 <|
(.lt none (.row 1 0 [false]) [.v 1,.v 9] 1 <|
(.lt none .len [.v 11] 1 <|
(.bind 3
(.loop [.c (.int .i64 0)]
(.lt none (.bin .lss) [.v 13,.v 12] 1 <|
(.ite (.v 14)
(.lt none .inb [.v 11,.v 13] 0 <|
(.lt none (.row 10 0 [true,true,true,true,true,true,true,true,true,false]) [.v 11,.v 13] 10 <|
(.call none 43 [.v 0,.v 15,.v 16,.v 17,.v 18,.v 19,.v 20,.v 21,.v 22,.v 23,.v 24] 1 [] <|
(.lt none .not [.v 25] 1 <|
(.ite (.v 26)
(.leaf .ret [.c (.bool false)] ())
(.lt none (.bin .add) [.v 13,.c (.int .i64 1)] 1 <|
(.leaf .cont [.v 27] ())))))))
(.leaf (.yield 3) [] ())))) <|
(.lt none .len [.v 11] 1 <|
(.lt none (.bin .gtr) [.v 13,.c (.int .i64 6)] 1 <|
(.ite (.v 14)
(.leaf .ret [.c (.bool false)] ())
(.lt none (.bin .add) [.v 9,.c (.int .i64 1)] 1 <|
(.leaf .cont [.v 15] ())))))))))
(.leaf (.yield 1) [] ())))) <|
(.leaf .ret [.c (.bool true)] ()))))))))))
def Hbg:Tm Unit :=
(.call none 37 [.v 1,.c (.int .i64 0),.c (.int .i64 9999)] 1 [] <|
(.lt none .not [.v 11] 1 <|
(.lt (some (.v 12,false)) .id [.v 2] 1 <|
(.lt (some (.v 12,false)) .id [.v 1] 1 <|
(.call (some (.v 12,false)) 37 [.v 13,.c (.int .i64 0),.v 14] 1 [] <|
(.lt (some (.v 12,false)) .not [.v 15] 1 <|
(.lt none .pick [.v 12,.c (.bool true),.v 16] 1 <|
(.lt (some (.v 17,false)) .id [.v 3] 1 <|
(.call (some (.v 17,false)) 37 [.v 18,.c (.int .i64 0),.c (.int .i64 3)] 1 [] <|
(.lt (some (.v 17,false)) .not [.v 19] 1 <|
(.lt none .pick [.v 17,.c (.bool true),.v 20] 1 <|
(.ite (.v 21)
(.leaf .ret [.c (.bool false)] ())
(.lt none (.bin .eql) [.v 3,.c (.int .i64 0)] 1 <|
(.ite (.v 22)
(.lt none (.bin .eql) [.v 2,.c (.int .i64 0)] 1 <|
(.lt (some (.v 23,true)) (.eqs [0,0,0,0,0]) [.v 4,.v 5,.v 6,.v 7,.v 8,.c (.int .i64 0),.c (.int .i64 0),.c (.int .i64 0),.c (.int .i64 0),.c (.int .i64 0)] 1 <|
(.lt none .pick [.v 23,.v 24,.c (.bool false)] 1 <|
(.lt (some (.v 25,true)) .id [.v 0] 1 <|
(.call (some (.v 25,true)) 44 [.v 26] 2 [] <|
(.call (some (.v 25,true)) 45 [.v 9,.v 10,.v 27,.v 28] 1 [] <|
(.lt none .pick [.v 25,.v 29,.c (.bool false)] 1 <|
(.leaf .ret [.v 30] ()))))))))
(.call none 38 [.v 4,.v 5,.v 6,.v 7,.v 8] 1 [] <|
(.lt (some (.v 23,true)) .id [.v 0] 1 <|
(.call (some (.v 23,true)) 47 [.v 24,.v 9,.v 10] 1 [] <|
(.lt none .pick [.v 23,.v 25,.c (.bool false)] 1 <|
(.leaf .ret [.v 26] ())))))))))))))))))))
def Hbf:Tm Unit :=
(.lt none (.make 8 [(.int .i64 0)]) [.v 0] 1 <|
(.leaf .ret [.c (.int .i64 0),.v 1] ()))
def Hbe:Tm Unit :=
(.lt none (.bin .eql) [.v 0,.v 2] 1 <|
(.call (some (.v 4,true)) 46 [.v 1,.v 3] 1 [] <|
(.lt none .pick [.v 4,.v 5,.c (.bool false)] 1 <|
(.leaf .ret [.v 6] ()))))
def Hbd:Tm Unit :=
(.lt none .len [.v 0] 1 <|
(.lt none .len [.v 1] 1 <|
(.lt none (.bin .neq) [.v 2,.v 3] 1 <|
(.ite (.v 4)
(.leaf .ret [.c (.bool false)] ())
(.lt none .len [.v 0] 1 <|
(.bind 1
(.loop [.c (.int .i64 0)]
(.lt none (.bin .lss) [.v 6,.v 5] 1 <|
(.ite (.v 7)
(.lt none .inb [.v 0,.v 6] 0 <|
(.lt none (.row 1 0 [true]) [.v 0,.v 6] 1 <|
(.lt none .inb [.v 1,.v 6] 0 <|
(.lt none (.row 1 0 [true]) [.v 1,.v 6] 1 <|
(.lt none (.bin .neq) [.v 8,.v 9] 1 <|
(.ite (.v 10)
(.leaf .ret [.c (.bool false)] ())
(.lt none (.bin .add) [.v 6,.c (.int .i64 1)] 1 <|
(.leaf .cont [.v 11] ()))))))))
(.leaf (.yield 1) [] ())))) <|
(.leaf .ret [.c (.bool true)] ())))))))
def Hbc:Tm Unit :=
(.call none 37 [.v 1,.c (.int .i64 0),.c (.int .i64 999)] 1 [] <|
(.lt (some (.v 3,true)) .len [.v 2] 1 <|
(.lt (some (.v 3,true)) .id [.v 0] 1 <|
(.lt (some (.v 3,true)) (.bin .eql) [.v 4,.v 5] 1 <|
(.lt none .pick [.v 3,.v 6,.c (.bool false)] 1 <|
(.call (some (.v 7,true)) 48 [.v 2,.c (.int .i64 0),.c (.int .i64 6)] 1 [] <|
(.lt none .pick [.v 7,.v 8,.c (.bool false)] 1 <|
(.leaf .ret [.v 9] ()))))))))
def Hbb:Tm Unit :=
(.lt none .len [.v 0] 1 <|
(.bind 1
(.loop [.c (.int .i64 0)]
(.lt none (.bin .lss) [.v 4,.v 3] 1 <|
(.ite (.v 5)
(.lt none .inb [.v 0,.v 4] 0 <|
(.lt none (.row 1 0 [true]) [.v 0,.v 4] 1 <|
(.call none 37 [.v 6,.v 1,.v 2] 1 [] <|
(.lt none .not [.v 7] 1 <|
(.ite (.v 8)
(.leaf .ret [.c (.bool false)] ())
(.lt none (.bin .add) [.v 4,.c (.int .i64 1)] 1 <|
(.leaf .cont [.v 9] ())))))))
(.leaf (.yield 1) [] ())))) <|
(.leaf .ret [.c (.bool true)] ())))
def Hba:Tm Unit :=
(.call none 36 [.v 0,.v 2,.v 3] 1 [] <|
(.lt none .not [.v 18] 1 <|
(.lt (some (.v 19,false)) .id [.v 4] 1 <|
(.call (some (.v 19,false)) 37 [.v 20,.c (.int .i64 0),.c (.int .i64 9999)] 1 [] <|
(.lt (some (.v 19,false)) .not [.v 21] 1 <|
(.lt none .pick [.v 19,.c (.bool true),.v 22] 1 <|
(.lt (some (.v 23,false)) .id [.v 0] 1 <|
(.lt (some (.v 23,false)) (.bin .sub) [.v 24,.c (.int .i64 1)] 1 <|
(.call (some (.v 23,false)) 50 [.v 16,.c (.int .i64 0),.v 25] 1 [] <|
(.lt (some (.v 23,false)) .not [.v 26] 1 <|
(.lt none .pick [.v 23,.c (.bool true),.v 27] 1 <|
(.lt (some (.v 28,false)) .id [.v 1] 1 <|
(.call (some (.v 28,false)) 51 [.v 16,.v 29] 1 [] <|
(.lt (some (.v 28,false)) .not [.v 30] 1 <|
(.lt none .pick [.v 28,.c (.bool true),.v 31] 1 <|
(.lt (some (.v 32,false)) .id [.v 0] 1 <|
(.call (some (.v 32,false)) 47 [.v 33,.v 11,.v 12] 1 [] <|
(.lt (some (.v 32,false)) .not [.v 34] 1 <|
(.lt none .pick [.v 32,.c (.bool true),.v 35] 1 <|
(.lt (some (.v 36,false)) .id [.v 0] 1 <|
(.call (some (.v 36,false)) 47 [.v 37,.v 13,.v 14] 1 [] <|
(.lt (some (.v 36,false)) .not [.v 38] 1 <|
(.lt none .pick [.v 36,.c (.bool true),.v 39] 1 <|
(.ite (.v 40)
(.leaf .ret [.c (.bool false)] ())
(.lt none .len [.v 17] 1 <|
(.bind 1
(.loop [.c (.int .i64 0)]
(.lt none (.bin .lss) [.v 42,.v 41] 1 <|
(.ite (.v 43)
(.lt none .inb [.v 17,.v 42] 0 <|
(.lt none (.row 10 0 [true,true,true,true,true,true,true,true,true,false]) [.v 17,.v 42] 10 <|
(.call none 43 [.v 0,.v 44,.v 45,.v 46,.v 47,.v 48,.v 49,.v 50,.v 51,.v 52,.v 53] 1 [] <|
(.lt none .not [.v 54] 1 <|
(.lt (some (.v 55,false)) .id [.v 46] 1 <|
(.lt (some (.v 55,false)) (.bin .eql) [.v 56,.c (.int .i64 3)] 1 <|
(.lt none .pick [.v 55,.c (.bool true),.v 57] 1 <|
(.ite (.v 58)
(.leaf .ret [.c (.bool false)] ())
(.lt none (.bin .add) [.v 42,.c (.int .i64 1)] 1 <|
(.leaf .cont [.v 59] ()))))))))))
(.leaf (.yield 1) [] ())))) <|
(.lt none (.bin .eql) [.v 5,.c (.int .i64 1)] 1 <|
(.ite (.v 42)
(.call none 38 [.v 6,.v 7,.v 8,.v 9,.v 10] 1 [] <|
(.lt (some (.v 43,true)) .len [.v 17] 1 <|
(.lt (some (.v 43,true)) (.bin .eql) [.v 44,.c (.int .i64 0)] 1 <|
(.lt none .pick [.v 43,.v 45,.c (.bool false)] 1 <|
(.leaf .ret [.v 46] ())))))
(.lt none (.bin .eql) [.v 5,.c (.int .i64 2)] 1 <|
(.ite (.v 43)
(.call none 38 [.v 6,.v 7,.v 8,.v 9,.v 10] 1 [] <|
(.lt (some (.v 44,true)) .len [.v 17] 1 <|
(.lt (some (.v 44,true)) (.bin .eql) [.v 45,.c (.int .i64 0)] 1 <|
(.lt none .pick [.v 44,.v 46,.c (.bool false)] 1 <|
(.lt (some (.v 47,true)) .id [.v 15] 1 <|
(.lt (some (.v 47,true)) .not [.v 48] 1 <|
(.lt none .pick [.v 47,.v 49,.c (.bool false)] 1 <|
(.call (some (.v 50,true)) 45 [.v 11,.v 12,.v 13,.v 14] 1 [] <|
(.lt none .pick [.v 50,.v 51,.c (.bool false)] 1 <|
(.leaf .ret [.v 52] ()))))))))))
(.lt none (.bin .eql) [.v 5,.c (.int .i64 3)] 1 <|
(.ite (.v 44)
(.call none 44 [.v 0] 2 [] <|
(.lt none (.eqs [0,0,0,0,0]) [.v 6,.v 7,.v 8,.v 9,.v 10,.c (.int .i64 0),.c (.int .i64 0),.c (.int .i64 0),.c (.int .i64 0),.c (.int .i64 0)] 1 <|
(.call (some (.v 47,true)) 45 [.v 11,.v 12,.v 45,.v 46] 1 [] <|
(.lt none .pick [.v 47,.v 48,.c (.bool false)] 1 <|
(.call (some (.v 49,true)) 45 [.v 13,.v 14,.v 45,.v 46] 1 [] <|
(.lt none .pick [.v 49,.v 50,.c (.bool false)] 1 <|
(.lt (some (.v 51,true)) .id [.v 15] 1 <|
(.lt (some (.v 51,true)) .not [.v 52] 1 <|
(.lt none .pick [.v 51,.v 53,.c (.bool false)] 1 <|
(.lt (some (.v 54,true)) .len [.v 17] 1 <|
(.lt (some (.v 54,true)) .len [.v 16] 1 <|
(.lt (some (.v 54,true)) (.bin .eql) [.v 55,.v 56] 1 <|
(.lt none .pick [.v 54,.v 57,.c (.bool false)] 1 <|
(.leaf .ret [.v 58] ()))))))))))))))
(.leaf .ret [.c (.bool false)] ())))))))))))))))))))))))))))))))))
def Gb9:Tm Unit :=
(.lt none .len [.v 0] 1 <|
(.bind 1
(.loop [.c (.int .i64 0)]
(.lt none (.bin .lss) [.v 4,.v 3] 1 <|
(.ite (.v 5)
(.lt none .inb [.v 0,.v 4] 0 <|
(.lt none (.row 1 0 [true]) [.v 0,.v 4] 1 <|
(.call none 37 [.v 6,.v 1,.v 2] 1 [] <|
(.lt none .not [.v 7] 1 <|
(.lt (some (.v 8,false)) .id [.v 4] 1 <|
(.lt (some (.v 8,false)) (.bin .gtr) [.v 9,.c (.int .i64 0)] 1 <|
(.lt (some (.v 8,false)) .id [.v 10] 1 <|
(.lt (some (.v 11,true)) .id [.v 4] 1 <|
(.lt (some (.v 11,true)) (.bin .sub) [.v 12,.c (.int .i64 1)] 1 <|
(.lt (some (.v 11,true)) .inb [.v 0,.v 13] 0 <|
(.lt (some (.v 11,true)) (.row 1 0 [true]) [.v 0,.v 13] 1 <|
(.lt (some (.v 11,true)) .id [.v 6] 1 <|
(.lt (some (.v 11,true)) (.bin .geq) [.v 14,.v 15] 1 <|
(.lt (some (.v 8,false)) .pick [.v 11,.v 16,.c (.bool false)] 1 <|
(.lt none .pick [.v 8,.c (.bool true),.v 17] 1 <|
(.ite (.v 18)
(.leaf .ret [.c (.bool false)] ())
(.lt none (.bin .add) [.v 4,.c (.int .i64 1)] 1 <|
(.leaf .cont [.v 19] ()))))))))))))))))))
(.leaf (.yield 1) [] ())))) <|
(.leaf .ret [.c (.bool true)] ())))
def Gb8:Tm Unit :=
(.lt none .len [.v 0] 1 <|
(.bind 1
(.loop [.c (.int .i64 0)]
(.lt none (.bin .lss) [.v 3,.v 2] 1 <|
(.ite (.v 4)
(.lt none .inb [.v 0,.v 3] 0 <|
(.lt none (.row 1 0 [true]) [.v 0,.v 3] 1 <|
(.lt none (.bin .eql) [.v 5,.v 1] 1 <|
(.ite (.v 6)
(.leaf .ret [.c (.bool true)] ())
(.lt none (.bin .add) [.v 3,.c (.int .i64 1)] 1 <|
(.leaf .cont [.v 7] ()))))))
(.leaf (.yield 1) [] ())))) <|
(.leaf .ret [.c (.bool false)] ())))
def Gb7:Tm Unit :=
(.call none 34 [.v 0] 1 [] <|
(.lt none .not [.v 16] 1 <|
(.lt (some (.v 17,false)) .id [.v 1] 1 <|
(.call (some (.v 17,false)) 37 [.v 18,.c (.int .i64 1),.c (.int .i64 7)] 1 [] <|
(.lt (some (.v 17,false)) .not [.v 19] 1 <|
(.lt none .pick [.v 17,.c (.bool true),.v 20] 1 <|
(.lt (some (.v 21,false)) .id [.v 2] 1 <|
(.lt (some (.v 21,false)) .id [.v 0] 1 <|
(.lt (some (.v 21,false)) (.bin .sub) [.v 23,.c (.int .i64 1)] 1 <|
(.call (some (.v 21,false)) 37 [.v 22,.c (.int .i64 0),.v 24] 1 [] <|
(.lt (some (.v 21,false)) .not [.v 25] 1 <|
(.lt none .pick [.v 21,.c (.bool true),.v 26] 1 <|
(.lt (some (.v 27,false)) .id [.v 3] 1 <|
(.lt (some (.v 27,false)) .id [.v 0] 1 <|
(.lt (some (.v 27,false)) (.bin .sub) [.v 29,.c (.int .i64 1)] 1 <|
(.call (some (.v 27,false)) 37 [.v 28,.c (.int .i64 0),.v 30] 1 [] <|
(.lt (some (.v 27,false)) .not [.v 31] 1 <|
(.lt none .pick [.v 27,.c (.bool true),.v 32] 1 <|
(.lt (some (.v 33,false)) .id [.v 2] 1 <|
(.lt (some (.v 33,false)) .id [.v 3] 1 <|
(.lt (some (.v 33,false)) (.bin .eql) [.v 34,.v 35] 1 <|
(.lt none .pick [.v 33,.c (.bool true),.v 36] 1 <|
(.lt (some (.v 37,false)) .id [.v 0] 1 <|
(.lt (some (.v 37,false)) .id [.v 4] 1 <|
(.lt (some (.v 37,false)) .id [.v 5] 1 <|
(.call (some (.v 37,false)) 36 [.v 38,.v 39,.v 40] 1 [] <|
(.lt (some (.v 37,false)) .not [.v 41] 1 <|
(.lt none .pick [.v 37,.c (.bool true),.v 42] 1 <|
(.lt (some (.v 43,false)) .id [.v 6] 1 <|
(.call (some (.v 43,false)) 37 [.v 44,.c (.int .i64 0),.c (.int .i64 9999)] 1 [] <|
(.lt (some (.v 43,false)) .not [.v 45] 1 <|
(.lt none .pick [.v 43,.c (.bool true),.v 46] 1 <|
(.ite (.v 47)
(.leaf .ret [.c (.bool false)] ())
(.lt none (.bin .eql) [.v 1,.c (.int .i64 7)] 1 <|
(.ite (.v 48)
(.lt none (.bin .neq) [.v 8,.c (.int .i64 3)] 1 <|
(.lt (some (.v 49,true)) .id [.v 0] 1 <|
(.lt (some (.v 49,true)) .id [.v 6] 1 <|
(.lt (some (.v 49,true)) .id [.v 7] 1 <|
(.lt (some (.v 49,true)) .id [.v 8] 1 <|
(.call (some (.v 49,true)) 43 [.v 50,.v 51,.v 52,.v 53,.v 9,.v 10,.v 11,.v 12,.v 13,.v 14,.v 15] 1 [] <|
(.lt none .pick [.v 49,.v 54,.c (.bool false)] 1 <|
(.leaf .ret [.v 55] ()))))))))
(.lt none (.bin .neq) [.v 7,.c (.int .i64 0)] 1 <|
(.lt (some (.v 49,false)) .id [.v 8] 1 <|
(.lt (some (.v 49,false)) (.bin .neq) [.v 50,.c (.int .i64 0)] 1 <|
(.lt none .pick [.v 49,.c (.bool true),.v 51] 1 <|
(.lt (some (.v 52,false)) .id [.v 0] 1 <|
(.call (some (.v 52,false)) 47 [.v 53,.v 14,.v 15] 1 [] <|
(.lt (some (.v 52,false)) .not [.v 54] 1 <|
(.lt none .pick [.v 52,.c (.bool true),.v 55] 1 <|
(.call (some (.v 56,false)) 38 [.v 9,.v 10,.v 11,.v 12,.v 13] 1 [] <|
(.lt (some (.v 56,false)) .not [.v 57] 1 <|
(.lt none .pick [.v 56,.c (.bool true),.v 58] 1 <|
(.lt (some (.v 59,false)) .id [.v 1] 1 <|
(.lt (some (.v 59,false)) (.bin .eql) [.v 60,.c (.int .i64 5)] 1 <|
(.lt (some (.v 59,false)) .id [.v 61] 1 <|
(.lt (some (.v 62,true)) .id [.v 6] 1 <|
(.lt (some (.v 62,true)) (.bin .neq) [.v 63,.c (.int .i64 0)] 1 <|
(.lt (some (.v 59,false)) .pick [.v 62,.v 64,.c (.bool false)] 1 <|
(.lt none .pick [.v 59,.c (.bool true),.v 65] 1 <|
(.ite (.v 66)
(.leaf .ret [.c (.bool false)] ())
(.lt none (.bin .eql) [.v 1,.c (.int .i64 2)] 1 <|
(.ite (.v 67)
(.lt none (.eqs [0,0,0,0,0]) [.v 9,.v 10,.v 11,.v 12,.v 13,.c (.int .i64 0),.c (.int .i64 0),.c (.int .i64 0),.c (.int .i64 0),.c (.int .i64 0)] 1 <|
(.leaf .ret [.v 68] ()))
(.bind 0
(.lt none (.bin .eql) [.v 1,.c (.int .i64 4)] 1 <|
(.ite (.v 68)
(.leaf (.yield 0) [.v 68] ())
(.lt none (.bin .eql) [.v 1,.c (.int .i64 6)] 1 <|
(.leaf (.yield 0) [.v 69] ())))) <|
(.ite (.v 68)
(.lt none (.eqs [0,0,0,0,0]) [.v 9,.v 10,.v 11,.v 12,.v 13,.c (.int .i64 0),.c (.int .i64 0),.c (.int .i64 0),.c (.int .i64 0),.c (.int .i64 0)] 1 <|
(.lt (some (.v 69,true)) .id [.v 0] 1 <|
(.call (some (.v 69,true)) 44 [.v 70] 2 [] <|
(.call (some (.v 69,true)) 45 [.v 14,.v 15,.v 71,.v 72] 1 [] <|
(.lt none .pick [.v 69,.v 73,.c (.bool false)] 1 <|
(.leaf .ret [.v 74] ()))))))
(.leaf .ret [.c (.bool true)] ())))))))))))))))))))))))))))))))))))))))))))))))))))))))))))
def Gb6:Tm Unit :=
(.call none 54 [.v 0,.v 1,.v 2,.v 3] 1 [] <|
(.lt none .len [.v 3] 1 <|
(.bind 1
(.loop [.c (.int .i64 0)]
(.lt none (.bin .lss) [.v 6,.v 5] 1 <|
(.ite (.v 7)
(.lt none .inb [.v 3,.v 6] 0 <|
(.lt none (.row 1 0 [true]) [.v 3,.v 6] 1 <|
(.lt none .len [.v 4] 1 <|
(.bind 3
(.loop [.c (.int .i64 0)]
(.lt none (.bin .lss) [.v 10,.v 9] 1 <|
(.ite (.v 11)
(.lt none .inb [.v 4,.v 10] 0 <|
(.lt none (.row 1 0 [false]) [.v 4,.v 10] 1 <|
(.lt none .inb [.v 0,.v 8] 0 <|
(.lt none (.row 4 1 [true,false]) [.v 0,.v 8] 2 <|
(.lt none .inb [.v 12,.c (.int .i64 0)] 0 <|
(.lt none (.row 1 0 [true]) [.v 12,.c (.int .i64 0)] 1 <|
(.lt none .inb [.v 12,.c (.int .i64 1)] 0 <|
(.lt none (.row 1 0 [true]) [.v 12,.c (.int .i64 1)] 1 <|
(.call none 56 [.v 13,.v 14,.v 15,.v 16] 10 [] <|
(.lt none (.bin .neq) [.v 19,.c (.int .i64 3)] 1 <|
(.ite (.v 27)
(.lt none .inb [.v 12,.c (.int .i64 0)] 0 <|
(.lt none (.row 1 0 [true]) [.v 12,.c (.int .i64 0)] 1 <|
(.lt none .inb [.v 12,.c (.int .i64 1)] 0 <|
(.lt none (.row 1 0 [true]) [.v 12,.c (.int .i64 1)] 1 <|
(.leaf .ret [.v 8,.v 28,.v 29,.c (.bool true)] ())))))
(.lt none (.bin .add) [.v 10,.c (.int .i64 1)] 1 <|
(.leaf .cont [.v 28] ())))))))))))))
(.leaf (.yield 3) [] ())))) <|
(.lt none (.bin .add) [.v 6,.c (.int .i64 1)] 1 <|
(.leaf .cont [.v 10] ()))))))
(.leaf (.yield 1) [] ())))) <|
(.leaf .ret [.c (.int .i64 0),.c (.int .i64 0),.c (.int .i64 0),.c (.bool false)] ()))))
def Gb5:Tm Unit :=
(.lt none .len [.v 0] 1 <|
(.lt none (.make 8 [(.int .i64 0)]) [.v 4] 1 <|
(.lt none .len [.v 3] 1 <|
(.bind 1
(.loop [.v 5,.c (.int .i64 0)]
(.lt none (.bin .lss) [.v 8,.v 6] 1 <|
(.ite (.v 9)
(.lt none .inb [.v 3,.v 8] 0 <|
(.lt none (.row 1 0 [true]) [.v 3,.v 8] 1 <|
(.lt none .inb [.v 0,.v 10] 0 <|
(.lt none (.row 4 1 [true,false]) [.v 0,.v 10] 2 <|
(.lt none .len [.v 12] 1 <|
(.bind 3
(.loop [.v 7,.c (.int .i64 0)]
(.lt none (.bin .lss) [.v 15,.v 13] 1 <|
(.ite (.v 16)
(.lt none .inb [.v 12,.v 15] 0 <|
(.lt none (.row 1 0 [false]) [.v 12,.v 15] 1 <|
(.lt none .inb [.v 14,.v 15] 0 <|
(.lt none (.row 1 0 [true]) [.v 14,.v 15] 1 <|
(.lt none .len [.v 17] 1 <|
(.call none 55 [.v 18,.v 19] 1 [] <|
(.lt none .inb [.v 14,.v 15] 0 <|
(.lt none (.set 1 0 1) [.v 14,.v 15,.v 20] 1 <|
(.lt none .len [.v 17] 1 <|
(.bind 5
(.loop [.v 21,.c (.int .i64 0)]
(.lt none (.bin .lss) [.v 24,.v 22] 1 <|
(.ite (.v 25)
(.lt none .inb [.v 17,.v 24] 0 <|
(.lt none (.row 10 0 [true,true,true,true,true,true,true,true,true,false]) [.v 17,.v 24] 10 <|
(.lt none .len [.v 35] 1 <|
(.bind 7
(.loop [.v 23,.c (.int .i64 0)]
(.lt none (.bin .lss) [.v 38,.v 36] 1 <|
(.ite (.v 39)
(.bind 0
(.lt none .inb [.v 35,.v 38] 0 <|
(.lt none (.row 1 0 [true]) [.v 35,.v 38] 1 <|
(.lt none (.bin .eql) [.v 28,.c (.int .i64 3)] 1 <|
(.ite (.v 41)
(.lt none .inb [.v 37,.v 38] 0 <|
(.lt none (.row 1 0 [true]) [.v 37,.v 38] 1 <|
(.call none 55 [.v 42,.v 40] 1 [] <|
(.lt none .inb [.v 37,.v 38] 0 <|
(.lt none (.set 1 0 1) [.v 37,.v 38,.v 43] 1 <|
(.leaf (.yield 0) [.v 44] ()))))))
(.leaf (.yield 0) [.v 37] ()))))) <|
(.lt none (.bin .add) [.v 38,.c (.int .i64 1)] 1 <|
(.leaf .cont [.v 40,.v 41] ())))
(.leaf (.yield 7) [.v 37] ())))) <|
(.lt none (.bin .add) [.v 24,.c (.int .i64 1)] 1 <|
(.leaf .cont [.v 37,.v 38] ()))))))
(.leaf (.yield 5) [.v 23] ())))) <|
(.lt none (.bin .add) [.v 15,.c (.int .i64 1)] 1 <|
(.leaf .cont [.v 23,.v 24] ()))))))))))))
(.leaf (.yield 3) [.v 14] ())))) <|
(.lt none (.bin .add) [.v 8,.c (.int .i64 1)] 1 <|
(.leaf .cont [.v 14,.v 15] ()))))))))
(.leaf (.yield 1) [.v 7] ())))) <|
(.bind 9
(.loop [.c (.rows 1 []),.c (.int .i64 0)]
(.lt none (.bin .lss) [.v 9,.v 4] 1 <|
(.ite (.v 10)
(.bind 11
(.loop [.v 8,.c (.int .i64 1)]
(.lt none .inb [.v 7,.v 9] 0 <|
(.lt none (.row 1 0 [true]) [.v 7,.v 9] 1 <|
(.lt none (.bin .leq) [.v 12,.v 13] 1 <|
(.ite (.v 14)
(.bind 0
(.lt none .len [.v 3] 1 <|
(.bind 13
(.loop [.c (.bool true),.c (.int .i64 0)]
(.lt none (.bin .lss) [.v 17,.v 15] 1 <|
(.ite (.v 18)
(.lt none .inb [.v 3,.v 17] 0 <|
(.lt none (.row 1 0 [true]) [.v 3,.v 17] 1 <|
(.lt (some (.v 16,true)) .id [.v 19] 1 <|
(.lt (some (.v 16,true)) .inb [.v 0,.v 20] 0 <|
(.lt (some (.v 16,true)) (.row 4 1 [true,false]) [.v 0,.v 20] 2 <|
(.lt (some (.v 16,true)) .id [.v 9] 1 <|
(.lt (some (.v 16,true)) .id [.v 12] 1 <|
(.call (some (.v 16,true)) 56 [.v 21,.v 22,.v 23,.v 24] 10 [] <|
(.lt (some (.v 16,true)) .id [.v 27] 1 <|
(.lt (some (.v 16,true)) (.bin .eql) [.v 35,.c (.int .i64 3)] 1 <|
(.lt none .pick [.v 16,.v 36,.c (.bool false)] 1 <|
(.lt none (.bin .add) [.v 17,.c (.int .i64 1)] 1 <|
(.leaf .cont [.v 37,.v 38] ())))))))))))))
(.leaf (.yield 13) [.v 16] ())))) <|
(.lt none .not [.v 16] 1 <|
(.ite (.v 17)
(.lt none (.mk 1 2) [.v 9,.v 12] 1 <|
(.lt none (.mk 1 1) [.v 18] 1 <|
(.lt none (.app 1 24 false) [.v 11,.v 19] 1 <|
(.leaf (.yield 0) [.v 20] ()))))
(.leaf (.yield 0) [.v 11] ()))))) <|
(.lt none (.bin .add) [.v 12,.c (.int .i64 1)] 1 <|
(.leaf .cont [.v 15,.v 16] ())))
(.leaf (.yield 11) [.v 11] ())))))) <|
(.lt none (.bin .add) [.v 9,.c (.int .i64 1)] 1 <|
(.leaf .cont [.v 11,.v 12] ())))
(.leaf (.yield 9) [.v 8] ())))) <|
(.leaf .ret [.v 8] ()))))))
def Gb4:Tm Unit :=
(.lt none (.bin .gtr) [.v 0,.v 1] 1 <|
(.ite (.v 2)
(.leaf .ret [.v 0] ())
(.leaf .ret [.v 1] ())))
def Gb3:Tm Unit :=
(.lt none .inb [.v 1,.v 2] 0 <|
(.lt none (.row 1 0 [false]) [.v 1,.v 2] 1 <|
(.lt none .len [.v 4] 1 <|
(.lt none (.bin .gtr) [.v 3,.v 5] 1 <|
(.ite (.v 6)
(.call none 44 [.v 0] 2 [] <|
(.leaf .ret [.c (.int .i64 0),.c (.int .i64 0),.c (.int .i64 0),.c (.int .i64 0),.c (.int .i64 0),.c (.int .i64 0),.c (.int .i64 0),.c (.int .i64 0),.v 7,.v 8] ()))
(.lt none .inb [.v 1,.v 2] 0 <|
(.lt none (.row 1 0 [false]) [.v 1,.v 2] 1 <|
(.lt none (.bin .sub) [.v 3,.c (.int .i64 1)] 1 <|
(.lt none .inb [.v 7,.v 8] 0 <|
(.lt none (.row 10 0 [true,true,true,true,true,true,true,true,true,false]) [.v 7,.v 8] 10 <|
(.call none 57 [.v 9,.v 10,.v 11,.v 12,.v 13,.v 14,.v 15,.v 16,.v 17,.v 18] 10 [] <|
(.leaf .ret [.v 19,.v 20,.v 21,.v 22,.v 23,.v 24,.v 25,.v 26,.v 27,.v 28] ()))))))))))))
def Gb2:Tm Unit :=
(.call none 58 [.v 8,.v 9] 2 [] <|
(.leaf .ret [.v 0,.v 1,.v 2,.v 3,.v 4,.v 5,.v 6,.v 7,.v 10,.v 11] ()))
def Gb1:Tm Unit :=
(.call none 59 [.v 1] 1 [] <|
(.leaf .ret [.v 0,.v 2] ()))
def Gb0:Tm Unit :=
(.lt none (.mk 1 0) [] 1 <|
(.lt none (.app 1 8 true) [.v 1,.v 0] 1 <|
(.leaf .ret [.v 2] ())))
def Gbz:Tm Unit :=
(.call none 61 [.v 0,.v 1,.v 2,.v 3] 1 [] <|
(.lt none .not [.v 4] 1 <|
(.ite (.v 5)
(.leaf .ret [.c (.int .i64 0),.c (.int .i64 0),.c (.int .i64 0),.c (.bool false)] ())
(.call none 108 [.v 0,.v 1,.v 2,.v 3] 3 [] <|
(.lt none .not [.v 8] 1 <|
(.ite (.v 9)
(.leaf .ret [.c (.int .i64 0),.c (.int .i64 0),.c (.int .i64 0),.c (.bool false)] ())
(.lt none .inb [.v 7,.c (.int .i64 0)] 0 <|
(.lt none (.row 1 0 [true]) [.v 7,.c (.int .i64 0)] 1 <|
(.lt none .inb [.v 7,.c (.int .i64 1)] 0 <|
(.lt none (.row 1 0 [true]) [.v 7,.c (.int .i64 1)] 1 <|
(.leaf .ret [.v 6,.v 10,.v 11,.c (.bool true)] ())))))))))))
def Gby:Tm Unit :=
(.call none 62 [.v 0,.v 1,.v 2] 1 [] <|
(.lt (some (.v 4,true)) .len [.v 3] 1 <|
(.lt (some (.v 4,true)) (.bin .gtr) [.v 5,.c (.int .i64 0)] 1 <|
(.lt none .pick [.v 4,.v 6,.c (.bool false)] 1 <|
(.lt (some (.v 7,true)) .len [.v 0] 1 <|
(.call (some (.v 7,true)) 92 [.v 8,.v 3] 1 [] <|
(.lt none .pick [.v 7,.v 9,.c (.bool false)] 1 <|
(.leaf .ret [.v 10] ()))))))))
def Gbx:Tm Unit :=
(.lt none .len [.v 0] 1 <|
(.call none 63 [.v 3] 1 [] <|
(.lt none .not [.v 4] 1 <|
(.lt (some (.v 5,false)) .len [.v 1] 1 <|
(.lt (some (.v 5,false)) (.bin .gtr) [.v 6,.c (.int .i64 80)] 1 <|
(.lt none .pick [.v 5,.c (.bool true),.v 7] 1 <|
(.call (some (.v 8,false)) 64 [.v 1,.v 3] 1 [] <|
(.lt none .pick [.v 8,.c (.bool true),.v 9] 1 <|
(.ite (.v 10)
(.leaf .ret [.c (.bool false)] ())
(.lt none .len [.v 0] 1 <|
(.bind 1
(.loop [.c (.int .i64 0)]
(.lt none (.bin .lss) [.v 12,.v 11] 1 <|
(.ite (.v 13)
(.lt none .inb [.v 0,.v 12] 0 <|
(.lt none (.row 4 0 [true,true,false,false]) [.v 0,.v 12] 4 <|
(.lt none (.bin .neq) [.v 14,.v 12] 1 <|
(.lt (some (.v 18,false)) .id [.v 15] 1 <|
(.lt (some (.v 18,false)) .id [.v 3] 1 <|
(.lt (some (.v 18,false)) (.bin .neq) [.v 19,.v 20] 1 <|
(.lt none .pick [.v 18,.c (.bool true),.v 21] 1 <|
(.call (some (.v 22,false)) 83 [.v 14,.v 15,.v 16,.v 17] 1 [] <|
(.lt (some (.v 22,false)) .not [.v 23] 1 <|
(.lt none .pick [.v 22,.c (.bool true),.v 24] 1 <|
(.ite (.v 25)
(.leaf .ret [.c (.bool false)] ())
(.lt none (.bin .add) [.v 12,.c (.int .i64 1)] 1 <|
(.leaf .cont [.v 26] ())))))))))))))
(.leaf (.yield 1) [] ())))) <|
(.lt none .len [.v 2] 1 <|
(.bind 3
(.loop [.c (.int .i64 0)]
(.lt none (.bin .lss) [.v 13,.v 12] 1 <|
(.ite (.v 14)
(.lt none .inb [.v 2,.v 13] 0 <|
(.lt none (.row 7 0 [true,true,true,true,true,true,true]) [.v 2,.v 13] 7 <|
(.call none 69 [.v 3,.v 15,.v 16] 1 [] <|
(.lt none .not [.v 22] 1 <|
(.call (some (.v 23,false)) 74 [.v 17,.v 18,.v 19,.v 20,.v 21] 1 [] <|
(.lt (some (.v 23,false)) .not [.v 24] 1 <|
(.lt none .pick [.v 23,.c (.bool true),.v 25] 1 <|
(.lt (some (.v 26,false)) .id [.v 17] 1 <|
(.lt (some (.v 26,false)) (.bin .eql) [.v 27,.c (.int .i64 0)] 1 <|
(.lt none .pick [.v 26,.c (.bool true),.v 28] 1 <|
(.lt (some (.v 29,false)) .id [.v 13] 1 <|
(.lt (some (.v 29,false)) .id [.v 15] 1 <|
(.lt (some (.v 29,false)) .id [.v 16] 1 <|
(.call (some (.v 29,false)) 105 [.v 0,.v 1,.v 2,.v 30,.v 31,.v 32] 1 [] <|
(.lt (some (.v 29,false)) (.bin .geq) [.v 33,.c (.int .i64 0)] 1 <|
(.lt none .pick [.v 29,.c (.bool true),.v 34] 1 <|
(.ite (.v 35)
(.leaf .ret [.c (.bool false)] ())
(.lt none (.bin .add) [.v 13,.c (.int .i64 1)] 1 <|
(.leaf .cont [.v 36] ())))))))))))))))))))
(.leaf (.yield 3) [] ())))) <|
(.leaf .ret [.c (.bool true)] ()))))))))))))))
def Gbw:Tm Unit :=
(.lt none (.bin .eql) [.v 0,.c (.int .i64 3)] 1 <|
(.lt (some (.v 1,false)) .id [.v 0] 1 <|
(.lt (some (.v 1,false)) (.bin .eql) [.v 2,.c (.int .i64 5)] 1 <|
(.lt none .pick [.v 1,.c (.bool true),.v 3] 1 <|
(.leaf .ret [.v 4] ())))))
def Gbv:Tm Unit :=
(.call none 65 [.v 0,.v 1] 1 [] <|
(.lt none (.bin .geq) [.v 2,.c (.int .i64 0)] 1 <|
(.leaf .ret [.v 3] ())))
def Gbu:Tm Unit :=
(.lt none .len [.v 0] 1 <|
(.bind 1
(.loop [.c (.int .i64 0)]
(.lt none (.bin .lss) [.v 3,.v 2] 1 <|
(.ite (.v 4)
(.lt none .inb [.v 0,.v 3] 0 <|
(.lt none (.row 15 0 [true,true,true,true,true,true,true,true,true,true,true,true,true,true,false]) [.v 0,.v 3] 15 <|
(.call none 66 [.v 5,.v 6,.v 7,.v 8,.v 9,.v 10,.v 11,.v 12,.v 13,.v 14,.v 15,.v 16,.v 17,.v 18,.v 19,.v 1] 1 [] <|
(.ite (.v 20)
(.leaf .ret [.v 3] ())
(.lt none (.bin .add) [.v 3,.c (.int .i64 1)] 1 <|
(.leaf .cont [.v 21] ()))))))
(.leaf (.yield 1) [] ())))) <|
(.leaf .ret [.c (.int .i64 (-1))] ())))
def Gbt:Tm Unit :=
(.call none 67 [.v 15,.v 0,.v 1,.v 2,.v 3,.v 4,.v 5,.v 6,.v 7,.v 8,.v 9,.v 10,.v 11,.v 12,.v 13,.v 14] 1 [] <|
(.lt none .not [.v 16] 1 <|
(.leaf .ret [.v 17] ())))
def Gbs:Tm Unit :=
(.call none 68 [.v 1,.c (.int .i64 1),.c (.int .i64 7)] 1 [] <|
(.lt none .not [.v 16] 1 <|
(.lt (some (.v 17,false)) .id [.v 0] 1 <|
(.lt (some (.v 17,false)) .id [.v 4] 1 <|
(.lt (some (.v 17,false)) .id [.v 5] 1 <|
(.call (some (.v 17,false)) 69 [.v 18,.v 19,.v 20] 1 [] <|
(.lt (some (.v 17,false)) .not [.v 21] 1 <|
(.lt none .pick [.v 17,.c (.bool true),.v 22] 1 <|
(.lt (some (.v 23,false)) .id [.v 2] 1 <|
(.lt (some (.v 23,false)) .id [.v 0] 1 <|
(.lt (some (.v 23,false)) (.bin .sub) [.v 25,.c (.int .i64 1)] 1 <|
(.call (some (.v 23,false)) 68 [.v 24,.c (.int .i64 0),.v 26] 1 [] <|
(.lt (some (.v 23,false)) .not [.v 27] 1 <|
(.lt none .pick [.v 23,.c (.bool true),.v 28] 1 <|
(.lt (some (.v 29,false)) .id [.v 3] 1 <|
(.lt (some (.v 29,false)) .id [.v 0] 1 <|
(.lt (some (.v 29,false)) (.bin .sub) [.v 31,.c (.int .i64 1)] 1 <|
(.call (some (.v 29,false)) 68 [.v 30,.c (.int .i64 0),.v 32] 1 [] <|
(.lt (some (.v 29,false)) .not [.v 33] 1 <|
(.lt none .pick [.v 29,.c (.bool true),.v 34] 1 <|
(.lt (some (.v 35,false)) .id [.v 2] 1 <|
(.lt (some (.v 35,false)) .id [.v 3] 1 <|
(.lt (some (.v 35,false)) (.bin .eql) [.v 36,.v 37] 1 <|
(.lt none .pick [.v 35,.c (.bool true),.v 38] 1 <|
(.lt (some (.v 39,false)) .id [.v 6] 1 <|
(.call (some (.v 39,false)) 68 [.v 40,.c (.int .i64 0),.c (.int .i64 9999)] 1 [] <|
(.lt (some (.v 39,false)) .not [.v 41] 1 <|
(.lt none .pick [.v 39,.c (.bool true),.v 42] 1 <|
(.lt (some (.v 43,false)) .id [.v 1] 1 <|
(.lt (some (.v 43,false)) (.bin .eql) [.v 44,.c (.int .i64 5)] 1 <|
(.lt (some (.v 43,false)) .id [.v 45] 1 <|
(.lt (some (.v 46,true)) .id [.v 6] 1 <|
(.lt (some (.v 46,true)) (.bin .neq) [.v 47,.c (.int .i64 0)] 1 <|
(.lt (some (.v 43,false)) .pick [.v 46,.v 48,.c (.bool false)] 1 <|
(.lt none .pick [.v 43,.c (.bool true),.v 49] 1 <|
(.ite (.v 50)
(.leaf .ret [.c (.bool false)] ())
(.lt none (.bin .eql) [.v 1,.c (.int .i64 7)] 1 <|
(.ite (.v 51)
(.lt none (.bin .neq) [.v 8,.c (.int .i64 3)] 1 <|
(.lt (some (.v 52,true)) .id [.v 0] 1 <|
(.call (some (.v 52,true)) 70 [.v 1,.v 2,.v 3,.v 4,.v 5,.v 6,.v 7,.v 8,.v 9,.v 10,.v 11,.v 12,.v 13,.v 14,.v 15] 10 [] <|
(.call (some (.v 52,true)) 73 [.v 53,.v 54,.v 55,.v 56,.v 57,.v 58,.v 59,.v 60,.v 61,.v 62,.v 63] 1 [] <|
(.lt none .pick [.v 52,.v 64,.c (.bool false)] 1 <|
(.leaf .ret [.v 65] ()))))))
(.lt none (.bin .eql) [.v 1,.c (.int .i64 1)] 1 <|
(.lt (some (.v 52,false)) .id [.v 1] 1 <|
(.lt (some (.v 52,false)) (.bin .eql) [.v 53,.c (.int .i64 3)] 1 <|
(.lt none .pick [.v 52,.c (.bool true),.v 54] 1 <|
(.lt (some (.v 55,false)) .id [.v 1] 1 <|
(.lt (some (.v 55,false)) (.bin .eql) [.v 56,.c (.int .i64 5)] 1 <|
(.lt none .pick [.v 55,.c (.bool true),.v 57] 1 <|
(.bind 0
(.lt none (.bin .neq) [.v 7,.c (.int .i64 0)] 1 <|
(.lt (some (.v 59,false)) .id [.v 8] 1 <|
(.lt (some (.v 59,false)) (.bin .neq) [.v 60,.c (.int .i64 0)] 1 <|
(.lt none .pick [.v 59,.c (.bool true),.v 61] 1 <|
(.call (some (.v 62,false)) 74 [.v 9,.v 10,.v 11,.v 12,.v 13] 1 [] <|
(.lt (some (.v 62,false)) .not [.v 63] 1 <|
(.lt none .pick [.v 62,.c (.bool true),.v 64] 1 <|
(.lt (some (.v 65,false)) .id [.v 0] 1 <|
(.call (some (.v 65,false)) 76 [.v 66,.v 14,.v 15] 1 [] <|
(.lt (some (.v 65,false)) .not [.v 67] 1 <|
(.lt none .pick [.v 65,.c (.bool true),.v 68] 1 <|
(.ite (.v 69)
(.leaf (.yield 0) [.v 69] ())
(.lt none .not [.v 58] 1 <|
(.lt (some (.v 70,true)) (.eqs [0,0,0,0,0]) [.v 9,.v 10,.v 11,.v 12,.v 13,.c (.int .i64 0),.c (.int .i64 0),.c (.int .i64 0),.c (.int .i64 0),.c (.int .i64 0)] 1 <|
(.lt (some (.v 70,true)) .not [.v 71] 1 <|
(.lt none .pick [.v 70,.v 72,.c (.bool false)] 1 <|
(.leaf (.yield 0) [.v 73] ()))))))))))))))))) <|
(.ite (.v 59)
(.leaf .ret [.c (.bool false)] ())
(.lt (some (.v 58,false)) .id [.v 1] 1 <|
(.lt (some (.v 58,false)) (.bin .eql) [.v 60,.c (.int .i64 2)] 1 <|
(.lt none .pick [.v 58,.c (.bool true),.v 61] 1 <|
(.lt (some (.v 62,false)) .id [.v 0] 1 <|
(.call (some (.v 62,false)) 80 [.v 63] 2 [] <|
(.call (some (.v 62,false)) 81 [.v 14,.v 15,.v 64,.v 65] 1 [] <|
(.lt none .pick [.v 62,.c (.bool true),.v 66] 1 <|
(.leaf .ret [.v 67] ())))))))))))))))))))))))))))))))))))))))))))))))))))))))
def Gbr:Tm Unit :=
(.lt none (.bin .leq) [.v 1,.v 0] 1 <|
(.lt (some (.v 3,true)) .id [.v 0] 1 <|
(.lt (some (.v 3,true)) .id [.v 2] 1 <|
(.lt (some (.v 3,true)) (.bin .leq) [.v 4,.v 5] 1 <|
(.lt none .pick [.v 3,.v 6,.c (.bool false)] 1 <|
(.leaf .ret [.v 7] ()))))))
def Gbq:Tm Unit :=
(.call none 63 [.v 0] 1 [] <|
(.lt (some (.v 3,true)) .id [.v 1] 1 <|
(.lt (some (.v 3,true)) .id [.v 0] 1 <|
(.lt (some (.v 3,true)) (.bin .sub) [.v 5,.c (.int .i64 1)] 1 <|
(.call (some (.v 3,true)) 68 [.v 4,.c (.int .i64 0),.v 6] 1 [] <|
(.lt none .pick [.v 3,.v 7,.c (.bool false)] 1 <|
(.lt (some (.v 8,true)) .id [.v 2] 1 <|
(.call (some (.v 8,true)) 68 [.v 9,.c (.int .i64 1),.c (.int .i64 6)] 1 [] <|
(.lt none .pick [.v 8,.v 10,.c (.bool false)] 1 <|
(.leaf .ret [.v 11] ()))))))))))
def Gbp:Tm Unit :=
(.call none 71 [.v 13,.v 14] 2 [] <|
(.leaf .ret [.v 5,.v 6,.v 7,.v 8,.v 9,.v 10,.v 11,.v 12,.v 15,.v 16] ()))
def Gbo:Tm Unit :=
(.call none 72 [.v 1] 1 [] <|
(.leaf .ret [.v 0,.v 2] ()))
def Cb6:Tm Unit :=
(.lt none .ne [.v 0] 0 <|
(.lt none .emp [.v 0] 1 <|
(.ite (.v 1)
(.leaf .ret [.c (.rows 1 [])] ())
(.lt none (.mk 1 0) [] 1 <|
(.lt none (.app 1 8 true) [.v 2,.v 0] 1 <|
(.leaf .ret [.v 3] ()))))))
def Gbn:Tm Unit :=
(.call none 68 [.v 1,.c (.int .i64 0),.c (.int .i64 9999)] 1 [] <|
(.lt none .not [.v 11] 1 <|
(.lt (some (.v 12,false)) .id [.v 2] 1 <|
(.lt (some (.v 12,false)) .id [.v 1] 1 <|
(.call (some (.v 12,false)) 68 [.v 13,.c (.int .i64 0),.v 14] 1 [] <|
(.lt (some (.v 12,false)) .not [.v 15] 1 <|
(.lt none .pick [.v 12,.c (.bool true),.v 16] 1 <|
(.lt (some (.v 17,false)) .id [.v 3] 1 <|
(.call (some (.v 17,false)) 68 [.v 18,.c (.int .i64 0),.c (.int .i64 3)] 1 [] <|
(.lt (some (.v 17,false)) .not [.v 19] 1 <|
(.lt none .pick [.v 17,.c (.bool true),.v 20] 1 <|
(.call (some (.v 21,false)) 74 [.v 4,.v 5,.v 6,.v 7,.v 8] 1 [] <|
(.lt (some (.v 21,false)) .not [.v 22] 1 <|
(.lt none .pick [.v 21,.c (.bool true),.v 23] 1 <|
(.lt (some (.v 24,false)) .id [.v 0] 1 <|
(.call (some (.v 24,false)) 76 [.v 25,.v 9,.v 10] 1 [] <|
(.lt (some (.v 24,false)) .not [.v 26] 1 <|
(.lt none .pick [.v 24,.c (.bool true),.v 27] 1 <|
(.ite (.v 28)
(.leaf .ret [.c (.bool false)] ())
(.lt none (.bin .neq) [.v 3,.c (.int .i64 0)] 1 <|
(.lt (some (.v 29,false)) .id [.v 2] 1 <|
(.lt (some (.v 29,false)) (.bin .eql) [.v 30,.c (.int .i64 0)] 1 <|
(.lt (some (.v 29,false)) .id [.v 31] 1 <|
(.lt (some (.v 32,true)) (.eqs [0,0,0,0,0]) [.v 4,.v 5,.v 6,.v 7,.v 8,.c (.int .i64 0),.c (.int .i64 0),.c (.int .i64 0),.c (.int .i64 0),.c (.int .i64 0)] 1 <|
(.lt (some (.v 29,false)) .pick [.v 32,.v 33,.c (.bool false)] 1 <|
(.lt (some (.v 29,false)) .id [.v 34] 1 <|
(.lt (some (.v 35,true)) .id [.v 0] 1 <|
(.call (some (.v 35,true)) 80 [.v 36] 2 [] <|
(.call (some (.v 35,true)) 81 [.v 9,.v 10,.v 37,.v 38] 1 [] <|
(.lt (some (.v 29,false)) .pick [.v 35,.v 39,.c (.bool false)] 1 <|
(.lt none .pick [.v 29,.c (.bool true),.v 40] 1 <|
(.leaf .ret [.v 41] ()))))))))))))))))))))))))))))))))
def Gbm:Tm Unit :=
(.lt none (.bin .eql) [.v 0,.c (.int .i64 0)] 1 <|
(.ite (.v 5)
(.lt none (.eqs [0,0,0,0,0]) [.v 0,.v 1,.v 2,.v 3,.v 4,.c (.int .i64 0),.c (.int .i64 0),.c (.int .i64 0),.c (.int .i64 0),.c (.int .i64 0)] 1 <|
(.leaf .ret [.v 6] ()))
(.lt none (.bin .eql) [.v 0,.c (.int .i64 1)] 1 <|
(.ite (.v 6)
(.call none 68 [.v 1,.c (.int .i64 1),.c (.int .i64 999)] 1 [] <|
(.lt (some (.v 7,true)) .id [.v 2] 1 <|
(.call (some (.v 7,true)) 75 [.v 8] 1 [] <|
(.lt none .pick [.v 7,.v 9,.c (.bool false)] 1 <|
(.lt (some (.v 10,true)) .id [.v 3] 1 <|
(.call (some (.v 10,true)) 75 [.v 11] 1 [] <|
(.lt none .pick [.v 10,.v 12,.c (.bool false)] 1 <|
(.lt (some (.v 13,true)) .id [.v 2] 1 <|
(.lt (some (.v 13,true)) .id [.v 3] 1 <|
(.lt (some (.v 13,true)) (.bin .neq) [.v 14,.v 15] 1 <|
(.lt none .pick [.v 13,.v 16,.c (.bool false)] 1 <|
(.lt (some (.v 17,true)) .id [.v 4] 1 <|
(.call (some (.v 17,true)) 68 [.v 18,.c (.int .i64 1),.c (.int .i64 1000)] 1 [] <|
(.lt none .pick [.v 17,.v 19,.c (.bool false)] 1 <|
(.leaf .ret [.v 20] ())))))))))))))))
(.lt none (.bin .eql) [.v 0,.c (.int .i64 2)] 1 <|
(.lt (some (.v 7,true)) .id [.v 1] 1 <|
(.call (some (.v 7,true)) 68 [.v 8,.c (.int .i64 1),.c (.int .i64 999)] 1 [] <|
(.lt none .pick [.v 7,.v 9,.c (.bool false)] 1 <|
(.lt (some (.v 10,true)) .id [.v 2] 1 <|
(.call (some (.v 10,true)) 75 [.v 11] 1 [] <|
(.lt none .pick [.v 10,.v 12,.c (.bool false)] 1 <|
(.lt (some (.v 13,true)) .id [.v 3] 1 <|
(.lt (some (.v 13,true)) (.bin .eql) [.v 14,.c (.int .i64 0)] 1 <|
(.lt none .pick [.v 13,.v 15,.c (.bool false)] 1 <|
(.lt (some (.v 16,true)) .id [.v 4] 1 <|
(.lt (some (.v 16,true)) (.bin .eql) [.v 17,.c (.int .i64 0)] 1 <|
(.lt none .pick [.v 16,.v 18,.c (.bool false)] 1 <|
(.leaf .ret [.v 19] ()))))))))))))))))))
def Gbl:Tm Unit :=
(.call none 68 [.v 0,.c (.int .i64 0),.c (.int .i64 3)] 1 [] <|
(.leaf .ret [.v 1] ()))
def Gbk:Tm Unit :=
(.call none 63 [.v 0] 1 [] <|
(.lt (some (.v 3,true)) .id [.v 1] 1 <|
(.call (some (.v 3,true)) 68 [.v 4,.c (.int .i64 0),.c (.int .i64 999)] 1 [] <|
(.lt none .pick [.v 3,.v 5,.c (.bool false)] 1 <|
(.lt (some (.v 6,true)) .len [.v 2] 1 <|
(.lt (some (.v 6,true)) .id [.v 0] 1 <|
(.lt (some (.v 6,true)) (.bin .eql) [.v 7,.v 8] 1 <|
(.lt none .pick [.v 6,.v 9,.c (.bool false)] 1 <|
(.call (some (.v 10,true)) 77 [.v 2] 1 [] <|
(.lt (some (.v 10,true)) .not [.v 11] 1 <|
(.lt none .pick [.v 10,.v 12,.c (.bool false)] 1 <|
(.leaf .ret [.v 13] ()))))))))))))
def Gbj:Tm Unit :=
(.call none 78 [.v 0] 1 [] <|
(.lt none (.bin .geq) [.v 1,.c (.int .i64 0)] 1 <|
(.leaf .ret [.v 2] ())))
def Gbi:Tm Unit :=
(.lt none .len [.v 0] 1 <|
(.bind 1
(.loop [.c (.int .i64 0)]
(.lt none (.bin .lss) [.v 2,.v 1] 1 <|
(.ite (.v 3)
(.lt none .inb [.v 0,.v 2] 0 <|
(.lt none (.row 1 0 [true]) [.v 0,.v 2] 1 <|
(.call none 79 [.v 4] 1 [] <|
(.ite (.v 5)
(.leaf .ret [.v 2] ())
(.lt none (.bin .add) [.v 2,.c (.int .i64 1)] 1 <|
(.leaf .cont [.v 6] ()))))))
(.leaf (.yield 1) [] ())))) <|
(.leaf .ret [.c (.int .i64 (-1))] ())))
def Gbh:Tm Unit :=
(.call none 68 [.v 0,.c (.int .i64 0),.c (.int .i64 6)] 1 [] <|
(.lt none .not [.v 1] 1 <|
(.leaf .ret [.v 2] ())))
def Gbg:Tm Unit :=
(.lt none (.make 8 [(.int .i64 0)]) [.v 0] 1 <|
(.leaf .ret [.c (.int .i64 0),.v 1] ()))
def Gbf:Tm Unit :=
(.lt none (.bin .eql) [.v 0,.v 2] 1 <|
(.call (some (.v 4,true)) 82 [.v 1,.v 3] 1 [] <|
(.lt none .pick [.v 4,.v 5,.c (.bool false)] 1 <|
(.leaf .ret [.v 6] ()))))
def Gbe:Tm Unit :=
(.lt none .len [.v 0] 1 <|
(.lt none .len [.v 1] 1 <|
(.lt none (.bin .neq) [.v 2,.v 3] 1 <|
(.ite (.v 4)
(.leaf .ret [.c (.bool false)] ())
(.lt none .len [.v 0] 1 <|
(.bind 1
(.loop [.c (.int .i64 0)]
(.lt none (.bin .lss) [.v 6,.v 5] 1 <|
(.ite (.v 7)
(.lt none .inb [.v 0,.v 6] 0 <|
(.lt none (.row 1 0 [true]) [.v 0,.v 6] 1 <|
(.lt none .inb [.v 1,.v 6] 0 <|
(.lt none (.row 1 0 [true]) [.v 1,.v 6] 1 <|
(.lt none (.bin .neq) [.v 8,.v 9] 1 <|
(.ite (.v 10)
(.leaf .ret [.c (.bool false)] ())
(.lt none (.bin .add) [.v 6,.c (.int .i64 1)] 1 <|
(.leaf .cont [.v 11] ()))))))))
(.leaf (.yield 1) [] ())))) <|
(.leaf .ret [.c (.bool true)] ())))))))
def Gbd:Tm Unit :=
(.call none 84 [.v 1,.v 2] 1 [] <|
(.lt none .not [.v 4] 1 <|
(.lt (some (.v 5,false)) .id [.v 0] 1 <|
(.lt (some (.v 5,false)) .id [.v 1] 1 <|
(.lt (some (.v 5,false)) (.bin .sub) [.v 7,.c (.int .i64 1)] 1 <|
(.call (some (.v 5,false)) 68 [.v 6,.c (.int .i64 0),.v 8] 1 [] <|
(.lt (some (.v 5,false)) .not [.v 9] 1 <|
(.lt none .pick [.v 5,.c (.bool true),.v 10] 1 <|
(.ite (.v 11)
(.leaf .ret [.c (.bool false)] ())
(.lt none .len [.v 3] 1 <|
(.bind 1
(.loop [.c (.int .i64 0)]
(.lt none (.bin .lss) [.v 13,.v 12] 1 <|
(.ite (.v 14)
(.lt none .inb [.v 3,.v 13] 0 <|
(.lt none (.row 16 0 [true,true,true,true,true,true,true,true,true,true,false,true,false,true,false,false]) [.v 3,.v 13] 16 <|
(.call none 91 [.v 1,.v 0,.v 15,.v 16,.v 17,.v 18,.v 19,.v 20,.v 21,.v 22,.v 23,.v 24,.v 25,.v 26,.v 27,.v 28,.v 29,.v 30] 1 [] <|
(.lt none .not [.v 31] 1 <|
(.lt (some (.v 32,false)) .id [.v 13] 1 <|
(.lt (some (.v 32,false)) (.bin .gtr) [.v 33,.c (.int .i64 0)] 1 <|
(.lt (some (.v 32,false)) .id [.v 34] 1 <|
(.lt (some (.v 35,true)) .id [.v 15] 1 <|
(.lt (some (.v 35,true)) .id [.v 16] 1 <|
(.lt (some (.v 35,true)) (.mk 1 2) [.v 36,.v 37] 1 <|
(.lt (some (.v 35,true)) .id [.v 13] 1 <|
(.lt (some (.v 35,true)) (.bin .sub) [.v 39,.c (.int .i64 1)] 1 <|
(.lt (some (.v 35,true)) .inb [.v 3,.v 40] 0 <|
(.lt (some (.v 35,true)) (.row 16 0 [true]) [.v 3,.v 40] 1 <|
(.lt (some (.v 35,true)) .id [.v 13] 1 <|
(.lt (some (.v 35,true)) (.bin .sub) [.v 42,.c (.int .i64 1)] 1 <|
(.lt (some (.v 35,true)) .inb [.v 3,.v 43] 0 <|
(.lt (some (.v 35,true)) (.row 16 1 [true]) [.v 3,.v 43] 1 <|
(.lt (some (.v 35,true)) (.mk 1 2) [.v 41,.v 44] 1 <|
(.call (some (.v 35,true)) 102 [.v 38,.v 45] 1 [] <|
(.lt (some (.v 35,true)) (.bin .leq) [.v 46,.c (.int .i64 0)] 1 <|
(.lt (some (.v 32,false)) .pick [.v 35,.v 47,.c (.bool false)] 1 <|
(.lt none .pick [.v 32,.c (.bool true),.v 48] 1 <|
(.ite (.v 49)
(.leaf .ret [.c (.bool false)] ())
(.lt none (.bin .add) [.v 13,.c (.int .i64 1)] 1 <|
(.leaf .cont [.v 50] ()))))))))))))))))))))))))))
(.leaf (.yield 1) [] ())))) <|
(.leaf .ret [.c (.bool true)] ()))))))))))))
def Gbc:Tm Unit :=
(.call none 63 [.v 0] 1 [] <|
(.lt (some (.v 2,true)) .len [.v 1] 1 <|
(.lt (some (.v 2,true)) .id [.v 0] 1 <|
(.lt (some (.v 2,true)) (.bin .eql) [.v 3,.v 4] 1 <|
(.lt none .pick [.v 2,.v 5,.c (.bool false)] 1 <|
(.call (some (.v 6,true)) 85 [.v 1,.v 0,.v 1] 1 [] <|
(.lt (some (.v 6,true)) .not [.v 7] 1 <|
(.lt none .pick [.v 6,.v 8,.c (.bool false)] 1 <|
(.leaf .ret [.v 9] ())))))))))
def Gbb:Tm Unit :=
(.call none 86 [.v 0,.v 1,.v 2] 1 [] <|
(.lt none (.bin .geq) [.v 3,.c (.int .i64 0)] 1 <|
(.leaf .ret [.v 4] ())))
def Gba:Tm Unit :=
(.lt none .len [.v 0] 1 <|
(.bind 1
(.loop [.c (.int .i64 0)]
(.lt none (.bin .lss) [.v 4,.v 3] 1 <|
(.ite (.v 5)
(.lt none .inb [.v 0,.v 4] 0 <|
(.lt none (.row 1 0 [false]) [.v 0,.v 4] 1 <|
(.call none 87 [.v 6,.v 1,.v 2] 1 [] <|
(.ite (.v 7)
(.leaf .ret [.v 4] ())
(.lt none (.bin .add) [.v 4,.c (.int .i64 1)] 1 <|
(.leaf .cont [.v 8] ()))))))
(.leaf (.yield 1) [] ())))) <|
(.leaf .ret [.c (.int .i64 (-1))] ())))
def Fb9:Tm Unit :=
(.lt none .len [.v 0] 1 <|
(.lt none (.bin .gtr) [.v 3,.c (.int .i64 6)] 1 <|
(.call (some (.v 4,false)) 88 [.v 0,.v 1,.v 2] 1 [] <|
(.lt none .pick [.v 4,.c (.bool true),.v 5] 1 <|
(.leaf .ret [.v 6] ())))))
def Fb8:Tm Unit :=
(.call none 89 [.v 0,.v 1,.v 2] 1 [] <|
(.lt none (.bin .geq) [.v 3,.c (.int .i64 0)] 1 <|
(.leaf .ret [.v 4] ())))
def Fb7:Tm Unit :=
(.lt none .len [.v 0] 1 <|
(.bind 1
(.loop [.c (.int .i64 0)]
(.lt none (.bin .lss) [.v 4,.v 3] 1 <|
(.ite (.v 5)
(.lt none .inb [.v 0,.v 4] 0 <|
(.lt none (.row 10 0 [true,true,true,true,true,true,true,true,true,false]) [.v 0,.v 4] 10 <|
(.call none 90 [.v 6,.v 7,.v 8,.v 9,.v 10,.v 11,.v 12,.v 13,.v 14,.v 15,.v 1,.v 2] 1 [] <|
(.ite (.v 16)
(.leaf .ret [.v 4] ())
(.lt none (.bin .add) [.v 4,.c (.int .i64 1)] 1 <|
(.leaf .cont [.v 17] ()))))))
(.leaf (.yield 1) [] ())))) <|
(.leaf .ret [.c (.int .i64 (-1))] ())))
def Fb6:Tm Unit :=
(.call none 73 [.v 10,.v 0,.v 1,.v 2,.v 3,.v 4,.v 5,.v 6,.v 7,.v 8,.v 9] 1 [] <|
(.lt none .not [.v 12] 1 <|
(.leaf .ret [.v 13] ())))
def Fb5:Tm Unit :=
(.call none 69 [.v 0,.v 2,.v 3] 1 [] <|
(.lt none .not [.v 18] 1 <|
(.lt (some (.v 19,false)) .id [.v 4] 1 <|
(.call (some (.v 19,false)) 68 [.v 20,.c (.int .i64 0),.c (.int .i64 9999)] 1 [] <|
(.lt (some (.v 19,false)) .not [.v 21] 1 <|
(.lt none .pick [.v 19,.c (.bool true),.v 22] 1 <|
(.lt (some (.v 23,false)) .id [.v 0] 1 <|
(.call (some (.v 23,false)) 92 [.v 24,.v 16] 1 [] <|
(.lt (some (.v 23,false)) .not [.v 25] 1 <|
(.lt none .pick [.v 23,.c (.bool true),.v 26] 1 <|
(.lt (some (.v 27,false)) .id [.v 1] 1 <|
(.call (some (.v 27,false)) 97 [.v 16,.v 28] 1 [] <|
(.lt (some (.v 27,false)) .not [.v 29] 1 <|
(.lt none .pick [.v 27,.c (.bool true),.v 30] 1 <|
(.lt (some (.v 31,false)) .id [.v 0] 1 <|
(.call (some (.v 31,false)) 76 [.v 32,.v 11,.v 12] 1 [] <|
(.lt (some (.v 31,false)) .not [.v 33] 1 <|
(.lt none .pick [.v 31,.c (.bool true),.v 34] 1 <|
(.lt (some (.v 35,false)) .id [.v 0] 1 <|
(.call (some (.v 35,false)) 76 [.v 36,.v 13,.v 14] 1 [] <|
(.lt (some (.v 35,false)) .not [.v 37] 1 <|
(.lt none .pick [.v 35,.c (.bool true),.v 38] 1 <|
(.ite (.v 39)
(.leaf .ret [.c (.bool false)] ())
(.lt none (.bin .eql) [.v 5,.c (.int .i64 1)] 1 <|
(.ite (.v 40)
(.call none 74 [.v 6,.v 7,.v 8,.v 9,.v 10] 1 [] <|
(.lt (some (.v 41,true)) .len [.v 17] 1 <|
(.lt (some (.v 41,true)) (.bin .eql) [.v 42,.c (.int .i64 0)] 1 <|
(.lt none .pick [.v 41,.v 43,.c (.bool false)] 1 <|
(.leaf .ret [.v 44] ())))))
(.lt none (.bin .eql) [.v 5,.c (.int .i64 2)] 1 <|
(.ite (.v 41)
(.call none 74 [.v 6,.v 7,.v 8,.v 9,.v 10] 1 [] <|
(.lt (some (.v 42,true)) .len [.v 17] 1 <|
(.lt (some (.v 42,true)) (.bin .eql) [.v 43,.c (.int .i64 0)] 1 <|
(.lt none .pick [.v 42,.v 44,.c (.bool false)] 1 <|
(.call (some (.v 45,true)) 81 [.v 11,.v 12,.v 13,.v 14] 1 [] <|
(.lt none .pick [.v 45,.v 46,.c (.bool false)] 1 <|
(.lt (some (.v 47,true)) .id [.v 15] 1 <|
(.lt (some (.v 47,true)) .not [.v 48] 1 <|
(.lt none .pick [.v 47,.v 49,.c (.bool false)] 1 <|
(.leaf .ret [.v 50] ()))))))))))
(.lt none (.bin .eql) [.v 5,.c (.int .i64 3)] 1 <|
(.ite (.v 42)
(.call none 80 [.v 0] 2 [] <|
(.lt none (.eqs [0,0,0,0,0]) [.v 6,.v 7,.v 8,.v 9,.v 10,.c (.int .i64 0),.c (.int .i64 0),.c (.int .i64 0),.c (.int .i64 0),.c (.int .i64 0)] 1 <|
(.call (some (.v 45,true)) 81 [.v 11,.v 12,.v 43,.v 44] 1 [] <|
(.lt none .pick [.v 45,.v 46,.c (.bool false)] 1 <|
(.call (some (.v 47,true)) 81 [.v 13,.v 14,.v 43,.v 44] 1 [] <|
(.lt none .pick [.v 47,.v 48,.c (.bool false)] 1 <|
(.lt (some (.v 49,true)) .id [.v 15] 1 <|
(.lt (some (.v 49,true)) .not [.v 50] 1 <|
(.lt none .pick [.v 49,.v 51,.c (.bool false)] 1 <|
(.lt (some (.v 52,true)) .len [.v 17] 1 <|
(.lt (some (.v 52,true)) .len [.v 16] 1 <|
(.lt (some (.v 52,true)) (.bin .eql) [.v 53,.v 54] 1 <|
(.lt none .pick [.v 52,.v 55,.c (.bool false)] 1 <|
(.call (some (.v 56,true)) 99 [.v 17,.v 0] 1 [] <|
(.lt (some (.v 56,true)) .not [.v 57] 1 <|
(.lt none .pick [.v 56,.v 58,.c (.bool false)] 1 <|
(.leaf .ret [.v 59] ())))))))))))))))))
(.leaf .ret [.c (.bool false)] ()))))))))))))))))))))))))))))))
def Fb4:Tm Unit :=
(.call none 93 [.v 1] 1 [] <|
(.call (some (.v 2,true)) 94 [.v 1,.v 0] 1 [] <|
(.lt (some (.v 2,true)) .not [.v 3] 1 <|
(.lt none .pick [.v 2,.v 4,.c (.bool false)] 1 <|
(.leaf .ret [.v 5] ())))))
def Fb3:Tm Unit :=
(.bind 1
(.loop [.c (.int .i64 1)]
(.lt none .len [.v 0] 1 <|
(.lt none (.bin .lss) [.v 1,.v 2] 1 <|
(.ite (.v 3)
(.lt none .inb [.v 0,.v 1] 0 <|
(.lt none (.row 1 0 [true]) [.v 0,.v 1] 1 <|
(.lt none (.bin .sub) [.v 1,.c (.int .i64 1)] 1 <|
(.lt none .inb [.v 0,.v 5] 0 <|
(.lt none (.row 1 0 [true]) [.v 0,.v 5] 1 <|
(.lt none (.bin .leq) [.v 4,.v 6] 1 <|
(.ite (.v 7)
(.leaf .ret [.c (.bool false)] ())
(.lt none (.bin .add) [.v 1,.c (.int .i64 1)] 1 <|
(.leaf .cont [.v 8] ())))))))))
(.leaf (.yield 1) [] ()))))) <|
(.leaf .ret [.c (.bool true)] ()))
def Fb2:Tm Unit :=
(.call none 95 [.v 0,.v 1] 1 [] <|
(.lt none (.bin .geq) [.v 2,.c (.int .i64 0)] 1 <|
(.leaf .ret [.v 3] ())))
def Fb1:Tm Unit :=
(.lt none .len [.v 0] 1 <|
(.bind 1
(.loop [.c (.int .i64 0)]
(.lt none (.bin .lss) [.v 3,.v 2] 1 <|
(.ite (.v 4)
(.lt none .inb [.v 0,.v 3] 0 <|
(.lt none (.row 1 0 [true]) [.v 0,.v 3] 1 <|
(.call none 96 [.v 5,.v 1] 1 [] <|
(.ite (.v 6)
(.leaf .ret [.v 3] ())
(.lt none (.bin .add) [.v 3,.c (.int .i64 1)] 1 <|
(.leaf .cont [.v 7] ()))))))
(.leaf (.yield 1) [] ())))) <|
(.leaf .ret [.c (.int .i64 (-1))] ())))
def Fb0:Tm Unit :=
(.lt none (.bin .sub) [.v 1,.c (.int .i64 1)] 1 <|
(.call none 68 [.v 0,.c (.int .i64 0),.v 2] 1 [] <|
(.lt none .not [.v 3] 1 <|
(.leaf .ret [.v 4] ()))))
def Fbz:Tm Unit :=
(.call none 98 [.v 0,.v 1] 1 [] <|
(.lt none (.bin .geq) [.v 2,.c (.int .i64 0)] 1 <|
(.leaf .ret [.v 3] ())))
def Fby:Tm Unit :=
(.lt none .len [.v 0] 1 <|
(.bind 1
(.loop [.c (.int .i64 0)]
(.lt none (.bin .lss) [.v 3,.v 2] 1 <|
(.ite (.v 4)
(.lt none .inb [.v 0,.v 3] 0 <|
(.lt none (.row 1 0 [true]) [.v 0,.v 3] 1 <|
(.lt none (.bin .eql) [.v 1,.v 5] 1 <|
(.ite (.v 6)
(.leaf .ret [.v 3] ())
(.lt none (.bin .add) [.v 3,.c (.int .i64 1)] 1 <|
(.leaf .cont [.v 7] ()))))))
(.leaf (.yield 1) [] ())))) <|
(.leaf .ret [.c (.int .i64 (-1))] ())))
def Fbx:Tm Unit :=
(.call none 100 [.v 0,.v 1] 1 [] <|
(.lt none (.bin .geq) [.v 2,.c (.int .i64 0)] 1 <|
(.leaf .ret [.v 3] ())))
def Xa2:Tm Unit :=
(.lt none .len [.v 0] 1 <|
(.bind 1
(.loop [.c (.int .i64 0)]
(.lt none (.bin .lss) [.v 3,.v 2] 1 <|
(.ite (.v 4)
(.lt none .inb [.v 0,.v 3] 0 <|
(.lt none (.row 10 0 [true,true,true,true,true,true,true,true,true,false]) [.v 0,.v 3] 10 <|
(.call none 101 [.v 5,.v 6,.v 7,.v 8,.v 9,.v 10,.v 11,.v 12,.v 13,.v 14,.v 1] 1 [] <|
(.ite (.v 15)
(.leaf .ret [.v 3] ())
(.lt none (.bin .add) [.v 3,.c (.int .i64 1)] 1 <|
(.leaf .cont [.v 16] ()))))))
(.leaf (.yield 1) [] ())))) <|
(.leaf .ret [.c (.int .i64 (-1))] ())))
def Xa1:Tm Unit :=
(.call none 73 [.v 10,.v 0,.v 1,.v 2,.v 3,.v 4,.v 5,.v 6,.v 7,.v 8,.v 9] 1 [] <|
(.lt none .not [.v 11] 1 <|
(.lt (some (.v 12,false)) .id [.v 2] 1 <|
(.lt (some (.v 12,false)) (.bin .eql) [.v 13,.c (.int .i64 3)] 1 <|
(.lt none .pick [.v 12,.c (.bool true),.v 14] 1 <|
(.leaf .ret [.v 15] ()))))))
def Xa0:Tm Unit :=
(.lt none .len [.v 0] 1 <|
(.bind 1
(.loop [.c (.int .i64 0)]
(.lt none (.bin .lss) [.v 3,.v 2] 1 <|
(.ite (.v 4)
(.lt none .inb [.v 0,.v 3] 0 <|
(.lt none (.row 1 0 [true]) [.v 0,.v 3] 1 <|
(.lt none .len [.v 1] 1 <|
(.lt none (.bin .geq) [.v 3,.v 6] 1 <|
(.ite (.v 7)
(.leaf .ret [.c (.int .i64 1)] ())
(.lt none .inb [.v 1,.v 3] 0 <|
(.lt none (.row 1 0 [true]) [.v 1,.v 3] 1 <|
(.call none 103 [.v 5,.v 8] 1 [] <|
(.lt none (.bin .neq) [.v 9,.c (.int .i64 0)] 1 <|
(.ite (.v 10)
(.leaf .ret [.v 9] ())
(.lt none (.bin .add) [.v 3,.c (.int .i64 1)] 1 <|
(.leaf .cont [.v 11] ()))))))))))))
(.leaf (.yield 1) [] ())))) <|
(.lt none .len [.v 0] 1 <|
(.lt none .len [.v 1] 1 <|
(.lt none (.bin .lss) [.v 3,.v 4] 1 <|
(.ite (.v 5)
(.leaf .ret [.c (.int .i64 (-1))] ())
(.leaf .ret [.c (.int .i64 0)] ())))))))
def Xaz:Tm Unit :=
(.call none 104 [.v 0] 1 [] <|
(.call none 104 [.v 1] 1 [] <|
(.ite (.v 2)
(.ite (.v 3)
(.leaf .ret [.c (.int .i64 0)] ())
(.leaf .ret [.c (.int .i64 (-1))] ()))
(.ite (.v 3)
(.leaf .ret [.c (.int .i64 1)] ())
(.lt none (.bin .lss) [.v 0,.v 1] 1 <|
(.ite (.v 4)
(.leaf .ret [.c (.int .i64 (-1))] ())
(.lt none (.bin .gtr) [.v 0,.v 1] 1 <|
(.ite (.v 5)
(.leaf .ret [.c (.int .i64 1)] ())
(.leaf .ret [.c (.int .i64 0)] ())))))))))
def Xay:Tm Unit :=
(.lt none (.bin .neq) [.v 0,.v 0] 1 <|
(.leaf .ret [.v 1] ()))
def Xax:Tm Unit :=
(.lt none (.sub 7 false) [.v 2,.c (.int .i64 0),.v 3] 1 <|
(.call none 106 [.v 6,.v 4,.v 5] 1 [] <|
(.leaf .ret [.v 7] ())))
def Xaw:Tm Unit :=
(.lt none .len [.v 0] 1 <|
(.bind 1
(.loop [.c (.int .i64 0)]
(.lt none (.bin .lss) [.v 4,.v 3] 1 <|
(.ite (.v 5)
(.lt none .inb [.v 0,.v 4] 0 <|
(.lt none (.row 7 0 [true,true,true,true,true,true,true]) [.v 0,.v 4] 7 <|
(.call none 107 [.v 6,.v 7,.v 8,.v 9,.v 10,.v 11,.v 12,.v 1,.v 2] 1 [] <|
(.ite (.v 13)
(.leaf .ret [.v 4] ())
(.lt none (.bin .add) [.v 4,.c (.int .i64 1)] 1 <|
(.leaf .cont [.v 14] ()))))))
(.leaf (.yield 1) [] ())))) <|
(.leaf .ret [.c (.int .i64 (-1))] ())))
def Xav:Tm Unit :=
(.lt none (.bin .eql) [.v 0,.v 7] 1 <|
(.lt (some (.v 9,true)) .id [.v 1] 1 <|
(.lt (some (.v 9,true)) .id [.v 8] 1 <|
(.lt (some (.v 9,true)) (.bin .eql) [.v 10,.v 11] 1 <|
(.lt none .pick [.v 9,.v 12,.c (.bool false)] 1 <|
(.leaf .ret [.v 13] ()))))))
def Xau:Tm Unit :=
(.call none 109 [.v 0,.v 1,.v 2,.v 3] 1 [] <|
(.lt none .len [.v 3] 1 <|
(.bind 1
(.loop [.c (.int .i64 0)]
(.lt none (.bin .lss) [.v 6,.v 5] 1 <|
(.ite (.v 7)
(.lt none .inb [.v 3,.v 6] 0 <|
(.lt none (.row 1 0 [true]) [.v 3,.v 6] 1 <|
(.lt none .len [.v 4] 1 <|
(.bind 3
(.loop [.c (.int .i64 0)]
(.lt none (.bin .lss) [.v 10,.v 9] 1 <|
(.ite (.v 11)
(.lt none .inb [.v 4,.v 10] 0 <|
(.lt none (.row 1 0 [false]) [.v 4,.v 10] 1 <|
(.lt none .inb [.v 0,.v 8] 0 <|
(.lt none (.row 4 1 [true,false]) [.v 0,.v 8] 2 <|
(.lt none .inb [.v 12,.c (.int .i64 0)] 0 <|
(.lt none (.row 1 0 [true]) [.v 12,.c (.int .i64 0)] 1 <|
(.lt none .inb [.v 12,.c (.int .i64 1)] 0 <|
(.lt none (.row 1 0 [true]) [.v 12,.c (.int .i64 1)] 1 <|
(.call none 116 [.v 13,.v 14,.v 15,.v 16] 10 [] <|
(.lt none (.bin .neq) [.v 19,.c (.int .i64 3)] 1 <|
(.ite (.v 27)
(.leaf .ret [.v 8,.v 12,.c (.bool true)] ())
(.lt none (.bin .add) [.v 10,.c (.int .i64 1)] 1 <|
(.leaf .cont [.v 28] ())))))))))))))
(.leaf (.yield 3) [] ())))) <|
(.lt none (.bin .add) [.v 6,.c (.int .i64 1)] 1 <|
(.leaf .cont [.v 10] ()))))))
(.leaf (.yield 1) [] ())))) <|
(.leaf .ret [.c (.int .i64 0),.c (.rows 1 []),.c (.bool false)] ()))))
def Xat:Tm Unit :=
(.lt none (.mk 1 0) [] 1 <|
(.lt none .len [.v 3] 1 <|
(.bind 1
(.loop [.v 4,.c (.int .i64 0)]
(.lt none (.bin .lss) [.v 7,.v 5] 1 <|
(.ite (.v 8)
(.lt none .inb [.v 3,.v 7] 0 <|
(.lt none (.row 1 0 [true]) [.v 3,.v 7] 1 <|
(.lt none .inb [.v 0,.v 9] 0 <|
(.lt none (.row 4 1 [true,false]) [.v 0,.v 9] 2 <|
(.call none 110 [.v 10,.v 11] 1 [] <|
(.lt none .len [.v 12] 1 <|
(.bind 3
(.loop [.v 6,.v 12,.c (.int .i64 0)]
(.lt none (.bin .lss) [.v 16,.v 13] 1 <|
(.ite (.v 17)
(.bind 0
(.lt none .inb [.v 15,.v 16] 0 <|
(.lt none (.row 1 0 [false]) [.v 15,.v 16] 1 <|
(.call none 113 [.v 3,.v 0,.v 1,.v 2,.v 18] 1 [] <|
(.call (some (.v 19,true)) 118 [.v 14,.v 18] 1 [] <|
(.lt (some (.v 19,true)) .not [.v 20] 1 <|
(.lt none .pick [.v 19,.v 21,.c (.bool false)] 1 <|
(.ite (.v 22)
(.lt none (.mk 1 1) [.v 18] 1 <|
(.lt none (.app 1 24 false) [.v 14,.v 23] 1 <|
(.leaf (.yield 0) [.v 24,.c .undef,.c .undef] ())))
(.leaf (.yield 0) [.v 14,.c .undef,.c .undef] ())))))))) <|
(.lt none (.bin .add) [.v 16,.c (.int .i64 1)] 1 <|
(.leaf .cont [.v 18,.v 15,.v 21] ())))
(.leaf (.yield 3) [.v 14] ())))) <|
(.lt none (.bin .add) [.v 7,.c (.int .i64 1)] 1 <|
(.leaf .cont [.v 14,.v 15] ())))))))))
(.leaf (.yield 1) [.v 6] ())))) <|
(.call none 122 [.v 6] 1 [] <|
(.leaf .ret [.v 7] ())))))
def Xas:Tm Unit :=
(.lt none (.mk 1 0) [] 1 <|
(.bind 1
(.loop [.v 2,.c (.int .i64 0)]
(.lt none (.bin .lss) [.v 4,.v 0] 1 <|
(.ite (.v 5)
(.bind 3
(.loop [.v 3,.c (.int .i64 1)]
(.lt none (.bin .leq) [.v 7,.c (.int .i64 6)] 1 <|
(.ite (.v 8)
(.bind 0
(.lt none .inb [.v 1,.v 4] 0 <|
(.lt none (.row 1 0 [false]) [.v 1,.v 4] 1 <|
(.lt none .len [.v 9] 1 <|
(.lt none (.bin .leq) [.v 7,.v 10] 1 <|
(.call none 111 [.v 0,.v 1,.v 11,.v 7,.v 4] 1 [] <|
(.ite (.v 12)
(.lt none (.mk 1 2) [.v 4,.v 7] 1 <|
(.lt none (.mk 1 1) [.v 13] 1 <|
(.lt none (.app 1 24 false) [.v 6,.v 14] 1 <|
(.leaf (.yield 0) [.v 15] ()))))
(.leaf (.yield 0) [.v 6] ()))))))) <|
(.lt none (.bin .add) [.v 7,.c (.int .i64 1)] 1 <|
(.leaf .cont [.v 9,.v 10] ())))
(.leaf (.yield 3) [.v 6,.v 7] ())))) <|
(.lt none (.bin .add) [.v 4,.c (.int .i64 1)] 1 <|
(.leaf .cont [.v 6,.v 8] ())))
(.leaf (.yield 1) [.v 3] ())))) <|
(.leaf .ret [.v 3] ())))
def Xar:Tm Unit :=
(.lt none .len [.v 1] 1 <|
(.bind 1
(.loop [.c (.int .i64 0),.v 2]
(.lt none (.bin .lss) [.v 6,.v 5] 1 <|
(.ite (.v 8)
(.lt none .inb [.v 1,.v 6] 0 <|
(.lt none (.row 1 0 [false]) [.v 1,.v 6] 1 <|
(.lt none .len [.v 9] 1 <|
(.bind 3
(.loop [.c (.int .i64 0),.v 7]
(.lt none (.bin .lss) [.v 11,.v 10] 1 <|
(.ite (.v 13)
(.lt none .inb [.v 9,.v 11] 0 <|
(.lt none (.row 10 0 [true,true,true,true,true,true,true,true,true,false]) [.v 9,.v 11] 10 <|
(.lt none (.bin .add) [.v 11,.c (.int .i64 1)] 1 <|
(.call none 112 [.v 6,.v 24,.v 14,.v 15,.v 16,.v 17,.v 18,.v 19,.v 20,.v 21,.v 22,.v 23,.v 12,.v 3,.v 4] 1 [] <|
(.lt none (.bin .add) [.v 11,.c (.int .i64 1)] 1 <|
(.leaf .cont [.v 26,.v 25] ()))))))
(.leaf (.yield 3) [.v 12] ())))) <|
(.lt none (.bin .add) [.v 6,.c (.int .i64 1)] 1 <|
(.leaf .cont [.v 12,.v 11] ()))))))
(.leaf (.yield 1) [.v 7] ())))) <|
(.leaf .ret [.v 6] ())))
def Xaq:Tm Unit :=
(.lt (some (.v 12,false)) .id [.v 4] 1 <|
(.lt (some (.v 12,false)) (.bin .eql) [.v 15,.c (.int .i64 3)] 1 <|
(.lt (some (.v 12,false)) .id [.v 16] 1 <|
(.lt (some (.v 17,true)) .id [.v 13] 1 <|
(.lt (some (.v 17,true)) .id [.v 14] 1 <|
(.lt (some (.v 17,true)) .inb [.v 11,.v 19] 0 <|
(.lt (some (.v 17,true)) (.row 1 0 [true]) [.v 11,.v 19] 1 <|
(.lt (some (.v 17,true)) (.bin .leq) [.v 18,.v 20] 1 <|
(.lt (some (.v 12,false)) .pick [.v 17,.v 21,.c (.bool false)] 1 <|
(.lt none .pick [.v 12,.c (.bool true),.v 22] 1 <|
(.leaf .ret [.v 23] ())))))))))))
def Xap:Tm Unit :=
(.call none 114 [.v 0,.v 1,.v 2,.v 3,.v 4] 1 [] <|
(.lt none (.bin .geq) [.v 5,.c (.int .i64 0)] 1 <|
(.leaf .ret [.v 6] ())))
def Xao:Tm Unit :=
(.lt none .len [.v 0] 1 <|
(.bind 1
(.loop [.c (.int .i64 0)]
(.lt none (.bin .lss) [.v 6,.v 5] 1 <|
(.ite (.v 7)
(.lt none .inb [.v 0,.v 6] 0 <|
(.lt none (.row 1 0 [true]) [.v 0,.v 6] 1 <|
(.call none 115 [.v 8,.v 1,.v 2,.v 3,.v 4] 1 [] <|
(.ite (.v 9)
(.leaf .ret [.v 6] ())
(.lt none (.bin .add) [.v 6,.c (.int .i64 1)] 1 <|
(.leaf .cont [.v 10] ()))))))
(.leaf (.yield 1) [] ())))) <|
(.leaf .ret [.c (.int .i64 (-1))] ())))
def Xan:Tm Unit :=
(.lt none .inb [.v 1,.v 0] 0 <|
(.lt none (.row 4 1 [true,false]) [.v 1,.v 0] 2 <|
(.lt none .inb [.v 4,.c (.int .i64 0)] 0 <|
(.lt none (.row 1 0 [true]) [.v 4,.c (.int .i64 0)] 1 <|
(.lt none .inb [.v 4,.c (.int .i64 1)] 0 <|
(.lt none (.row 1 0 [true]) [.v 4,.c (.int .i64 1)] 1 <|
(.call none 116 [.v 5,.v 6,.v 7,.v 8] 10 [] <|
(.lt none (.bin .neq) [.v 11,.c (.int .i64 3)] 1 <|
(.leaf .ret [.v 19] ())))))))))
def Xam:Tm Unit :=
(.lt none .inb [.v 1,.v 2] 0 <|
(.lt none (.row 1 0 [false]) [.v 1,.v 2] 1 <|
(.lt none .len [.v 4] 1 <|
(.lt none (.bin .leq) [.v 3,.v 5] 1 <|
(.ite (.v 6)
(.lt none .inb [.v 1,.v 2] 0 <|
(.lt none (.row 1 0 [false]) [.v 1,.v 2] 1 <|
(.lt none (.bin .sub) [.v 3,.c (.int .i64 1)] 1 <|
(.lt none .inb [.v 7,.v 8] 0 <|
(.lt none (.row 10 0 [true,true,true,true,true,true,true,true,true,false]) [.v 7,.v 8] 10 <|
(.call none 117 [.v 9,.v 10,.v 11,.v 12,.v 13,.v 14,.v 15,.v 16,.v 17,.v 18] 10 [] <|
(.leaf .ret [.v 19,.v 20,.v 21,.v 22,.v 23,.v 24,.v 25,.v 26,.v 27,.v 28] ())))))))
(.call none 80 [.v 0] 2 [] <|
(.leaf .ret [.c (.int .i64 0),.c (.int .i64 0),.c (.int .i64 0),.c (.int .i64 0),.c (.int .i64 0),.c (.int .i64 0),.c (.int .i64 0),.c (.int .i64 0),.v 7,.v 8] ())))))))
def Xal:Tm Unit :=
(.call none 71 [.v 8,.v 9] 2 [] <|
(.leaf .ret [.v 0,.v 1,.v 2,.v 3,.v 4,.v 5,.v 6,.v 7,.v 10,.v 11] ()))
def Xak:Tm Unit :=
(.call none 119 [.v 0,.v 1] 1 [] <|
(.leaf .ret [.v 2] ()))
def Xaj:Tm Unit :=
(.call none 120 [.v 0,.v 1] 1 [] <|
(.lt none (.bin .geq) [.v 2,.c (.int .i64 0)] 1 <|
(.leaf .ret [.v 3] ())))
def Xai:Tm Unit :=
(.lt none .len [.v 0] 1 <|
(.bind 1
(.loop [.c (.int .i64 0)]
(.lt none (.bin .lss) [.v 3,.v 2] 1 <|
(.ite (.v 4)
(.lt none .inb [.v 0,.v 3] 0 <|
(.lt none (.row 1 0 [false]) [.v 0,.v 3] 1 <|
(.call none 121 [.v 5,.v 1] 1 [] <|
(.ite (.v 6)
(.leaf .ret [.v 3] ())
(.lt none (.bin .add) [.v 3,.c (.int .i64 1)] 1 <|
(.leaf .cont [.v 7] ()))))))
(.leaf (.yield 1) [] ())))) <|
(.leaf .ret [.c (.int .i64 (-1))] ())))
def Xah:Tm Unit :=
(.call none 82 [.v 1,.v 0] 1 [] <|
(.leaf .ret [.v 2] ()))
def Mbw:Tm Unit:=.stuck
def Xag:Tm Unit :=
(.call none 124 [.v 0,.v 3] 1 [] <|
(.lt none .not [.v 6] 1 <|
(.ite (.v 7)
(.leaf .ret [.c (.bool false)] ())
(.call none 135 [.v 1,.v 4] 1 [] <|
(.lt none .not [.v 8] 1 <|
(.ite (.v 9)
(.leaf .ret [.c (.bool false)] ())
(.call none 137 [.v 2,.v 5] 1 [] <|
(.lt none .not [.v 10] 1 <|
(.ite (.v 11)
(.leaf .ret [.c (.bool false)] ())
(.leaf .ret [.c (.bool true)] ()))))))))))
def Xaf:Tm Unit :=
(.lt none .len [.v 0] 1 <|
(.lt none .len [.v 1] 1 <|
(.lt none (.bin .neq) [.v 2,.v 3] 1 <|
(.ite (.v 4)
(.leaf .ret [.c (.bool false)] ())
(.bind 1
(.loop [.c (.int .i64 0)]
(.lt none .len [.v 0] 1 <|
(.lt none (.bin .lss) [.v 5,.v 6] 1 <|
(.ite (.v 7)
(.lt none .inb [.v 0,.v 5] 0 <|
(.lt none (.row 4 0 [true,true,false,false]) [.v 0,.v 5] 4 <|
(.lt none .inb [.v 1,.v 5] 0 <|
(.lt none (.row 4 0 [true,true,false,false]) [.v 1,.v 5] 4 <|
(.call none 125 [.v 8,.v 9,.v 10,.v 11,.v 12,.v 13,.v 14,.v 15] 1 [] <|
(.lt none .not [.v 16] 1 <|
(.ite (.v 17)
(.leaf .ret [.c (.bool false)] ())
(.lt none (.bin .add) [.v 5,.c (.int .i64 1)] 1 <|
(.leaf .cont [.v 18] ())))))))))
(.leaf (.yield 1) [] ()))))) <|
(.leaf .ret [.c (.bool true)] ()))))))
def Xae:Tm Unit :=
(.lt none (.bin .neq) [.v 0,.v 4] 1 <|
(.ite (.v 8)
(.leaf .ret [.c (.bool false)] ())
(.call none 126 [.v 1,.v 2,.v 5,.v 6] 1 [] <|
(.lt none .not [.v 9] 1 <|
(.ite (.v 10)
(.leaf .ret [.c (.bool false)] ())
(.call none 133 [.v 3,.v 7] 1 [] <|
(.lt none .not [.v 11] 1 <|
(.ite (.v 12)
(.leaf .ret [.c (.bool false)] ())
(.leaf .ret [.c (.bool true)] ())))))))))
def Xad:Tm Unit :=
(.lt none (.bin .neq) [.v 0,.v 2] 1 <|
(.ite (.v 4)
(.leaf .ret [.c (.bool false)] ())
(.call none 127 [.v 1,.v 3] 1 [] <|
(.lt none .not [.v 5] 1 <|
(.ite (.v 6)
(.leaf .ret [.c (.bool false)] ())
(.leaf .ret [.c (.bool true)] ()))))))
def Xac:Tm Unit :=
(.lt none .len [.v 0] 1 <|
(.lt none .len [.v 1] 1 <|
(.lt none (.bin .neq) [.v 2,.v 3] 1 <|
(.ite (.v 4)
(.leaf .ret [.c (.bool false)] ())
(.bind 1
(.loop [.c (.int .i64 0)]
(.lt none .len [.v 0] 1 <|
(.lt none (.bin .lss) [.v 5,.v 6] 1 <|
(.ite (.v 7)
(.lt none .inb [.v 0,.v 5] 0 <|
(.lt none (.row 1 0 [false]) [.v 0,.v 5] 1 <|
(.lt none .inb [.v 1,.v 5] 0 <|
(.lt none (.row 1 0 [false]) [.v 1,.v 5] 1 <|
(.call none 128 [.v 8,.v 9] 1 [] <|
(.lt none .not [.v 10] 1 <|
(.ite (.v 11)
(.leaf .ret [.c (.bool false)] ())
(.lt none (.bin .add) [.v 5,.c (.int .i64 1)] 1 <|
(.leaf .cont [.v 12] ())))))))))
(.leaf (.yield 1) [] ()))))) <|
(.leaf .ret [.c (.bool true)] ()))))))
def Xab:Tm Unit :=
(.lt none .len [.v 0] 1 <|
(.lt none .len [.v 1] 1 <|
(.lt none (.bin .neq) [.v 2,.v 3] 1 <|
(.ite (.v 4)
(.leaf .ret [.c (.bool false)] ())
(.bind 1
(.loop [.c (.int .i64 0)]
(.lt none .len [.v 0] 1 <|
(.lt none (.bin .lss) [.v 5,.v 6] 1 <|
(.ite (.v 7)
(.lt none .inb [.v 0,.v 5] 0 <|
(.lt none (.row 10 0 [true,true,true,true,true,true,true,true,true,false]) [.v 0,.v 5] 10 <|
(.lt none .inb [.v 1,.v 5] 0 <|
(.lt none (.row 10 0 [true,true,true,true,true,true,true,true,true,false]) [.v 1,.v 5] 10 <|
(.call none 129 [.v 8,.v 9,.v 10,.v 11,.v 12,.v 13,.v 14,.v 15,.v 16,.v 17,.v 18,.v 19,.v 20,.v 21,.v 22,.v 23,.v 24,.v 25,.v 26,.v 27] 1 [] <|
(.lt none .not [.v 28] 1 <|
(.ite (.v 29)
(.leaf .ret [.c (.bool false)] ())
(.lt none (.bin .add) [.v 5,.c (.int .i64 1)] 1 <|
(.leaf .cont [.v 30] ())))))))))
(.leaf (.yield 1) [] ()))))) <|
(.leaf .ret [.c (.bool true)] ()))))))
def Xaa:Tm Unit :=
(.lt none (.bin .neq) [.v 0,.v 10] 1 <|
(.ite (.v 20)
(.leaf .ret [.c (.bool false)] ())
(.lt none (.bin .neq) [.v 1,.v 11] 1 <|
(.ite (.v 21)
(.leaf .ret [.c (.bool false)] ())
(.lt none (.bin .neq) [.v 2,.v 12] 1 <|
(.ite (.v 22)
(.leaf .ret [.c (.bool false)] ())
(.call none 130 [.v 3,.v 4,.v 5,.v 6,.v 7,.v 13,.v 14,.v 15,.v 16,.v 17] 1 [] <|
(.lt none .not [.v 23] 1 <|
(.ite (.v 24)
(.leaf .ret [.c (.bool false)] ())
(.call none 131 [.v 8,.v 9,.v 18,.v 19] 1 [] <|
(.lt none .not [.v 25] 1 <|
(.ite (.v 26)
(.leaf .ret [.c (.bool false)] ())
(.leaf .ret [.c (.bool true)] ())))))))))))))
def Wa9:Tm Unit :=
(.lt none (.bin .neq) [.v 0,.v 5] 1 <|
(.ite (.v 10)
(.leaf .ret [.c (.bool false)] ())
(.lt none (.bin .neq) [.v 1,.v 6] 1 <|
(.ite (.v 11)
(.leaf .ret [.c (.bool false)] ())
(.lt none (.bin .neq) [.v 2,.v 7] 1 <|
(.ite (.v 12)
(.leaf .ret [.c (.bool false)] ())
(.lt none (.bin .neq) [.v 3,.v 8] 1 <|
(.ite (.v 13)
(.leaf .ret [.c (.bool false)] ())
(.lt none (.bin .neq) [.v 4,.v 9] 1 <|
(.ite (.v 14)
(.leaf .ret [.c (.bool false)] ())
(.leaf .ret [.c (.bool true)] ())))))))))))
def Wa8:Tm Unit :=
(.lt none (.bin .neq) [.v 0,.v 2] 1 <|
(.ite (.v 4)
(.leaf .ret [.c (.bool false)] ())
(.call none 132 [.v 1,.v 3] 1 [] <|
(.lt none .not [.v 5] 1 <|
(.ite (.v 6)
(.leaf .ret [.c (.bool false)] ())
(.leaf .ret [.c (.bool true)] ()))))))
def Wa7:Tm Unit :=
(.lt none .len [.v 0] 1 <|
(.lt none .len [.v 1] 1 <|
(.lt none (.bin .neq) [.v 2,.v 3] 1 <|
(.ite (.v 4)
(.leaf .ret [.c (.bool false)] ())
(.bind 1
(.loop [.c (.int .i64 0)]
(.lt none .len [.v 0] 1 <|
(.lt none (.bin .lss) [.v 5,.v 6] 1 <|
(.ite (.v 7)
(.lt none .inb [.v 0,.v 5] 0 <|
(.lt none (.row 1 0 [true]) [.v 0,.v 5] 1 <|
(.lt none .inb [.v 1,.v 5] 0 <|
(.lt none (.row 1 0 [true]) [.v 1,.v 5] 1 <|
(.lt none (.bin .neq) [.v 8,.v 9] 1 <|
(.ite (.v 10)
(.leaf .ret [.c (.bool false)] ())
(.lt none (.bin .add) [.v 5,.c (.int .i64 1)] 1 <|
(.leaf .cont [.v 11] ()))))))))
(.leaf (.yield 1) [] ()))))) <|
(.leaf .ret [.c (.bool true)] ()))))))
def Wa6:Tm Unit :=
(.lt none .len [.v 0] 1 <|
(.lt none .len [.v 1] 1 <|
(.lt none (.bin .neq) [.v 2,.v 3] 1 <|
(.ite (.v 4)
(.leaf .ret [.c (.bool false)] ())
(.bind 1
(.loop [.c (.int .i64 0)]
(.lt none .len [.v 0] 1 <|
(.lt none (.bin .lss) [.v 5,.v 6] 1 <|
(.ite (.v 7)
(.lt none .inb [.v 0,.v 5] 0 <|
(.lt none (.row 16 0 [true,true,true,true,true,true,true,true,true,true,false,true,false,true,false,false]) [.v 0,.v 5] 16 <|
(.lt none .inb [.v 1,.v 5] 0 <|
(.lt none (.row 16 0 [true,true,true,true,true,true,true,true,true,true,false,true,false,true,false,false]) [.v 1,.v 5] 16 <|
(.call none 134 [.v 8,.v 9,.v 10,.v 11,.v 12,.v 13,.v 14,.v 15,.v 16,.v 17,.v 18,.v 19,.v 20,.v 21,.v 22,.v 23,.v 24,.v 25,.v 26,.v 27,.v 28,.v 29,.v 30,.v 31,.v 32,.v 33,.v 34,.v 35,.v 36,.v 37,.v 38,.v 39] 1 [] <|
(.lt none .not [.v 40] 1 <|
(.ite (.v 41)
(.leaf .ret [.c (.bool false)] ())
(.lt none (.bin .add) [.v 5,.c (.int .i64 1)] 1 <|
(.leaf .cont [.v 42] ())))))))))
(.leaf (.yield 1) [] ()))))) <|
(.leaf .ret [.c (.bool true)] ()))))))
def Wa5:Tm Unit :=
(.lt none (.bin .neq) [.v 0,.v 16] 1 <|
(.ite (.v 32)
(.leaf .ret [.c (.bool false)] ())
(.lt none (.bin .neq) [.v 1,.v 17] 1 <|
(.ite (.v 33)
(.leaf .ret [.c (.bool false)] ())
(.lt none (.bin .neq) [.v 2,.v 18] 1 <|
(.ite (.v 34)
(.leaf .ret [.c (.bool false)] ())
(.lt none (.bin .neq) [.v 3,.v 19] 1 <|
(.ite (.v 35)
(.leaf .ret [.c (.bool false)] ())
(.call none 130 [.v 4,.v 5,.v 6,.v 7,.v 8,.v 20,.v 21,.v 22,.v 23,.v 24] 1 [] <|
(.lt none .not [.v 36] 1 <|
(.ite (.v 37)
(.leaf .ret [.c (.bool false)] ())
(.call none 131 [.v 9,.v 10,.v 25,.v 26] 1 [] <|
(.lt none .not [.v 38] 1 <|
(.ite (.v 39)
(.leaf .ret [.c (.bool false)] ())
(.call none 131 [.v 11,.v 12,.v 27,.v 28] 1 [] <|
(.lt none .not [.v 40] 1 <|
(.ite (.v 41)
(.leaf .ret [.c (.bool false)] ())
(.lt none (.eqb true) [.v 13,.v 29] 1 <|
(.ite (.v 42)
(.leaf .ret [.c (.bool false)] ())
(.call none 132 [.v 14,.v 30] 1 [] <|
(.lt none .not [.v 43] 1 <|
(.ite (.v 44)
(.leaf .ret [.c (.bool false)] ())
(.call none 128 [.v 15,.v 31] 1 [] <|
(.lt none .not [.v 45] 1 <|
(.ite (.v 46)
(.leaf .ret [.c (.bool false)] ())
(.leaf .ret [.c (.bool true)] ()))))))))))))))))))))))))))
def Wa4:Tm Unit :=
(.lt none .len [.v 0] 1 <|
(.lt none .len [.v 1] 1 <|
(.lt none (.bin .neq) [.v 2,.v 3] 1 <|
(.ite (.v 4)
(.leaf .ret [.c (.bool false)] ())
(.bind 1
(.loop [.c (.int .i64 0)]
(.lt none .len [.v 0] 1 <|
(.lt none (.bin .lss) [.v 5,.v 6] 1 <|
(.ite (.v 7)
(.lt none .inb [.v 0,.v 5] 0 <|
(.lt none (.row 15 0 [true,true,true,true,true,true,true,true,true,true,true,true,true,true,false]) [.v 0,.v 5] 15 <|
(.lt none .inb [.v 1,.v 5] 0 <|
(.lt none (.row 15 0 [true,true,true,true,true,true,true,true,true,true,true,true,true,true,false]) [.v 1,.v 5] 15 <|
(.call none 136 [.v 8,.v 9,.v 10,.v 11,.v 12,.v 13,.v 14,.v 15,.v 16,.v 17,.v 18,.v 19,.v 20,.v 21,.v 22,.v 23,.v 24,.v 25,.v 26,.v 27,.v 28,.v 29,.v 30,.v 31,.v 32,.v 33,.v 34,.v 35,.v 36,.v 37] 1 [] <|
(.lt none .not [.v 38] 1 <|
(.ite (.v 39)
(.leaf .ret [.c (.bool false)] ())
(.lt none (.bin .add) [.v 5,.c (.int .i64 1)] 1 <|
(.leaf .cont [.v 40] ())))))))))
(.leaf (.yield 1) [] ()))))) <|
(.leaf .ret [.c (.bool true)] ()))))))
def Wa3:Tm Unit :=
(.lt none (.bin .neq) [.v 0,.v 15] 1 <|
(.ite (.v 30)
(.leaf .ret [.c (.bool false)] ())
(.lt none (.bin .neq) [.v 1,.v 16] 1 <|
(.ite (.v 31)
(.leaf .ret [.c (.bool false)] ())
(.lt none (.bin .neq) [.v 2,.v 17] 1 <|
(.ite (.v 32)
(.leaf .ret [.c (.bool false)] ())
(.lt none (.bin .neq) [.v 3,.v 18] 1 <|
(.ite (.v 33)
(.leaf .ret [.c (.bool false)] ())
(.lt none (.bin .neq) [.v 4,.v 19] 1 <|
(.ite (.v 34)
(.leaf .ret [.c (.bool false)] ())
(.lt none (.bin .neq) [.v 5,.v 20] 1 <|
(.ite (.v 35)
(.leaf .ret [.c (.bool false)] ())
(.lt none (.bin .neq) [.v 6,.v 21] 1 <|
(.ite (.v 36)
(.leaf .ret [.c (.bool false)] ())
(.lt none (.bin .neq) [.v 7,.v 22] 1 <|
(.ite (.v 37)
(.leaf .ret [.c (.bool false)] ())
(.call none 130 [.v 8,.v 9,.v 10,.v 11,.v 12,.v 23,.v 24,.v 25,.v 26,.v 27] 1 [] <|
(.lt none .not [.v 38] 1 <|
(.ite (.v 39)
(.leaf .ret [.c (.bool false)] ())
(.call none 131 [.v 13,.v 14,.v 28,.v 29] 1 [] <|
(.lt none .not [.v 40] 1 <|
(.ite (.v 41)
(.leaf .ret [.c (.bool false)] ())
(.leaf .ret [.c (.bool true)] ())))))))))))))))))))))))
def Wa2:Tm Unit :=
(.lt none .len [.v 0] 1 <|
(.lt none .len [.v 1] 1 <|
(.lt none (.bin .neq) [.v 2,.v 3] 1 <|
(.ite (.v 4)
(.leaf .ret [.c (.bool false)] ())
(.bind 1
(.loop [.c (.int .i64 0)]
(.lt none .len [.v 0] 1 <|
(.lt none (.bin .lss) [.v 5,.v 6] 1 <|
(.ite (.v 7)
(.lt none .inb [.v 0,.v 5] 0 <|
(.lt none (.row 7 0 [true,true,true,true,true,true,true]) [.v 0,.v 5] 7 <|
(.lt none .inb [.v 1,.v 5] 0 <|
(.lt none (.row 7 0 [true,true,true,true,true,true,true]) [.v 1,.v 5] 7 <|
(.call none 138 [.v 8,.v 9,.v 10,.v 11,.v 12,.v 13,.v 14,.v 15,.v 16,.v 17,.v 18,.v 19,.v 20,.v 21] 1 [] <|
(.lt none .not [.v 22] 1 <|
(.ite (.v 23)
(.leaf .ret [.c (.bool false)] ())
(.lt none (.bin .add) [.v 5,.c (.int .i64 1)] 1 <|
(.leaf .cont [.v 24] ())))))))))
(.leaf (.yield 1) [] ()))))) <|
(.leaf .ret [.c (.bool true)] ()))))))
def Wa1:Tm Unit :=
(.lt none (.bin .neq) [.v 0,.v 7] 1 <|
(.ite (.v 14)
(.leaf .ret [.c (.bool false)] ())
(.lt none (.bin .neq) [.v 1,.v 8] 1 <|
(.ite (.v 15)
(.leaf .ret [.c (.bool false)] ())
(.call none 130 [.v 2,.v 3,.v 4,.v 5,.v 6,.v 9,.v 10,.v 11,.v 12,.v 13] 1 [] <|
(.lt none .not [.v 16] 1 <|
(.ite (.v 17)
(.leaf .ret [.c (.bool false)] ())
(.leaf .ret [.c (.bool true)] ()))))))))
theorem Obu:∀ n,rH Tryz.prog (Mao [(72,.tm Cb6)]) n 72 Dbl:=fun n=>contracts Za4 (by kernel_rfl) (Qaj (List.forall_mem_cons.2 ⟨Vaf (E:=⟨sF tiL,[(72,Dbl)],0,0,false,false,[],[],[],0⟩) Tryz.func216 (by kernel_rfl) (tm:=Cb6) (by kernel_rfl) (by kernel_rfl),List.forall_mem_nil _⟩)) n 72 Dbl (by simp)
def Ib9:Go.Shelf.Ren:=⟨fun|41=>216|n=>n,fun|4=>4|22=>27|23=>3|n=>n,fun n=>n⟩
theorem Eb3:Go.Proofs.SlLaysE0.n41 Tryz.prog Ib9:={ mixed:=by kernel_rfl,f41:=⟨Tryz.f216.name,by kernel_rfl,Tryz.func216.trans (congrArg some (by kernel_rfl))⟩,t4:=Tryz.underlying4,a4:=Tryz.isAgg4,z4:=Tryz.sizeOf4,v4:=Tryz.zeroValue4,t22:=Tryz.underlying27,a22:=Tryz.isAgg27,z22:=Tryz.sizeOf27,v22:=Tryz.zeroValue27 }
noncomputable def Mbr:List D → Option (List D):=Abi 1 (Mao [(72,.tm Cb6)]) 72
noncomputable def T:Nat → Ent:=Mao [(0,.tm tm0),(1,.tm tm1),(2,.tm tm2),(3,.tm tm3),(4,.tm tm4),(5,.tm tm5),(6,.tm tm6),(7,.tm tm7),(8,.tm tm8),(9,.tm tm9),(10,.tm Ibj),(11,.tm Ibi),(12,.tm Ibh),(13,.tm Ibg),(14,.tm Ibf),(15,.tm Ibe),(16,.tm Ibd),(17,.tm Ibc),(18,.tm Ibb),(19,.tm Iba),(20,.tm Hb9),(21,.tm Hb8),(22,.tm Hb7),(23,.tm Hb6),(24,.tm Hbz),(25,.tm Hby),(26,.tm Hbx),(27,.tm Hbw),(28,.tm Hbv),(29,.tm Hbu),(30,.tm Hbt),(31,.tm Hbs),(32,.tm Hbr),(33,.tm Hbq),(34,.tm Hbp),(35,.tm Hbo),(36,.tm Hbn),(37,.tm Hbm),(38,.tm Hbl),(39,.tm Hbk),(40,.tm Hbj),(41,.tm Hbi),(42,.tm Hbh),(43,.tm Hbg),(44,.tm Hbf),(45,.tm Hbe),(46,.tm Hbd),(47,.tm Hbc),(48,.tm Hbb),(49,.tm Hba),(50,.tm Gb9),(51,.tm Gb8),(52,.tm Gb7),(53,.tm Gb6),(54,.tm Gb5),(55,.tm Gb4),(56,.tm Gb3),(57,.tm Gb2),(58,.tm Gb1),(59,.tm Gb0),(60,.tm Gbz),(61,.tm Gby),(62,.tm Gbx),(63,.tm Gbw),(64,.tm Gbv),(65,.tm Gbu),(66,.tm Gbt),(67,.tm Gbs),(68,.tm Gbr),(69,.tm Gbq),(70,.tm Gbp),(71,.tm Gbo),(72,.ext Mbr),(73,.tm Gbn),(74,.tm Gbm),(75,.tm Gbl),(76,.tm Gbk),(77,.tm Gbj),(78,.tm Gbi),(79,.tm Gbh),(80,.tm Gbg),(81,.tm Gbf),(82,.tm Gbe),(83,.tm Gbd),(84,.tm Gbc),(85,.tm Gbb),(86,.tm Gba),(87,.tm Fb9),(88,.tm Fb8),(89,.tm Fb7),(90,.tm Fb6),(91,.tm Fb5),(92,.tm Fb4),(93,.tm Fb3),(94,.tm Fb2),(95,.tm Fb1),(96,.tm Fb0),(97,.tm Fbz),(98,.tm Fby),(99,.tm Fbx),(100,.tm Xa2),(101,.tm Xa1),(102,.tm Xa0),(103,.tm Xaz),(104,.tm Xay),(105,.tm Xax),(106,.tm Xaw),(107,.tm Xav),(108,.tm Xau),(109,.tm Xat),(110,.tm Xas),(111,.tm Xar),(112,.tm Xaq),(113,.tm Xap),(114,.tm Xao),(115,.tm Xan),(116,.tm Xam),(117,.tm Xal),(118,.tm Xak),(119,.tm Xaj),(120,.tm Xai),(121,.tm Xah),(122,.ext Eah),(123,.tm Xag),(124,.tm Xaf),(125,.tm Xae),(126,.tm Xad),(127,.tm Xac),(128,.tm Xab),(129,.tm Xaa),(130,.tm Wa9),(131,.tm Wa8),(132,.tm Wa7),(133,.tm Wa6),(134,.tm Wa5),(135,.tm Wa4),(136,.tm Wa3),(137,.tm Wa2),(138,.tm Wa1)]
abbrev K:=Sa6 Tryz.prog T (sF tiL) sigs
theorem o72:Sa6 Tryz.prog T (sF tiL) sigs 72 Dbl:=Va5 (m:=98) Eb3 rfl (by kernel_rfl) Tryz.sizeOf3 Obu rfl
def Tryz.laysF70_ren:Go.Shelf.Ren:=⟨fun|6=>70|15=>130|14=>129|28=>184|29=>185|20=>176|21=>177|22=>178|23=>179|24=>180|25=>181|26=>182|27=>183|46=>217|47=>218|48=>219|49=>220|50=>221|57=>239|n=>n,fun|22=>52|24=>27|25=>123|3=>3|39=>166|0=>0|53=>208|55=>210|4=>4|46=>202|45=>201|50=>45|5=>5|9=>9|66=>229|70=>233|76=>252|77=>253|n=>n,fun|n=>n⟩
theorem Tryz.laysF70:Go.Proofs.SlLaysF.n6 Tryz.prog Tryz.laysF70_ren:={
  mixed:=by kernel_rfl
  f6:=⟨Tryz.f70.name,by decide,Tryz.func70.trans (congrArg some (by kernel_rfl))⟩
  f14:=⟨Tryz.f129.name,by decide,Tryz.func129.trans (congrArg some (by kernel_rfl))⟩
  f15:=Tryz.func130.trans (congrArg some (by kernel_rfl))
  f20:=⟨Tryz.f176.name,by decide,Tryz.func176.trans (congrArg some (by kernel_rfl))⟩
  f21:=⟨Tryz.f177.name,by decide,Tryz.func177.trans (congrArg some (by kernel_rfl))⟩
  f22:=⟨Tryz.f178.name,by decide,Tryz.func178.trans (congrArg some (by kernel_rfl))⟩
  f23:=⟨Tryz.f179.name,by decide,Tryz.func179.trans (congrArg some (by kernel_rfl))⟩
  f24:=⟨Tryz.f180.name,by decide,Tryz.func180.trans (congrArg some (by kernel_rfl))⟩
  f25:=⟨Tryz.f181.name,by decide,Tryz.func181.trans (congrArg some (by kernel_rfl))⟩
  f26:=⟨Tryz.f182.name,by decide,Tryz.func182.trans (congrArg some (by kernel_rfl))⟩
  f27:=⟨Tryz.f183.name,by decide,Tryz.func183.trans (congrArg some (by kernel_rfl))⟩
  f28:=Tryz.func184.trans (congrArg some (by kernel_rfl))
  f29:=Tryz.func185.trans (congrArg some (by kernel_rfl))
  f46:=⟨Tryz.f217.name,by decide,Tryz.func217.trans (congrArg some (by kernel_rfl))⟩
  f47:=Tryz.func218.trans (congrArg some (by kernel_rfl))
  f48:=Tryz.func219.trans (congrArg some (by kernel_rfl))
  f49:=⟨Tryz.f220.name,by decide,Tryz.func220.trans (congrArg some (by kernel_rfl))⟩
  f50:=⟨Tryz.f221.name,by decide,Tryz.func221.trans (congrArg some (by kernel_rfl))⟩
  f57:=⟨Tryz.f239.name,by decide,Tryz.func239.trans (congrArg some (by kernel_rfl))⟩
  t0:=Tryz.underlying0
  a0:=Tryz.isAgg0
  z0:=Tryz.sizeOf0
  v0:=Tryz.zeroValue0
  t3:=Tryz.underlying3
  a3:=Tryz.isAgg3
  z3:=Tryz.sizeOf3
  v3:=Tryz.zeroValue3
  t4:=Tryz.underlying4
  a4:=Tryz.isAgg4
  z4:=Tryz.sizeOf4
  v4:=Tryz.zeroValue4
  t5:=Tryz.underlying5
  a5:=Tryz.isAgg5
  z5:=Tryz.sizeOf5
  v5:=Tryz.zeroValue5
  t9:=Tryz.underlying9
  a9:=Tryz.isAgg9
  z9:=Tryz.sizeOf9
  v9:=Tryz.zeroValue9
  t22:=Tryz.underlying52
  a22:=Tryz.isAgg52
  z22:=Tryz.sizeOf52
  v22:=Tryz.zeroValue52
  a24:=Tryz.isAgg27
  z24:=Tryz.sizeOf27
  t25:=Tryz.underlying123
  a25:=Tryz.isAgg123
  z25:=Tryz.sizeOf123
  v25:=Tryz.zeroValue123
  t39:=Tryz.underlying166
  a39:=Tryz.isAgg166
  z39:=Tryz.sizeOf166
  v39:=Tryz.zeroValue166
  t45:=Tryz.underlying201
  a45:=Tryz.isAgg201
  z45:=Tryz.sizeOf201
  v45:=Tryz.zeroValue201
  t46:=Tryz.underlying202
  a46:=Tryz.isAgg202
  z46:=Tryz.sizeOf202
  v46:=Tryz.zeroValue202
  t50:=Tryz.underlying45
  a50:=Tryz.isAgg45
  z50:=Tryz.sizeOf45
  v50:=Tryz.zeroValue45
  t53:=Tryz.underlying208
  a53:=Tryz.isAgg208
  z53:=Tryz.sizeOf208
  v53:=Tryz.zeroValue208
  t55:=Tryz.underlying210
  a55:=Tryz.isAgg210
  z55:=Tryz.sizeOf210
  v55:=Tryz.zeroValue210
  t66:=Tryz.underlying229
  a66:=Tryz.isAgg229
  z66:=Tryz.sizeOf229
  v66:=Tryz.zeroValue229
  t70:=Tryz.underlying233
  a70:=Tryz.isAgg233
  z70:=Tryz.sizeOf233
  v70:=Tryz.zeroValue233
  t76:=Tryz.underlying252
  a76:=Tryz.isAgg252
  z76:=Tryz.sizeOf252
  v76:=Tryz.zeroValue252
  t77:=Tryz.underlying253
  a77:=Tryz.isAgg253
  z77:=Tryz.sizeOf253
  v77:=Tryz.zeroValue253 }
open Go.RowKit in
set_option maxHeartbeats 2000000 in
theorem Jbf (x:Int)(w:World):Calls Tryz.prog 186 #[.int .i64 x] w fun e w'=>e=.returned (.bool false) ∧ w'=w:=by
  go_enter Tryz.func186,Tryz.ntmps186
  go_wp2
  go_ret
  exact⟨by simp,rfl⟩
open Go.RowKit in
set_option maxHeartbeats 2000000 in
theorem Cb8 (x y:Int)(w:World):Calls Tryz.prog 131 #[.int .i64 x,.int .i64 y] w fun e w'=>e=.returned (.int .i64 (if x<y then -1 else if y<x then 1 else 0)) ∧ w'=w:=by
  rcases Int.lt_trichotomy x y with h|h|h
  · go_enter Tryz.func131,Tryz.ntmps131
    go_wp2_with (go_at_call 186;refine (Jbf _ _).mono ?_;rintro e w' ⟨rfl,hw⟩;rw[hw])
    go_ret
    exact⟨by simp[h],rfl⟩
  · subst h
    go_enter Tryz.func131,Tryz.ntmps131
    go_wp2_with (go_at_call 186;refine (Jbf _ _).mono ?_;rintro e w' ⟨rfl,hw⟩;rw[hw])
    go_ret
    exact⟨by simp,rfl⟩
  · have h2:¬ x<y:=by omega
    go_enter Tryz.func131,Tryz.ntmps131
    go_wp2_with (go_at_call 186;refine (Jbf _ _).mono ?_;rintro e w' ⟨rfl,hw⟩;rw[hw])
    go_ret
    exact⟨by simp[h,h2],rfl⟩
open Go.RowKit in
set_option maxHeartbeats 2000000 in
theorem Eby (a b:Addr)(ca cb:Nat)(x y:Int×Int)(w:World)(h1:w.cell? a=some (.int .i64 x.1))(h2:w.cell? (a.add 1)=some (.int .i64 x.2))(h3:w.cell? b=some (.int .i64 y.1))(h4:w.cell? (b.add 1)=some (.int .i64 y.2)) :
    Calls Tryz.prog 72 #[.slice (some a) 2 ca,.slice (some b) 2 cb] w fun e w'=>e=.returned (.int .i64 (Oay x y)) ∧ w'=w:=by
  obtain⟨x1,x2⟩:=x;obtain⟨y1,y2⟩:=y;replace h2:w.cell? ⟨a.block,a.off+1,none⟩=some (.int .i64 x2):=h2;replace h4:w.cell? ⟨b.block,b.off+1,none⟩=some (.int .i64 y2):=h4;dsimp only at h1 h3
  rcases Int.lt_trichotomy x1 y1 with h|h|h
  · have e0:Oay (x1,x2) (y1,y2)=-1:=by simp[Oay,ltQ,h]
    have hc:=Cb8 x1 y1;rw[if_pos h]at hc
    go_enter Tryz.func72,Tryz.ntmps72
    go_wp2
    refine wp_loop_rounds 1 ?_;rw[rounds_succ]
    go_wp2_with (go_at_call 131;refine (hc _).mono ?_;rintro e w' ⟨rfl,hw⟩;rw[hw])
    go_ret
    exact⟨by rw[e0];rfl,rfl⟩
  · subst h
    have hc:=Cb8 x1 x1;rw[if_neg (by omega),if_neg (by omega)]at hc
    rcases Int.lt_trichotomy x2 y2 with h|h|h
    · have e0:Oay (x1,x2) (x1,y2)=-1:=by simp[Oay,ltQ,h]
      have hd:=Cb8 x2 y2;rw[if_pos h]at hd
      go_enter Tryz.func72,Tryz.ntmps72
      go_wp2
      refine wp_loop_rounds 2 ?_;rw[rounds_succ]
      go_wp2_with (go_at_call 131;refine (hc _).mono ?_;rintro e w' ⟨rfl,hw⟩;rw[hw])
      rw[rounds_succ]
      go_wp2_with (go_at_call 131;refine (hd _).mono ?_;rintro e w' ⟨rfl,hw⟩;rw[hw])
      go_ret
      exact⟨by rw[e0];rfl,rfl⟩
    · subst h
      have e0:Oay (x1,x2) (x1,x2)=0:=by simp[Oay,ltQ]
      have hd:=Cb8 x2 x2;rw[if_neg (by omega),if_neg (by omega)]at hd
      go_enter Tryz.func72,Tryz.ntmps72
      go_wp2
      refine wp_loop_rounds 3 ?_;rw[rounds_succ]
      go_wp2_with (go_at_call 131;refine (hc _).mono ?_;rintro e w' ⟨rfl,hw⟩;rw[hw])
      rw[rounds_succ]
      go_wp2_with (go_at_call 131;refine (hd _).mono ?_;rintro e w' ⟨rfl,hw⟩;rw[hw])
      rw[rounds_succ]
      go_wp2
      go_ret
      exact⟨by rw[e0];rfl,rfl⟩
    · have e0:Oay (x1,x2) (x1,y2)=1:=by simp[Oay,ltQ,h];omega
      have hd:=Cb8 x2 y2;rw[if_neg (by omega),if_pos h]at hd
      go_enter Tryz.func72,Tryz.ntmps72
      go_wp2
      refine wp_loop_rounds 2 ?_;rw[rounds_succ]
      go_wp2_with (go_at_call 131;refine (hc _).mono ?_;rintro e w' ⟨rfl,hw⟩;rw[hw])
      rw[rounds_succ]
      go_wp2_with (go_at_call 131;refine (hd _).mono ?_;rintro e w' ⟨rfl,hw⟩;rw[hw])
      go_ret
      exact⟨by rw[e0];rfl,rfl⟩
  · have e0:Oay (x1,x2) (y1,y2)=1:=by simp[Oay,ltQ,h];omega
    have hc:=Cb8 x1 y1;rw[if_neg (by omega),if_pos h]at hc
    go_enter Tryz.func72,Tryz.ntmps72
    go_wp2
    refine wp_loop_rounds 1 ?_;rw[rounds_succ]
    go_wp2_with (go_at_call 131;refine (hc _).mono ?_;rintro e w' ⟨rfl,hw⟩;rw[hw])
    go_ret
    exact⟨by rw[e0];rfl,rfl⟩
open Go.RowKit in
set_option maxHeartbeats 2000000 in
theorem Bbj:Ja1 Tryz.prog 71:=by
  intro a b ca cb x y w h1 h2 h3 h4;have hc:=fun W=>Eby a b ca cb x y W
  go_enter Tryz.func71,Tryz.ntmps71
  go_wp2_with (go_at_call 72;refine (hc _ h1 h2 h3 h4).mono ?_;rintro e w' ⟨rfl,hw⟩;rw[hw])
  go_ret
  exact⟨rfl,0,#[],by rw[Go.Sort.grow_empty];rfl⟩
theorem Nb1:K 122 Db2:=Tar Tryz.laysF70 rfl Tryz.func71 (by kernel_rfl) rfl Bbj rfl
theorem o0:K 0 sg0:=fnK (E:=E0) (tm:=tm0) Tryz.func4 (by kernel_rfl)
theorem o1:K 1 sg1:=fnK (E:=E0) (tm:=tm1) Tryz.func8 (by kernel_rfl)
theorem o2:K 2 sg2:=fnK (E:=E0) (tm:=tm2) Tryz.func23 (by kernel_rfl)
theorem o3:K 3 sg3:=fnK (E:=E0) (tm:=tm3) Tryz.func52 (by kernel_rfl)
theorem o4:K 4 sg4:=fnK (E:=E0) (tm:=tm4) Tryz.func103 (by kernel_rfl)
theorem o5:K 5 sg5:=fnK (E:=E0) (tm:=tm5) Tryz.func167 (by kernel_rfl)
theorem o6:K 6 sg6:=fnK (E:=E0) (tm:=tm6) Tryz.func212 (by kernel_rfl)
theorem o7:K 7 sg7:=fnK (E:=E0) (tm:=tm7) Tryz.func237 (by kernel_rfl)
theorem o8:K 8 sg8:=fnK (E:=E0) (tm:=tm8) Tryz.func105 (by kernel_rfl)
theorem o9:K 9 sg9:=fnK (E:=E0) (tm:=tm9) Tryz.func169 (by kernel_rfl)
theorem o10:K 10 Mbl:=fnK (E:=E0) (tm:=Ibj) Tryz.func104 (by kernel_rfl)
theorem o11:K 11 Mbk:=fnK (E:=E0) (tm:=Ibi) Tryz.func168 (by kernel_rfl)
theorem o12:K 12 Mbj:=fnK (E:=E0) (tm:=Ibh) Tryz.func24 (by kernel_rfl)
theorem o13:K 13 Mbi:=fnK (E:=E0) (tm:=Ibg) Tryz.func53 (by kernel_rfl)
theorem o14:K 14 Mbh:=fnK (E:=E0) (tm:=Ibf) Tryz.func25 (by kernel_rfl)
theorem o15:K 15 Mbg:=fnK (E:=E0) (tm:=Ibe) Tryz.func10 (by kernel_rfl)
theorem o16:K 16 Mbf:=fnK (E:=E0) (tm:=Ibd) Tryz.func29 (by kernel_rfl)
theorem o17:K 17 Mbe:=fnK (E:=E0) (tm:=Ibc) Tryz.func61 (by kernel_rfl)
theorem o18:K 18 Mbd:=fnK (E:=E0) (tm:=Ibb) Tryz.func114 (by kernel_rfl)
theorem o19:K 19 Mbc:=fnK (E:=E0) (tm:=Iba) Tryz.func173 (by kernel_rfl)
theorem o20:K 20 Mbb:=fnK (E:=E0) (tm:=Hb9) Tryz.func215 (by kernel_rfl)
theorem o21:K 21 Mba:=fnK (E:=E0) (tm:=Hb8) Tryz.func238 (by kernel_rfl)
theorem o22:K 22 Lb9:=fnK (E:=E0) (tm:=Hb7) Tryz.func116 (by kernel_rfl)
theorem o23:K 23 Lb8:=fnK (E:=E0) (tm:=Hb6) Tryz.func117 (by kernel_rfl)
theorem o24:K 24 Lb7:=fnK (E:=E0) (tm:=Hbz) Tryz.func11 (by kernel_rfl)
theorem o25:K 25 Lb6:=fnK (E:=E0) (tm:=Hby) Tryz.func115 (by kernel_rfl)
theorem o26:K 26 Lb5:=fnK (E:=E0) (tm:=Hbx) Tryz.func174 (by kernel_rfl)
theorem o27:K 27 Lb4:=fnK (E:=E0) (tm:=Hbw) Tryz.func30 (by kernel_rfl)
theorem o28:K 28 Lb3:=fnK (E:=E0) (tm:=Hbv) Tryz.func62 (by kernel_rfl)
theorem o29:K 29 Lb2:=fnK (E:=E0) (tm:=Hbu) Tryz.func31 (by kernel_rfl)
theorem o30:K 30 Lb1:=fnK (E:=E0) (tm:=Hbt) Tryz.func63 (by kernel_rfl)
theorem o31:K 31 Lb0:=fnK (E:=E0) (tm:=Hbs) Tryz.func15 (by kernel_rfl)
theorem o32:K 32 Lbz:=fnK (E:=E0) (tm:=Hbr) Tryz.func37 (by kernel_rfl)
theorem o33:K 33 Lby:=fnK (E:=E0) (tm:=Hbq) Tryz.func26 (by kernel_rfl)
theorem o34:K 34 Lbx:=fnK (E:=E0) (tm:=Hbp) Tryz.func54 (by kernel_rfl)
theorem o35:K 35 Lbw:=fnK (E:=⟨sF tiL,sigs,0,0,false,false,[],[(7,[(117,0,0,0)],[0,3,18,27,30,33,78,81,96,99,111,114,117,25],0,[]),(2,[(33,0,0,0)],[0,3,27,30,33],1,[])],[],0⟩) (tm:=Hbo) Tryz.func55 (by kernel_rfl)
theorem o36:K 36 Lbv:=fnK (E:=E0) (tm:=Hbn) Tryz.func106 (by kernel_rfl)
theorem o37:K 37 Lbu:=fnK (E:=E0) (tm:=Hbm) Tryz.func58 (by kernel_rfl)
theorem o38:K 38 Lbt:=fnK (E:=E0) (tm:=Hbl) Tryz.func107 (by kernel_rfl)
theorem o39:K 39 Lbs:=fnK (E:=E0) (tm:=Hbk) Tryz.func170 (by kernel_rfl)
theorem o40:K 40 Lbr:=fnK (E:=E0) (tm:=Hbj) Tryz.func213 (by kernel_rfl)
theorem o41:K 41 Lbq:=fnK (E:=E0) (tm:=Hbi) Tryz.func56 (by kernel_rfl)
theorem o42:K 42 Lbp:=fnK (E:=⟨sF tiL,sigs,0,0,false,false,[],[(7,[(84,0,0,0)],[3,12,60,63,66,78,81,84,1],0,[]),(4,[(66,0,0,0)],[3,60,63,66,1],1,[])],[],0⟩) (tm:=Hbh) Tryz.func108 (by kernel_rfl)
theorem o43:K 43 Lbo:=fnK (E:=E0) (tm:=Hbg) Tryz.func110 (by kernel_rfl)
theorem o44:K 44 Lbn:=fnK (E:=E0) (tm:=Hbf) Tryz.func112 (by kernel_rfl)
theorem o45:K 45 Lbm:=fnK (E:=E0) (tm:=Hbe) Tryz.func77 (by kernel_rfl)
theorem o46:K 46 Lbl:=fnK (E:=E0) (tm:=Hbd) Tryz.func136 (by kernel_rfl)
theorem o47:K 47 Lbk:=fnK (E:=E0) (tm:=Hbc) Tryz.func111 (by kernel_rfl)
theorem o48:K 48 Lbj:=fnK (E:=E0) (tm:=Hbb) Tryz.func171 (by kernel_rfl)
theorem o49:K 49 Lbi:=fnK (E:=⟨sF tiL,sigs,0,0,false,false,[],[(4,[(165,0,0,0)],[0,15,159,162,165,1],0,[])],[],0⟩) (tm:=Hba) Tryz.func109 (by kernel_rfl)
theorem o50:K 50 Lbh:=fnK (E:=E0) (tm:=Gb9) Tryz.func27 (by kernel_rfl)
theorem o51:K 51 Lbg:=fnK (E:=E0) (tm:=Gb8) Tryz.func166 (by kernel_rfl)
theorem o52:K 52 Lbf:=fnK (E:=E0) (tm:=Gb7) Tryz.func57 (by kernel_rfl)
theorem o53:K 53 Lbe:=fnK (E:=⟨sF tiL,sigs,0,0,false,false,[],[(6,[(72,0,0,0)],[6,24,30,48,51,54,66,69,72,1],193,[1]),(3,[(54,0,0,0)],[6,24,48,51,54,1],194,[1])],[],0⟩) (tm:=Gb6) Tryz.func38 (by kernel_rfl)
theorem o54:K 54 Lbd:=fnK (E:=⟨sF tiL,sigs,0,0,false,false,[],[(15,[(18,0,2,99),(201,0,0,0)],[3,6,15,18,39,81,84,87,120,123,126,171,174,177,195,198,201,1,67,154],1,[78]),(12,[(18,0,2,99),(177,0,0,0)],[3,6,15,18,81,84,87,120,123,126,171,174,177,1,67],4,[60]),(8,[(18,0,2,99),(126,0,0,0)],[3,6,15,18,81,84,87,120,123,126,1,67],7,[33]),(4,[(18,0,2,99),(87,0,0,0)],[3,6,15,18,81,84,87,1],10,[0]),(32,[(57,0,0,0),(309,0,0,0)],[3,6,15,18,48,51,54,57,303,306,309,1],0,[40,100]),(28,[(48,0,2,99),(54,0,0,0)],[3,6,15,18,48,51,54,1],7,[40,72]),(25,[(48,0,2,99),(51,0,0,0)],[3,6,15,18,48,51,1],10,[40])],[],0⟩) (tm:=Gb5) Tryz.func28 (by kernel_rfl)
theorem o55:K 55 Lbc:=fnK (E:=E0) (tm:=Gb4) Tryz.func59 (by kernel_rfl)
theorem o56:K 56 Lbb:=fnK (E:=E0) (tm:=Gb3) Tryz.func60 (by kernel_rfl)
theorem o57:K 57 Lba:=fnK (E:=E0) (tm:=Gb2) Tryz.func113 (by kernel_rfl)
theorem o58:K 58 Kb9:=fnK (E:=E0) (tm:=Gb1) Tryz.func172 (by kernel_rfl)
theorem o59:K 59 Kb8:=fnK (E:=E0) (tm:=Gb0) Tryz.func214 (by kernel_rfl)
theorem o60:K 60 Kb7:=fnK (E:=E0) (tm:=Gbz) Tryz.func16 (by kernel_rfl)
theorem o61:K 61 Kb6:=fnK (E:=E0) (tm:=Gby) Tryz.func32 (by kernel_rfl)
theorem o62:K 62 Kb5:=fnK (E:=E0) (tm:=Gbx) Tryz.func42 (by kernel_rfl)
theorem o63:K 63 Kb4:=fnK (E:=E0) (tm:=Gbw) Tryz.func80 (by kernel_rfl)
theorem o64:K 64 Kb3:=fnK (E:=E0) (tm:=Gbv) Tryz.func81 (by kernel_rfl)
theorem o65:K 65 Kb2:=fnK (E:=E0) (tm:=Gbu) Tryz.func143 (by kernel_rfl)
theorem o66:K 66 Kb1:=fnK (E:=E0) (tm:=Gbt) Tryz.func82 (by kernel_rfl)
theorem o67:K 67 Kb0:=fnK (E:=E0) (tm:=Gbs) Tryz.func83 (by kernel_rfl)
theorem o68:K 68 Kbz:=fnK (E:=E0) (tm:=Gbr) Tryz.func120 (by kernel_rfl)
theorem o69:K 69 Kby:=fnK (E:=E0) (tm:=Gbq) Tryz.func85 (by kernel_rfl)
theorem o70:K 70 Kbx:=fnK (E:=E0) (tm:=Gbp) Tryz.func145 (by kernel_rfl)
theorem o71:K 71 Kbw:=fnK (E:=E0) (tm:=Gbo) Tryz.func175 (by kernel_rfl)
theorem o73:K 73 Kbv:=fnK (E:=E0) (tm:=Gbn) Tryz.func144 (by kernel_rfl)
theorem o74:K 74 Kbu:=fnK (E:=E0) (tm:=Gbm) Tryz.func86 (by kernel_rfl)
theorem o75:K 75 Kbt:=fnK (E:=E0) (tm:=Gbl) Tryz.func149 (by kernel_rfl)
theorem o76:K 76 Kbs:=fnK (E:=E0) (tm:=Gbk) Tryz.func146 (by kernel_rfl)
theorem o77:K 77 Kbr:=fnK (E:=E0) (tm:=Gbj) Tryz.func66 (by kernel_rfl)
theorem o78:K 78 Kbq:=fnK (E:=E0) (tm:=Gbi) Tryz.func123 (by kernel_rfl)
theorem o79:K 79 Kbp:=fnK (E:=E0) (tm:=Gbh) Tryz.func194 (by kernel_rfl)
theorem o80:K 80 Kbo:=fnK (E:=E0) (tm:=Gbg) Tryz.func125 (by kernel_rfl)
theorem o81:K 81 Kbn:=fnK (E:=E0) (tm:=Gbf) Tryz.func89 (by kernel_rfl)
theorem o82:K 82 Kbm:=fnK (E:=E0) (tm:=Gbe) Tryz.func128 (by kernel_rfl)
theorem o83:K 83 Kbl:=fnK (E:=E0) (tm:=Gbd) Tryz.func84 (by kernel_rfl)
theorem o84:K 84 Kbk:=fnK (E:=E0) (tm:=Gbc) Tryz.func147 (by kernel_rfl)
theorem o85:K 85 Kbj:=fnK (E:=E0) (tm:=Gbb) Tryz.func195 (by kernel_rfl)
theorem o86:K 86 Kbi:=fnK (E:=E0) (tm:=Gba) Tryz.func225 (by kernel_rfl)
theorem o87:K 87 Kbh:=fnK (E:=E0) (tm:=Fb9) Tryz.func196 (by kernel_rfl)
theorem o88:K 88 Kbg:=fnK (E:=E0) (tm:=Fb8) Tryz.func197 (by kernel_rfl)
theorem o89:K 89 Kbf:=fnK (E:=E0) (tm:=Fb7) Tryz.func226 (by kernel_rfl)
theorem o90:K 90 Kbe:=fnK (E:=E0) (tm:=Fb6) Tryz.func198 (by kernel_rfl)
theorem o91:K 91 Kbd:=fnK (E:=E0) (tm:=Fb5) Tryz.func148 (by kernel_rfl)
theorem o92:K 92 Kbc:=fnK (E:=E0) (tm:=Fb4) Tryz.func64 (by kernel_rfl)
theorem o93:K 93 Kbb:=fnK (E:=E0) (tm:=Fb3) Tryz.func118 (by kernel_rfl)
theorem o94:K 94 Kba:=fnK (E:=E0) (tm:=Fb2) Tryz.func66 (by kernel_rfl)
theorem o95:K 95 Jb9:=fnK (E:=E0) (tm:=Fb1) Tryz.func123 (by kernel_rfl)
theorem o96:K 96 Jb8:=fnK (E:=E0) (tm:=Fb0) Tryz.func119 (by kernel_rfl)
theorem o97:K 97 Jb7:=fnK (E:=E0) (tm:=Fbz) Tryz.func199 (by kernel_rfl)
theorem o98:K 98 Jb6:=fnK (E:=E0) (tm:=Fby) Tryz.func227 (by kernel_rfl)
theorem o99:K 99 Jb5:=fnK (E:=E0) (tm:=Fbx) Tryz.func197 (by kernel_rfl)
theorem Obn:K 100 Ebo:=fnK (E:=E0) (tm:=Xa2) Tryz.func226 (by kernel_rfl)
theorem Obm:K 101 Ebn:=fnK (E:=E0) (tm:=Xa1) Tryz.func200 (by kernel_rfl)
theorem Obl:K 102 Ebm:=fnK (E:=E0) (tm:=Xa0) Tryz.func72 (by kernel_rfl)
theorem Obk:K 103 Ebl:=fnK (E:=E0) (tm:=Xaz) Tryz.func131 (by kernel_rfl)
theorem Obi:K 104 Ebk:=fnK (E:=E0) (tm:=Xay) Tryz.func186 (by kernel_rfl)
theorem Obh:K 105 Ebj:=fnK (E:=E0) (tm:=Xax) Tryz.func87 (by kernel_rfl)
theorem Obg:K 106 Ebi:=fnK (E:=E0) (tm:=Xaw) Tryz.func150 (by kernel_rfl)
theorem Obf:K 107 Ebh:=fnK (E:=E0) (tm:=Xav) Tryz.func151 (by kernel_rfl)
theorem Obe:K 108 Ebg:=fnK (E:=⟨sF tiL,sigs,0,0,false,false,[],[(6,[(69,0,0,0)],[6,21,27,45,48,51,63,66,69,1],193,[]),(3,[(51,0,0,0)],[6,21,45,48,51,1],194,[])],[],0⟩) (tm:=Xau) Tryz.func39 (by kernel_rfl)
theorem Obd:K 109 Ebf:=fnK (E:=⟨sF tiL,sigs,0,0,false,false,[],[(6,[(15,0,2,1),(72,0,3,0),(78,0,0,0)],[3,6,15,36,39,42,72,75,78,1],6,[36,44]),(3,[(15,0,2,1),(42,0,0,0)],[3,6,15,36,39,42,1],11,[0])],[],0⟩) (tm:=Xat) Tryz.func33 (by kernel_rfl)
theorem Obc:K 110 Ebe:=fnK (E:=⟨sF tiL,sigs,0,0,false,false,[],[(6,[(9,0,2,99),(34,0,0,0)],[3,9,12,15,27,30,1,28,34],4,[27]),(3,[(9,0,2,99),(30,0,0,0)],[3,9,27,30,1],8,[0])],[5],0⟩) (tm:=Xas) Tryz.func65 (by kernel_rfl)
theorem o111:K 111 Ebd:=fnK (E:=⟨sF tiL,sigs,0,0,false,false,[],[(5,[(54,0,0,0),(1,0,0,0)],[93,96,99,3,12,27,30,33,48,51,54,1,4,7,10],0,[]),(2,[(33,0,0,0),(1,0,0,0)],[93,96,99,3,27,30,33,1,4,7,10],3,[])],[],0⟩) (tm:=Xar) Tryz.func121 (by kernel_rfl)
theorem Obb:K 112 Ebc:=fnK (E:=E0) (tm:=Xaq) Tryz.func122 (by kernel_rfl)
theorem Oba:K 113 Ebb:=fnK (E:=E0) (tm:=Xap) Tryz.func66 (by kernel_rfl)
theorem Nb9:K 114 Eba:=fnK (E:=E0) (tm:=Xao) Tryz.func123 (by kernel_rfl)
theorem Nb8:K 115 Db9:=fnK (E:=E0) (tm:=Xan) Tryz.func67 (by kernel_rfl)
theorem Nb7:K 116 Db8:=fnK (E:=E0) (tm:=Xam) Tryz.func68 (by kernel_rfl)
theorem Nb6:K 117 Db7:=fnK (E:=E0) (tm:=Xal) Tryz.func124 (by kernel_rfl)
theorem Nb5:K 118 Db6:=fnK (E:=E0) (tm:=Xak) Tryz.func69 (by kernel_rfl)
theorem Nb4:K 119 Db5:=fnK (E:=E0) (tm:=Xaj) Tryz.func126 (by kernel_rfl)
theorem Nb3:K 120 Db4:=fnK (E:=E0) (tm:=Xai) Tryz.func156 (by kernel_rfl)
theorem Nb2:K 121 Db3:=fnK (E:=E0) (tm:=Xah) Tryz.func127 (by kernel_rfl)
theorem Nb0:K 123 Db1:=fnK (E:=E0) (tm:=Xag) Tryz.func13 (by kernel_rfl)
theorem Nbz:K 124 Db0:=fnK (E:=E0) (tm:=Xaf) Tryz.func34 (by kernel_rfl)
theorem Nby:K 125 Dbz:=fnK (E:=E0) (tm:=Xae) Tryz.func73 (by kernel_rfl)
theorem Nbx:K 126 Dby:=fnK (E:=E0) (tm:=Xad) Tryz.func132 (by kernel_rfl)
theorem Nbw:K 127 Dbx:=fnK (E:=E0) (tm:=Xac) Tryz.func187 (by kernel_rfl)
theorem Nbv:K 128 Dbw:=fnK (E:=E0) (tm:=Xab) Tryz.func222 (by kernel_rfl)
theorem Nbu:K 129 Dbv:=fnK (E:=E0) (tm:=Xaa) Tryz.func240 (by kernel_rfl)
theorem Nbt:K 130 Dbu:=fnK (E:=E0) (tm:=Wa9) Tryz.func134 (by kernel_rfl)
theorem Nbs:K 131 Dbt:=fnK (E:=E0) (tm:=Wa8) Tryz.func135 (by kernel_rfl)
theorem Nbr:K 132 Dbs:=fnK (E:=E0) (tm:=Wa7) Tryz.func14 (by kernel_rfl)
theorem Nbq:K 133 Dbr:=fnK (E:=E0) (tm:=Wa6) Tryz.func133 (by kernel_rfl)
theorem Nbp:K 134 Dbq:=fnK (E:=E0) (tm:=Wa5) Tryz.func188 (by kernel_rfl)
theorem Nbo:K 135 Dbp:=fnK (E:=E0) (tm:=Wa4) Tryz.func35 (by kernel_rfl)
theorem Nbn:K 136 Dbo:=fnK (E:=E0) (tm:=Wa3) Tryz.func74 (by kernel_rfl)
theorem Nbm:K 137 Dbn:=fnK (E:=E0) (tm:=Wa2) Tryz.func36 (by kernel_rfl)
theorem Nbl:K 138 Dbm:=fnK (E:=E0) (tm:=Wa1) Tryz.func75 (by kernel_rfl)
theorem Fbc:∀ key s,(key,s)∈sigs → Sa6 Tryz.prog T (sF tiL) sigs key s:=Qaj (fc o0 <| fc o1 <| fc o2 <| fc o3 <| fc o4 <| fc o5 <| fc o6 <| fc o7 <| fc o8 <| fc o9 <| fc o10 <| fc o11 <| fc o12 <| fc o13 <| fc o14 <| fc o15 <| fc o16 <| fc o17 <| fc o18 <| fc o19 <| fc o20 <| fc o21 <| fc o22 <| fc o23 <| fc o24 <| fc o25 <| fc o26 <| fc o27 <| fc o28 <| fc o29 <| fc o30 <| fc o31 <| fc o32 <| fc o33 <| fc o34 <| fc o35 <| fc o36 <| fc o37 <| fc o38 <| fc o39 <| fc o40 <| fc o41 <| fc o42 <| fc o43 <| fc o44 <| fc o45 <| fc o46 <| fc o47 <| fc o48 <| fc o49 <| fc o50 <| fc o51 <| fc o52 <| fc o53 <| fc o54 <| fc o55 <| fc o56 <| fc o57 <| fc o58 <| fc o59 <| fc o60 <| fc o61 <| fc o62 <| fc o63 <| fc o64 <| fc o65 <| fc o66 <| fc o67 <| fc o68 <| fc o69 <| fc o70 <| fc o71 <| fc o72 <| fc o73 <| fc o74 <| fc o75 <| fc o76 <| fc o77 <| fc o78 <| fc o79 <| fc o80 <| fc o81 <| fc o82 <| fc o83 <| fc o84 <| fc o85 <| fc o86 <| fc o87 <| fc o88 <| fc o89 <| fc o90 <| fc o91 <| fc o92 <| fc o93 <| fc o94 <| fc o95 <| fc o96 <| fc o97 <| fc o98 <| fc o99 <| fc Obn <| fc Obm <| fc Obl <| fc Obk <| fc Obi <| fc Obh <| fc Obg <| fc Obf <| fc Obe <| fc Obd <| fc Obc <| fc o111 <| fc Obb <| fc Oba <| fc Nb9 <| fc Nb8 <| fc Nb7 <| fc Nb6 <| fc Nb5 <| fc Nb4 <| fc Nb3 <| fc Nb2 <| fc Nb1 <| fc Nb0 <| fc Nbz <| fc Nby <| fc Nbx <| fc Nbw <| fc Nbv <| fc Nbu <| fc Nbt <| fc Nbs <| fc Nbr <| fc Nbq <| fc Nbp <| fc Nbo <| fc Nbn <| fc Nbm <| fc Nbl <| fc0)
theorem contract:∀ n,rH Tryz.prog T n 0 sg0:=fun n=>contracts Za4 (by kernel_rfl) Fbc n 0 sg0 (by simp[sigs])
end FnExactFirstOpen
end Go.Proofs.YtcbkmmhkccnamaaGreat
