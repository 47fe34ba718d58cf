import Derived.Test.YtghnfjfkjhbgdaaGreatDoorZB
import Derived.Test.YtghnfjfkjhbgdaaGreatDoorChecked
import Derived.Eval
import Derived.KernelRfl
import Derived.Laws.BitsLemmas
import Derived.Lib.Bytealg
namespace Go.Proofs.YtghnfjfkjhbgdaaGreatDoor
open Go.Se
set_option maxRecDepth 100000
noncomputable def fns :List (FuncId×Func):=[(2,Tryz.f2),(3,Tryz.f3),(4,Tryz.f4),(5,Tryz.f5),(6,Tryz.f6),(7,Tryz.f7),(8,Tryz.f8),(9,Tryz.f9),(10,Tryz.f10),(11,Tryz.f11),(12,Tryz.f12),(13,Tryz.f13),(14,Tryz.f14),(15,Tryz.f15),(16,Tryz.f16),(17,Tryz.f17),(18,Tryz.f18),(19,Tryz.f19),(20,Tryz.f20),(21,Tryz.f21),(22,Tryz.f22),(23,Tryz.f23),(24,Tryz.f24),(25,Tryz.f25),(26,Tryz.f26),(27,Tryz.f27),(28,Tryz.f28),(29,Tryz.f29),(30,Tryz.f30),(31,Tryz.f31),(32,Tryz.f32),(33,Tryz.f33),(34,Tryz.f34),(35,Tryz.f35),(36,Tryz.f36),(37,Tryz.f37),(38,Tryz.f38),(39,Tryz.f39),(40,Tryz.f40),(41,Tryz.f41),(42,Tryz.f42),(43,Tryz.f43),(44,Tryz.f44),(45,Tryz.f45),(46,Tryz.f46),(47,Tryz.f47),(48,Tryz.f48),(49,Tryz.f49),(50,Tryz.f50),(51,Tryz.f51),(52,Tryz.f52),(53,Tryz.f53),(54,Tryz.f54),(55,Tryz.f55),(56,Tryz.f56),(57,Tryz.f57),(58,Tryz.f58),(59,Tryz.f59),(60,Tryz.f60),(61,Tryz.f61),(62,Tryz.f62),(63,Tryz.f63),(64,Tryz.f64),(65,Tryz.f65),(66,Tryz.f66),(67,Tryz.f67),(68,Tryz.f68),(69,Tryz.f69),(70,Tryz.f70),(71,Tryz.f71),(72,Tryz.f72),(73,Tryz.f73),(74,Tryz.f74),(75,Tryz.f75),(76,Tryz.f76),(77,Tryz.f77),(78,Tryz.f78),(79,Tryz.f79),(80,Tryz.f80),(81,Tryz.f81),(82,Tryz.f82),(83,Tryz.f83),(84,Tryz.f84),(85,Tryz.f85),(86,Tryz.f86),(87,Tryz.f87),(88,Tryz.f88),(89,Tryz.f89),(90,Tryz.f90),(91,Tryz.f91),(92,Tryz.f92),(93,Tryz.f93),(97,Tryz.f97),(98,Tryz.f98),(99,Tryz.f99),(100,Tryz.f100),(101,Tryz.f101),(102,Tryz.f102),(103,Tryz.f103),(104,Tryz.f104),(105,Tryz.f105),(106,Tryz.f106),(107,Tryz.f107),(108,Tryz.f108),(109,Tryz.f109),(110,Tryz.f110),(111,Tryz.f111),(112,Tryz.f112),(113,Tryz.f113),(114,Tryz.f114),(115,Tryz.f115),(116,Tryz.f116),(117,Tryz.f117),(118,Tryz.f118),(119,Tryz.f119),(120,Tryz.f120),(121,Tryz.f121),(122,Tryz.f122),(123,Tryz.f123),(124,Tryz.f124),(125,Tryz.f125),(126,Tryz.f126),(127,Tryz.f127),(128,Tryz.f128),(129,Tryz.f129),(130,Tryz.f130),(131,Tryz.f131),(132,Tryz.f132),(133,Tryz.f133),(134,Tryz.f134),(135,Tryz.f135),(136,Tryz.f136),(140,Tryz.f140),(141,Tryz.f141),(142,Tryz.f142),(143,Tryz.f143),(144,Tryz.f144),(145,Tryz.f145),(146,Tryz.f146),(147,Tryz.f147),(148,Tryz.f148),(149,Tryz.f149),(150,Tryz.f150),(151,Tryz.f151),(152,Tryz.f152),(154,Tryz.f154),(155,Tryz.f155),(156,Tryz.f156),(157,Tryz.f157),(158,Tryz.f158),(159,Tryz.f159),(160,Tryz.f160),(161,Tryz.f161),(162,Tryz.f162),(163,Tryz.f163),(164,Tryz.f164),(165,Tryz.f165),(166,Tryz.f166),(167,Tryz.f167),(168,Tryz.f168),(169,Tryz.f169),(170,Tryz.f170),(171,Tryz.f171),(172,Tryz.f172),(173,Tryz.f173),(174,Tryz.f174),(175,Tryz.f175),(176,Tryz.f176),(177,Tryz.f177),(178,Tryz.f178),(179,Tryz.f179),(180,Tryz.f180),(181,Tryz.f181),(182,Tryz.f182),(183,Tryz.f183),(184,Tryz.f184),(185,Tryz.f185),(186,Tryz.f186),(187,Tryz.f187),(188,Tryz.f188),(189,Tryz.f189),(190,Tryz.f190),(191,Tryz.f191),(192,Tryz.f192),(193,Tryz.f193),(194,Tryz.f194),(195,Tryz.f195),(196,Tryz.f196),(197,Tryz.f197),(198,Tryz.f198),(200,Tryz.f200),(201,Tryz.f201),(202,Tryz.f202),(203,Tryz.f203),(204,Tryz.f204),(205,Tryz.f205),(206,Tryz.f206),(209,Tryz.f209),(210,Tryz.f210),(211,Tryz.f211),(212,Tryz.f212),(213,Tryz.f213),(214,Tryz.f214),(215,Tryz.f215),(216,Tryz.f216),(217,Tryz.f217),(218,Tryz.f218),(219,Tryz.f219),(220,Tryz.f220),(221,Tryz.f221),(222,Tryz.f222),(223,Tryz.f223),(224,Tryz.f224),(225,Tryz.f225),(227,Tryz.f227),(229,Tryz.f229),(230,Tryz.f230),(231,Tryz.f231),(232,Tryz.f232),(233,Tryz.f233),(234,Tryz.f234),(235,Tryz.f235),(236,Tryz.f236),(237,Tryz.f237),(238,Tryz.f238),(239,Tryz.f239),(240,Tryz.f240),(241,Tryz.f241),(243,Tryz.f243),(244,Tryz.f244),(245,Tryz.f245),(246,Tryz.f246),(281,Tryz.f281),(282,Tryz.f282),(283,Tryz.f283),(284,Tryz.f284),(292,Tryz.f292)]
theorem aJR : ∀p∈fns,Tryz.prog.funcs[p.1]? =some p.2:=ab.2 ⟨Tryz.func2,ab.2 ⟨Tryz.func3,ab.2 ⟨Tryz.func4,ab.2 ⟨Tryz.func5,ab.2 ⟨Tryz.func6,ab.2 ⟨Tryz.func7,ab.2 ⟨Tryz.func8,ab.2 ⟨Tryz.func9,ab.2 ⟨Tryz.func10,ab.2 ⟨Tryz.func11,ab.2 ⟨Tryz.func12,ab.2 ⟨Tryz.func13,ab.2 ⟨Tryz.func14,ab.2 ⟨Tryz.func15,ab.2 ⟨Tryz.func16,ab.2 ⟨Tryz.func17,ab.2 ⟨Tryz.func18,ab.2 ⟨Tryz.func19,ab.2 ⟨Tryz.func20,ab.2 ⟨Tryz.func21,ab.2 ⟨Tryz.func22,ab.2 ⟨Tryz.func23,ab.2 ⟨Tryz.func24,ab.2 ⟨Tryz.func25,ab.2 ⟨Tryz.func26,ab.2 ⟨Tryz.func27,ab.2 ⟨Tryz.func28,ab.2 ⟨Tryz.func29,ab.2 ⟨Tryz.func30,ab.2 ⟨Tryz.func31,ab.2 ⟨Tryz.func32,ab.2 ⟨Tryz.func33,ab.2 ⟨Tryz.func34,ab.2 ⟨Tryz.func35,ab.2 ⟨Tryz.func36,ab.2 ⟨Tryz.func37,ab.2 ⟨Tryz.func38,ab.2 ⟨Tryz.func39,ab.2 ⟨Tryz.func40,ab.2 ⟨Tryz.func41,ab.2 ⟨Tryz.func42,ab.2 ⟨Tryz.func43,ab.2 ⟨Tryz.func44,ab.2 ⟨Tryz.func45,ab.2 ⟨Tryz.func46,ab.2 ⟨Tryz.func47,ab.2 ⟨Tryz.func48,ab.2 ⟨Tryz.func49,ab.2 ⟨Tryz.func50,ab.2 ⟨Tryz.func51,ab.2 ⟨Tryz.func52,ab.2 ⟨Tryz.func53,ab.2 ⟨Tryz.func54,ab.2 ⟨Tryz.func55,ab.2 ⟨Tryz.func56,ab.2 ⟨Tryz.func57,ab.2 ⟨Tryz.func58,ab.2 ⟨Tryz.func59,ab.2 ⟨Tryz.func60,ab.2 ⟨Tryz.func61,ab.2 ⟨Tryz.func62,ab.2 ⟨Tryz.func63,ab.2 ⟨Tryz.func64,ab.2 ⟨Tryz.func65,ab.2 ⟨Tryz.func66,ab.2 ⟨Tryz.func67,ab.2 ⟨Tryz.func68,ab.2 ⟨Tryz.func69,ab.2 ⟨Tryz.func70,ab.2 ⟨Tryz.func71,ab.2 ⟨Tryz.func72,ab.2 ⟨Tryz.func73,ab.2 ⟨Tryz.func74,ab.2 ⟨Tryz.func75,ab.2 ⟨Tryz.func76,ab.2 ⟨Tryz.func77,ab.2 ⟨Tryz.func78,ab.2 ⟨Tryz.func79,ab.2 ⟨Tryz.func80,ab.2 ⟨Tryz.func81,ab.2 ⟨Tryz.func82,ab.2 ⟨Tryz.func83,ab.2 ⟨Tryz.func84,ab.2 ⟨Tryz.func85,ab.2 ⟨Tryz.func86,ab.2 ⟨Tryz.func87,ab.2 ⟨Tryz.func88,ab.2 ⟨Tryz.func89,ab.2 ⟨Tryz.func90,ab.2 ⟨Tryz.func91,ab.2 ⟨Tryz.func92,ab.2 ⟨Tryz.func93,ab.2 ⟨Tryz.func97,ab.2 ⟨Tryz.func98,ab.2 ⟨Tryz.func99,ab.2 ⟨Tryz.func100,ab.2 ⟨Tryz.func101,ab.2 ⟨Tryz.func102,ab.2 ⟨Tryz.func103,ab.2 ⟨Tryz.func104,ab.2 ⟨Tryz.func105,ab.2 ⟨Tryz.func106,ab.2 ⟨Tryz.func107,ab.2 ⟨Tryz.func108,ab.2 ⟨Tryz.func109,ab.2 ⟨Tryz.func110,ab.2 ⟨Tryz.func111,ab.2 ⟨Tryz.func112,ab.2 ⟨Tryz.func113,ab.2 ⟨Tryz.func114,ab.2 ⟨Tryz.func115,ab.2 ⟨Tryz.func116,ab.2 ⟨Tryz.func117,ab.2 ⟨Tryz.func118,ab.2 ⟨Tryz.func119,ab.2 ⟨Tryz.func120,ab.2 ⟨Tryz.func121,ab.2 ⟨Tryz.func122,ab.2 ⟨Tryz.func123,ab.2 ⟨Tryz.func124,ab.2 ⟨Tryz.func125,ab.2 ⟨Tryz.func126,ab.2 ⟨Tryz.func127,ab.2 ⟨Tryz.func128,ab.2 ⟨Tryz.func129,ab.2 ⟨Tryz.func130,ab.2 ⟨Tryz.func131,ab.2 ⟨Tryz.func132,ab.2 ⟨Tryz.func133,ab.2 ⟨Tryz.func134,ab.2 ⟨Tryz.func135,ab.2 ⟨Tryz.func136,ab.2 ⟨Tryz.func140,ab.2 ⟨Tryz.func141,ab.2 ⟨Tryz.func142,ab.2 ⟨Tryz.func143,ab.2 ⟨Tryz.func144,ab.2 ⟨Tryz.func145,ab.2 ⟨Tryz.func146,ab.2 ⟨Tryz.func147,ab.2 ⟨Tryz.func148,ab.2 ⟨Tryz.func149,ab.2 ⟨Tryz.func150,ab.2 ⟨Tryz.func151,ab.2 ⟨Tryz.func152,ab.2 ⟨Tryz.func154,ab.2 ⟨Tryz.func155,ab.2 ⟨Tryz.func156,ab.2 ⟨Tryz.func157,ab.2 ⟨Tryz.func158,ab.2 ⟨Tryz.func159,ab.2 ⟨Tryz.func160,ab.2 ⟨Tryz.func161,ab.2 ⟨Tryz.func162,ab.2 ⟨Tryz.func163,ab.2 ⟨Tryz.func164,ab.2 ⟨Tryz.func165,ab.2 ⟨Tryz.func166,ab.2 ⟨Tryz.func167,ab.2 ⟨Tryz.func168,ab.2 ⟨Tryz.func169,ab.2 ⟨Tryz.func170,ab.2 ⟨Tryz.func171,ab.2 ⟨Tryz.func172,ab.2 ⟨Tryz.func173,ab.2 ⟨Tryz.func174,ab.2 ⟨Tryz.func175,ab.2 ⟨Tryz.func176,ab.2 ⟨Tryz.func177,ab.2 ⟨Tryz.func178,ab.2 ⟨Tryz.func179,ab.2 ⟨Tryz.func180,ab.2 ⟨Tryz.func181,ab.2 ⟨Tryz.func182,ab.2 ⟨Tryz.func183,ab.2 ⟨Tryz.func184,ab.2 ⟨Tryz.func185,ab.2 ⟨Tryz.func186,ab.2 ⟨Tryz.func187,ab.2 ⟨Tryz.func188,ab.2 ⟨Tryz.func189,ab.2 ⟨Tryz.func190,ab.2 ⟨Tryz.func191,ab.2 ⟨Tryz.func192,ab.2 ⟨Tryz.func193,ab.2 ⟨Tryz.func194,ab.2 ⟨Tryz.func195,ab.2 ⟨Tryz.func196,ab.2 ⟨Tryz.func197,ab.2 ⟨Tryz.func198,ab.2 ⟨Tryz.func200,ab.2 ⟨Tryz.func201,ab.2 ⟨Tryz.func202,ab.2 ⟨Tryz.func203,ab.2 ⟨Tryz.func204,ab.2 ⟨Tryz.func205,ab.2 ⟨Tryz.func206,ab.2 ⟨Tryz.func209,ab.2 ⟨Tryz.func210,ab.2 ⟨Tryz.func211,ab.2 ⟨Tryz.func212,ab.2 ⟨Tryz.func213,ab.2 ⟨Tryz.func214,ab.2 ⟨Tryz.func215,ab.2 ⟨Tryz.func216,ab.2 ⟨Tryz.func217,ab.2 ⟨Tryz.func218,ab.2 ⟨Tryz.func219,ab.2 ⟨Tryz.func220,ab.2 ⟨Tryz.func221,ab.2 ⟨Tryz.func222,ab.2 ⟨Tryz.func223,ab.2 ⟨Tryz.func224,ab.2 ⟨Tryz.func225,ab.2 ⟨Tryz.func227,ab.2 ⟨Tryz.func229,ab.2 ⟨Tryz.func230,ab.2 ⟨Tryz.func231,ab.2 ⟨Tryz.func232,ab.2 ⟨Tryz.func233,ab.2 ⟨Tryz.func234,ab.2 ⟨Tryz.func235,ab.2 ⟨Tryz.func236,ab.2 ⟨Tryz.func237,ab.2 ⟨Tryz.func238,ab.2 ⟨Tryz.func239,ab.2 ⟨Tryz.func240,ab.2 ⟨Tryz.func241,ab.2 ⟨Tryz.func243,ab.2 ⟨Tryz.func244,ab.2 ⟨Tryz.func245,ab.2 ⟨Tryz.func246,ab.2 ⟨Tryz.func281,ab.2 ⟨Tryz.func282,ab.2 ⟨Tryz.func283,ab.2 ⟨Tryz.func284,ab.2 ⟨Tryz.func292,fun _ h=>nomatch h⟩⟩⟩⟩⟩⟩⟩⟩⟩⟩⟩⟩⟩⟩⟩⟩⟩⟩⟩⟩⟩⟩⟩⟩⟩⟩⟩⟩⟩⟩⟩⟩⟩⟩⟩⟩⟩⟩⟩⟩⟩⟩⟩⟩⟩⟩⟩⟩⟩⟩⟩⟩⟩⟩⟩⟩⟩⟩⟩⟩⟩⟩⟩⟩⟩⟩⟩⟩⟩⟩⟩⟩⟩⟩⟩⟩⟩⟩⟩⟩⟩⟩⟩⟩⟩⟩⟩⟩⟩⟩⟩⟩⟩⟩⟩⟩⟩⟩⟩⟩⟩⟩⟩⟩⟩⟩⟩⟩⟩⟩⟩⟩⟩⟩⟩⟩⟩⟩⟩⟩⟩⟩⟩⟩⟩⟩⟩⟩⟩⟩⟩⟩⟩⟩⟩⟩⟩⟩⟩⟩⟩⟩⟩⟩⟩⟩⟩⟩⟩⟩⟩⟩⟩⟩⟩⟩⟩⟩⟩⟩⟩⟩⟩⟩⟩⟩⟩⟩⟩⟩⟩⟩⟩⟩⟩⟩⟩⟩⟩⟩⟩⟩⟩⟩⟩⟩⟩⟩⟩⟩⟩⟩⟩⟩⟩⟩⟩⟩⟩⟩⟩⟩⟩⟩⟩⟩⟩⟩⟩⟩⟩⟩⟩⟩⟩⟩⟩⟩⟩⟩⟩⟩⟩⟩⟩⟩⟩⟩⟩⟩⟩⟩⟩⟩⟩⟩⟩
theorem aE9 :fns.all (fun p=> !(p.2.name== "runtime.NumGoroutine"))=true:=by kernel_rfl
theorem aA6{k:FuncId}{fn:Func}(h:L7 fns k=some fn):(fn.name== "runtime.NumGoroutine")=false:=by
 have hin: ∀l:List (FuncId×Func),L7 l k=some fn->(k,fn)∈l:=by
  intro l
  induction l with
  |nil=>intro h;simp [L7] at h
  |cons p l ih=>
   intro h
   obtain ⟨u,j⟩:=p
   simp only [L7] at h
   cases e:Nat.beq u k with
   |true=>rw [e] at h;simp only [ar,an] at h;rw [<- h,<- ai e];exact bq ..
   |false=>rw [e] at h;exact bm _ (ih h)
 have:=gb.1 aE9 _ (hin _ h)
 simpa using this
noncomputable def tab :Tab Tryz.prog where
 tt:=aKO Tryz.prog
 ft:=L7 fns
 htt:=fun _ _ h=>gJ.of h
 hft:=fun _ _ h=>⟨aFF aJR h,aA6 h⟩
 mixed:=Tryz.checked.mixed
end Go.Proofs.YtghnfjfkjhbgdaaGreatDoor
namespace Go.Se
theorem dK(n:Int):IntKind.u64.wrap n=n%18446744073709551616:=by simp [IntKind.wrap,IntKind.bits,IntKind.signed]
theorem wu8(n:Int):IntKind.u8.wrap n=n%256:=by simp [IntKind.wrap,IntKind.bits,IntKind.signed]
theorem fK(n:Int):IntKind.i64.wrap n=(n+9223372036854775808)%18446744073709551616 - 9223372036854775808:=IntKind.wrap_i64 n
theorem kP(a:Int){b:Int}(h:0<=b):a.fdiv b=a/b:=Int.fdiv_eq_ediv_of_nonneg a h
theorem Br.of{c:Bool}{A B:Prop}(t:c=true->A)(f:c=false->B):Br c A B:=Br.mk t f
theorem MN(a:Int)(ha:0<=a)(ha':a<=18446744073709551615):(((BitVec.ofInt 64 a&&&BitVec.ofInt 64 4294967295).toNat:Nat):Int)=a%4294967296:=by
 have h:(BitVec.ofInt 64 4294967295)=BitVec.ofNat 64 (2^32 - 1):=by decide
 obtain ⟨n,rfl⟩:=fq ha
 have hn:n<2^64:=by omega
 rw [h,BitVec.toNat_and]
 have h1:(BitVec.ofInt 64 (n:Int)).toNat=n:=by
  simp
  omega
 have h2:(BitVec.ofNat 64 (2^32 - 1)).toNat=2^32 - 1:=by decide
 rw [h1,h2,Nat.and_two_pow_sub_one_eq_mod]
 omega
def wv(hi lo:Int):Int:=hi*18446744073709551616+lo
def i3(x:Int):SV:= .agg [.int .i64 (x/18446744073709551616),.int .u64 (x%18446744073709551616)]
def dG(x:Int):Bool:=decide (-170141183460469231731687303715884105728<=x)&&decide (x<170141183460469231731687303715884105728)
def gB(x y:Int):Int:=bif decide (x<y) then -1 else bif decide (y<x) then 1 else 0
def aQ(x:Int):Int:=bif decide (x<0) then -x else x
def aEM :List SV->List (Option SB)->Out
 | [.int .u64 a,.int .u64 b],[]=>some (.tup [.int .u64 (a*b/18446744073709551616),.int .u64 (a*b%18446744073709551616)],[],[])
 |_,_=>none
def cOf :List SV->List (Option SB)->Out
 | [.int .i64 a],[]=>some (i3 a,[],[])
 |_,_=>none
def YC :List SV->List (Option SB)->Out
 | [.int .i64 a,.int .i64 b],[]=>some (i3 (a*b),[],[])
 |_,_=>none
def X6 :List SV->List (Option SB)->Out
 | [.agg [.int .i64 a,.int .u64 b],.agg [.int .i64 c,.int .u64 d]],[]=>
  some (.tup [i3 (bif dG (wv a b+wv c d) then wv a b+wv c d else 0),.bool (dG (wv a b+wv c d))],[],[])
 |_,_=>none
def ZZ :List SV->List (Option SB)->Out
 | [.agg [.int .i64 a,.int .u64 b]],[]=>some (.tup [i3 (bif dG (-wv a b) then -wv a b else 0),.bool (dG (-wv a b))],[],[])
 |_,_=>none
def aLA :List SV->List (Option SB)->Out
 | [.agg [.int .i64 a,.int .u64 b],.agg [.int .i64 c,.int .u64 d]],[]=>some (.int .i64 (gB (wv a b) (wv c d)),[],[])
 |_,_=>none
def aBL :List SV->List (Option SB)->Out
 | [.agg [.int .i64 a,.int .u64 b]],[]=>
  some (.tup [.agg [.int .u64 (aQ (wv a b)/18446744073709551616),.int .u64 (aQ (wv a b)%18446744073709551616)],.bool (decide (wv a b<0))],[],[])
 |_,_=>none
def aCb :List SV->List (Option SB)->Out
 | [.agg [.int .u64 a,.int .u64 b],.agg [.int .u64 c,.int .u64 d]],[]=>some (.bool (decide (wv a b<wv c d)),[],[])
 |_,_=>none
def sE(k:IntKind):List SV->List (Option SB)->Out
 | [.int j a,.int l b],[]=>bif decide (j=k)&&decide (l=k) then some (.int .i64 (gB a b),[],[]) else none
 |_,_=>none
theorem qX{hi lo x:Int}(h:hi*18446744073709551616+lo=x)(h0:0<=lo)(h1:lo<18446744073709551616):
  (SV.agg [.int .i64 hi,.int .u64 lo])=i3 x:=by
 unfold i3
 rw [show hi=x/18446744073709551616 by omega,show lo=x%18446744073709551616 by omega]
theorem tE(x:Int):wv (x/18446744073709551616) (x%18446744073709551616)=x:=by unfold wv;omega
theorem aCD {a b:Int} (ha:0<=a) (ha':a<=18446744073709551615) (hb:0<=b) (hb':b<=18446744073709551615)
  {p q r s:Int} (hp:p=a/4294967296*(b/4294967296)) (hq:q=a/4294967296*(b%4294967296)) (hr:r=a%4294967296*(b/4294967296)) (hs:s=a%4294967296*(b%4294967296)):
  a*b=p*18446744073709551616+(q+r)*4294967296+s/\0<=p/\p<=4294967295*4294967295/\0<=q/\q<=4294967295*4294967295/\0<=r/\r<=4294967295*4294967295/\0<=s/\s<=4294967295*4294967295:=by
 have hA:a=a/4294967296*4294967296+a%4294967296:=by omega
 have hB:b=b/4294967296*4294967296+b%4294967296:=by omega
 have hx:0<=a/4294967296/\a/4294967296<=4294967295:=by omega
 have hy:0<=a%4294967296/\a%4294967296<=4294967295:=by omega
 have hz:0<=b/4294967296/\b/4294967296<=4294967295:=by omega
 have ht:0<=b%4294967296/\b%4294967296<=4294967295:=by omega
 generalize a/4294967296=x at*
 generalize a%4294967296=y at*
 generalize b/4294967296=z at*
 generalize b%4294967296=t at*
 refine ⟨?_, ?_⟩
 ·rw [hA,hB,hp,hq,hr,hs]
  grind
 ·subst hp;subst hq;subst hr;subst hs
  exact ⟨fc hx.1 hz.1,ga hx.2 hz.2 hz.1 (by omega),fc hx.1 ht.1,ga hx.2 ht.2 ht.1 (by omega),
   fc hy.1 hz.1,ga hy.2 hz.2 hz.1 (by omega),fc hy.1 ht.1,ga hy.2 ht.2 ht.1 (by omega)⟩
theorem rU{a b:Int}(ha: -9223372036854775808<=a)(ha':a<=9223372036854775807)(hb: -9223372036854775808<=b)(hb':b<=9223372036854775807):
  -85070591730234615865843651857942052864<=a*b/\a*b<=85070591730234615865843651857942052864:=by
 have h:(a*b).natAbs<=9223372036854775808*9223372036854775808:=by
  rw [Int.natAbs_mul]
  exact Nat.mul_le_mul (by omega) (by omega)
 omega
end Go.Se
namespace Go.Proofs.YtghnfjfkjhbgdaaGreatDoor
open Go.Se
noncomputable def k0 :bT Tryz.prog:=((bT.none Tryz.prog).add 207 aDn (aAh Tryz.func207 (by kernel_rfl) (by kernel_rfl) (by kernel_rfl) (by kernel_rfl))).add 208 aFl (YI Tryz.func208 (by kernel_rfl) (by kernel_rfl) (by kernel_rfl) (by kernel_rfl))
set_option maxRecDepth 100000
noncomputable abbrev run(B:bT Tryz.prog)(n:Nat)(k:FuncId)(xs:List SV)(σ:List (Option SB))(K:KC):Prop:=
 calls (tab.env B (fun _=>0) (fun _=>false)) (aA []) B.dom n k xs σ K
theorem aS (B:bT Tryz.prog) (n:Nat) {k:FuncId} {xs:List SV} {σ:List (Option SB)} {v:SV} {σ':List (Option SB)} {d:List Nat}
  (h:okL xs->okS σ-> ∀K:KC,K v σ' d->run B n k xs σ K):aE Tryz.prog k xs σ v σ' d:=uD (R:=[]) tab B fun h1 h2=>h h1 h2 _ ⟨rfl,rfl,rfl⟩
noncomputable abbrev kC(u:Nat)(B:bT Tryz.prog)(n:Nat)(k:FuncId)(xs:List SV)(σ:List (Option SB))(K:KC):Prop:=
 calls (tab.env B (fun _=>u) (fun _=>false)) (aA []) B.dom n k xs σ K
theorem dT (u:Nat) (B:bT Tryz.prog) (n:Nat) {k:FuncId} {xs:List SV} {σ:List (Option SB)} {v:SV} {σ':List (Option SB)} {d:List Nat}
  (h:okL xs->okS σ-> ∀K:KC,K v σ' d->kC u B n k xs σ K):aE Tryz.prog k xs σ v σ' d:=uD (R:=[]) tab B fun h1 h2=>h h1 h2 _ ⟨rfl,rfl,rfl⟩
theorem fin{K:KC}{v v':SV}{σ:List (Option SB)}{d:List Nat}(h:K v σ d)(e:v'=v):K v' σ d:=e▸h
def m32(x:Int):Int:=IntKind.u64.wrap ↑(BitVec.ofInt IntKind.u64.bits x&&&BitVec.ofInt IntKind.u64.bits 4294967295).toNat
def aDf(a b:Int):Int:=IntKind.u64.wrap (IntKind.u64.wrap (a.fdiv 4294967296*m32 b)+(IntKind.u64.wrap (m32 a*m32 b)).fdiv 4294967296)
def aDq(a b:Int):Int:=IntKind.u64.wrap (IntKind.u64.wrap (IntKind.u64.wrap (a.fdiv 4294967296*b.fdiv 4294967296)+(aDf a b).fdiv 4294967296)+(IntKind.u64.wrap (m32 (aDf a b)+IntKind.u64.wrap (m32 a*b.fdiv 4294967296))).fdiv 4294967296)
theorem aEe{a b:Int}(ha:0<=a)(ha':a<=18446744073709551615)(hb:0<=b)(hb':b<=18446744073709551615):aDq a b=a*b/18446744073709551616:=by
 have hm: ∀x:Int,0<=x->x<=18446744073709551615->m32 x=x%4294967296:=fun x h h'=>by
  unfold m32;rw [dK];show (((BitVec.ofInt 64 x&&&BitVec.ofInt 64 4294967295).toNat:Nat):Int)%_=_
  rw [MN x h h'];omega
 obtain ⟨h0,h1,h2,h3,h4,h5,h6,h7,h8⟩:=aCD ha ha' hb hb' rfl rfl rfl rfl
 have hf: ∀x:Int,x.fdiv 4294967296=x/4294967296:=fun x=>kP x (by decide)
 have hT:aDf a b=a/4294967296*(b%4294967296)+(a%4294967296*(b%4294967296))/4294967296:=by
  unfold aDf
  rw [hm a ha ha',hm b hb hb']
  simp only [dK,hf]
  omega
 unfold aDq
 rw [hm a ha ha',hm (aDf a b) (by rw [hT];omega) (by rw [hT];omega)]
 simp only [dK,hf]
 rw [hT]
 generalize a/4294967296*(b/4294967296)=p at*
 generalize a/4294967296*(b%4294967296)=q at*
 generalize a%4294967296*(b/4294967296)=r at*
 generalize a%4294967296*(b%4294967296)=s at*
 omega
theorem jB(a b:Int):aE Tryz.prog 194 [.int .u64 a,.int .u64 b] [] (.tup [.int .u64 (a*b/18446744073709551616),.int .u64 (a*b%18446744073709551616)]) [] []:=
 aS k0 2 fun ⟨ha,hb,_⟩ _ K hK=>by
  have e: ∀K,run k0 2 194 [.int .u64 a,.int .u64 b] [] K=K (.tup [.int .u64 (aDq a b),.int .u64 (IntKind.u64.wrap (a*b))]) [] []:=fun K=>by kernel_rfl
  rw [e,aEe ha.1 ha.2 hb.1 hb.2,dK]
  exact hK
theorem uH(a:Int):aE Tryz.prog 170 [.int .i64 a] [] (i3 a) [] []:=
 aS k0 2 fun ⟨ha,_⟩ _ K hK=>by
  have e: ∀K,run k0 2 170 [.int .i64 a] [] K=K (.agg [.int .i64 (a.fdiv 9223372036854775808),.int .u64 (IntKind.u64.wrap a)]) [] []:=fun K=>by kernel_rfl
  have ha': -9223372036854775808<=a/\a<=9223372036854775807:=ha
  rw [e,dK,kP _ (by decide)]
  exact fin hK (qX (by omega) (by omega) (by omega))
noncomputable def k1 :bT Tryz.prog:=((k0).add 194 (one aEM) (aT fun xs σ v σ' d h=>by
  unfold aEM at h;split at h<;>cases h;first|exact jB|exact jB _|exact jB _ _|exact jB _ _ _|exact jB _ _ _ _|exact jB _ _ _ _ _|exact jB _ _ _ _ _ _|exact jB _ _ _ _ _ _ _|exact jB _ _ _ _ _ _ _ _|exact jB _ _ _ _ _ _ _ _ _|exact jB _ _ _ _ _ _ _ _ _ _|exact jB _ _ _ _ _ _ _ _ _ _ _)).add 170 (one cOf) (aT fun xs σ v σ' d h=>by
  unfold cOf at h;split at h<;>cases h;first|exact uH|exact uH _|exact uH _ _|exact uH _ _ _|exact uH _ _ _ _|exact uH _ _ _ _ _|exact uH _ _ _ _ _ _|exact uH _ _ _ _ _ _ _|exact uH _ _ _ _ _ _ _ _|exact uH _ _ _ _ _ _ _ _ _|exact uH _ _ _ _ _ _ _ _ _ _|exact uH _ _ _ _ _ _ _ _ _ _ _)
theorem dE(a b:Int):aE Tryz.prog 151 [.int .i64 a,.int .i64 b] [] (i3 (a*b)) [] []:=
 aS k1 2 fun ⟨ha,hb,_⟩ _ K hK=>by
  have ha': -9223372036854775808<=a/\a<=9223372036854775807:=ha
  have hb': -9223372036854775808<=b/\b<=9223372036854775807:=hb
  have e: ∀K,run k1 2 151 [.int .i64 a,.int .i64 b] [] K=
   Br (decide (a<0))
    (Br (decide (b<0))
     (K (.agg [.int .i64 (IntKind.i64.wrap (IntKind.u64.wrap (IntKind.u64.wrap (IntKind.u64.wrap a*IntKind.u64.wrap b/18446744073709551616 - IntKind.u64.wrap b) - IntKind.u64.wrap a))),.int .u64 (IntKind.u64.wrap a*IntKind.u64.wrap b%18446744073709551616)]) [] [])
     (K (.agg [.int .i64 (IntKind.i64.wrap (IntKind.u64.wrap (IntKind.u64.wrap a*IntKind.u64.wrap b/18446744073709551616 - IntKind.u64.wrap b))),.int .u64 (IntKind.u64.wrap a*IntKind.u64.wrap b%18446744073709551616)]) [] []))
    (Br (decide (b<0))
     (K (.agg [.int .i64 (IntKind.i64.wrap (IntKind.u64.wrap (IntKind.u64.wrap a*IntKind.u64.wrap b/18446744073709551616 - IntKind.u64.wrap a))),.int .u64 (IntKind.u64.wrap a*IntKind.u64.wrap b%18446744073709551616)]) [] [])
     (K (.agg [.int .i64 (IntKind.i64.wrap (IntKind.u64.wrap a*IntKind.u64.wrap b/18446744073709551616)),.int .u64 (IntKind.u64.wrap a*IntKind.u64.wrap b%18446744073709551616)]) [] [])):=fun K=>by kernel_rfl
  rw [e]
  simp only [dK,fK]
  have hp1:(a+18446744073709551616)*(b+18446744073709551616)=a*b+(a+b)*18446744073709551616+340282366920938463463374607431768211456:=by grind
  have hp2:(a+18446744073709551616)*b=a*b+b*18446744073709551616:=by grind
  have hp3:a*(b+18446744073709551616)=a*b+a*18446744073709551616:=by grind
  have hr: -85070591730234615865843651857942052864<=a*b/\a*b<=85070591730234615865843651857942052864:=rU ha'.1 ha'.2 hb'.1 hb'.2
  have hn: ∀x:Int,-9223372036854775808<=x->x<=9223372036854775807->x<0->x%18446744073709551616=x+18446744073709551616:=fun x _ _ _=>by omega
  have hq: ∀x:Int,-9223372036854775808<=x->x<=9223372036854775807-> ¬x<0->x%18446744073709551616=x:=fun x _ _ _=>by omega
  refine Br.of (fun h1=>Br.of (fun h2=> ?_) fun h2=> ?_) fun h1=>Br.of (fun h2=> ?_) fun h2=> ?_
  ·have h1':=aa h1
   have h2':=aa h2
   rw [hn a ha'.1 ha'.2 h1',hn b hb'.1 hb'.2 h2',hp1]
   exact fin hK (qX (by omega) (by omega) (by omega))
  ·have h1':=aa h1
   have h2':=ae h2
   rw [hn a ha'.1 ha'.2 h1',hq b hb'.1 hb'.2 h2',hp2]
   exact fin hK (qX (by omega) (by omega) (by omega))
  ·have h1':=ae h1
   have h2':=aa h2
   rw [hq a ha'.1 ha'.2 h1',hn b hb'.1 hb'.2 h2',hp3]
   exact fin hK (qX (by omega) (by omega) (by omega))
  ·have h1':=ae h1
   have h2':=ae h2
   rw [hq a ha'.1 ha'.2 h1',hq b hb'.1 hb'.2 h2']
   exact fin hK (qX (by omega) (by omega) (by omega))
theorem dD(a b c d:Int):aE Tryz.prog 169 [.agg [.int .i64 a,.int .u64 b],.agg [.int .i64 c,.int .u64 d]] []
  (.tup [i3 (bif dG (wv a b+wv c d) then wv a b+wv c d else 0),.bool (dG (wv a b+wv c d))]) [] []:=
 aS k1 2 fun ⟨⟨ha,hb,_⟩,⟨hc,hd,_⟩,_⟩ _ K hK=>by
  have ha': -9223372036854775808<=a/\a<=9223372036854775807:=ha
  have hb':0<=b/\b<=18446744073709551615:=hb
  have hc': -9223372036854775808<=c/\c<=9223372036854775807:=hc
  have hd':0<=d/\d<=18446744073709551615:=hd
  have e: ∀K,run k1 2 169 [.agg [.int .i64 a,.int .u64 b],.agg [.int .i64 c,.int .u64 d]] [] K=
   If (decide (0<=(b+d+0)/18446744073709551616)&&decide ((b+d+0)/18446744073709551616<=1))
    (Br (decide (a<0)==decide (c<0))
     (Br (!(decide (IntKind.i64.wrap ((IntKind.u64.wrap a+IntKind.u64.wrap c+(b+d+0)/18446744073709551616)%18446744073709551616)<0)==decide (a<0)))
      (K (.tup [.agg [.int .i64 0,.int .u64 0],.bool false]) [] [])
      (K (.tup [.agg [.int .i64 (IntKind.i64.wrap ((IntKind.u64.wrap a+IntKind.u64.wrap c+(b+d+0)/18446744073709551616)%18446744073709551616)),.int .u64 ((b+d+0)%18446744073709551616)],.bool true]) [] []))
     (K (.tup [.agg [.int .i64 (IntKind.i64.wrap ((IntKind.u64.wrap a+IntKind.u64.wrap c+(b+d+0)/18446744073709551616)%18446744073709551616)),.int .u64 ((b+d+0)%18446744073709551616)],.bool true]) [] [])):=fun K=>by kernel_rfl
  rw [e]
  have hcar:(decide (0<=(b+d+0)/18446744073709551616)&&decide ((b+d+0)/18446744073709551616<=1))=true:=by
   simp only [af,ak];omega
  refine If.mk hcar ?_
  simp only [dK,fK]
  have hin:dG (wv a b+wv c d)=true↔ -170141183460469231731687303715884105728<=wv a b+wv c d/\wv a b+wv c d<170141183460469231731687303715884105728:=by
   unfold dG;simp only [af,ak]
  unfold wv at*
  refine Br.of (fun h1=>Br.of (fun h2=> ?_) fun h2=> ?_) fun h1=> ?_
  ·have hno:dG (a*18446744073709551616+b+(c*18446744073709551616+d))=false:=by
    cases hh:dG (a*18446744073709551616+b+(c*18446744073709551616+d)) with
    |false=>rfl
    |true=>
     exfalso
     have h3:=hin.1 hh
     simp only [ci,dw] at h1
     simp only [dg,ck,ne_eq,dw] at h2
     omega
   rw [hno] at hK
   exact hK
  ·have hyes:dG (a*18446744073709551616+b+(c*18446744073709551616+d))=true:=by
    refine hin.2 ?_
    simp only [ci,dw] at h1
    simp only [dr,ci,dw] at h2
    omega
   have h3:=hin.1 hyes
   rw [hyes] at hK
   refine fin hK ?_
   rw [qX (x:=a*18446744073709551616+b+(c*18446744073709551616+d)) (by omega) (by omega) (by omega)];rfl
  ·have hyes:dG (a*18446744073709551616+b+(c*18446744073709551616+d))=true:=by
    refine hin.2 ?_
    simp only [ck,ne_eq,dw] at h1
    omega
   have h3:=hin.1 hyes
   rw [hyes] at hK
   refine fin hK ?_
   rw [qX (x:=a*18446744073709551616+b+(c*18446744073709551616+d)) (by omega) (by omega) (by omega)];rfl
theorem dC(a b:Int):aE Tryz.prog 171 [.agg [.int .i64 a,.int .u64 b]] []
  (.tup [i3 (bif dG (-wv a b) then -wv a b else 0),.bool (dG (-wv a b))]) [] []:=
 aS k1 2 fun ⟨⟨ha,hb,_⟩,_⟩ _ K hK=>by
  have ha': -9223372036854775808<=a/\a<=9223372036854775807:=ha
  have hb':0<=b/\b<=18446744073709551615:=hb
  have e: ∀K,run k1 2 171 [.agg [.int .i64 a,.int .u64 b]] [] K=
   If (decide ((0:Int)<=bif decide (0<b+0) then 1 else 0)&&decide ((bif decide (0<b+0) then 1 else 0)<=(1:Int)))
    (Br (decide (a<0))
     (Br (decide (IntKind.i64.wrap ((0 - IntKind.u64.wrap a - bif decide (0<b+0) then 1 else 0)%18446744073709551616)<0))
      (K (.tup [.agg [.int .i64 0,.int .u64 0],.bool false]) [] [])
      (K (.tup [.agg [.int .i64 (IntKind.i64.wrap ((0 - IntKind.u64.wrap a - bif decide (0<b+0) then 1 else 0)%18446744073709551616)),.int .u64 ((0 - b - 0)%18446744073709551616)],.bool true]) [] []))
     (K (.tup [.agg [.int .i64 (IntKind.i64.wrap ((0 - IntKind.u64.wrap a - bif decide (0<b+0) then 1 else 0)%18446744073709551616)),.int .u64 ((0 - b - 0)%18446744073709551616)],.bool true]) [] [])):=fun K=>by kernel_rfl
  rw [e]
  simp only [dK,fK]
  have hin:dG (-wv a b)=true↔ -170141183460469231731687303715884105728<=  -wv a b/\  -wv a b<170141183460469231731687303715884105728:=by
   unfold dG;simp only [af,ak]
  unfold wv at*
  obtain ⟨c,hc,hcb⟩: ∃c:Int,(bif decide (0<b+0) then 1 else 0)=c/\((b=0/\c=0)\/(0<b/\c=1)):=by
   by_cases h:0<b+0
   ·exact ⟨1,by rw [ao h];rfl,.inr ⟨by omega,rfl⟩⟩
   ·exact ⟨0,by rw [aj h];rfl,.inl ⟨by omega,rfl⟩⟩
  rw [hc]
  refine If.mk (by simp only [af,ak];omega) ?_
  have hfin:dG (-(a*18446744073709551616+b))=true->K (.tup [.agg [.int .i64 (((0 - a%18446744073709551616 - c)%18446744073709551616+9223372036854775808)%18446744073709551616 - 9223372036854775808),.int .u64 ((0 - b - 0)%18446744073709551616)],.bool true]) [] []:=by
   intro hyes
   have h3:=hin.1 hyes
   rw [hyes] at hK
   refine fin hK ?_
   rw [qX (x:= -(a*18446744073709551616+b)) (by omega) (by omega) (by omega)];rfl
  refine Br.of (fun h1=>Br.of (fun h2=> ?_) fun h2=> ?_) fun h1=> ?_
  ·have hno:dG (-(a*18446744073709551616+b))=false:=by
    cases hh:dG (-(a*18446744073709551616+b)) with
    |false=>rfl
    |true=>
     exfalso
     have h3:=hin.1 hh
     simp only [ak] at h1 h2
     omega
   rw [hno] at hK
   exact hK
  ·simp only [ak,aw] at h1 h2
   exact hfin (hin.2 (by omega))
  ·simp only [aw] at h1
   exact hfin (hin.2 (by omega))
theorem jP(a b:Int):aE Tryz.prog 192 [.agg [.int .i64 a,.int .u64 b]] []
  (.tup [.agg [.int .u64 (aQ (wv a b)/18446744073709551616),.int .u64 (aQ (wv a b)%18446744073709551616)],.bool (decide (wv a b<0))]) [] []:=
 aS k1 2 fun ⟨⟨ha,hb,_⟩,_⟩ _ K hK=>by
  have ha': -9223372036854775808<=a/\a<=9223372036854775807:=ha
  have hb':0<=b/\b<=18446744073709551615:=hb
  have e: ∀K,run k1 2 192 [.agg [.int .i64 a,.int .u64 b]] [] K=
   Br (decide (a>=0))
    (K (.tup [.agg [.int .u64 (IntKind.u64.wrap a),.int .u64 b],.bool false]) [] [])
    (If (decide ((0:Int)<=bif decide (0<b+0) then 1 else 0)&&decide ((bif decide (0<b+0) then 1 else 0)<=(1:Int)))
     (K (.tup [.agg [.int .u64 ((0 - IntKind.u64.wrap a - bif decide (0<b+0) then 1 else 0)%18446744073709551616),.int .u64 ((0 - b - 0)%18446744073709551616)],.bool true]) [] [])):=fun K=>by kernel_rfl
  rw [e]
  simp only [dK]
  obtain ⟨c,hc,hcb⟩: ∃c:Int,(bif decide (0<b+0) then 1 else 0)=c/\((b=0/\c=0)\/(0<b/\c=1)):=by
   by_cases h:0<b+0
   ·exact ⟨1,by rw [ao h];rfl,.inr ⟨by omega,rfl⟩⟩
   ·exact ⟨0,by rw [aj h];rfl,.inl ⟨by omega,rfl⟩⟩
  rw [hc]
  refine Br.of (fun h1=> ?_) fun h1=>If.mk (by simp only [af,ak];omega) ?_
  ·simp only [ak] at h1
   have hn:decide (wv a b<0)=false:=aj (by unfold wv;omega)
   unfold aQ at hK
   rw [hn] at hK
   simp only [ap] at hK
   unfold wv at hK
   refine fin hK ?_
   rw [show a%18446744073709551616=(a*18446744073709551616+b)/18446744073709551616 by omega,show b=(a*18446744073709551616+b)%18446744073709551616 by omega]
   congr 6<;>omega
  ·simp only [aw] at h1
   have hn:decide (wv a b<0)=true:=ao (by unfold wv;omega)
   unfold aQ at hK
   rw [hn] at hK
   simp only [ar] at hK
   unfold wv at hK
   refine fin hK ?_
   rw [show (0 - a%18446744073709551616 - c)%18446744073709551616=(-(a*18446744073709551616+b))/18446744073709551616 by omega,show (0 - b - 0)%18446744073709551616=(-(a*18446744073709551616+b))%18446744073709551616 by omega]
theorem jM(a b c d:Int):aE Tryz.prog 217 [.agg [.int .u64 a,.int .u64 b],.agg [.int .u64 c,.int .u64 d]] []
  (.bool (decide (wv a b<wv c d))) [] []:=
 aS k1 2 fun ⟨⟨ha,hb,_⟩,⟨hc,hd,_⟩,_⟩ _ K hK=>by
  have ha':0<=a/\a<=18446744073709551615:=ha
  have hb':0<=b/\b<=18446744073709551615:=hb
  have hc':0<=c/\c<=18446744073709551615:=hc
  have hd':0<=d/\d<=18446744073709551615:=hd
  have e: ∀K,run k1 2 217 [.agg [.int .u64 a,.int .u64 b],.agg [.int .u64 c,.int .u64 d]] [] K=
   Br (decide (a<c)) (K (.bool true) [] []) (Br (a==c) (K (.bool (decide (b<d))) [] []) (K (.bool false) [] [])):=fun K=>by kernel_rfl
  rw [e]
  unfold wv at hK
  refine Br.of (fun h1=> ?_) fun h1=>Br.of (fun h2=> ?_) fun h2=> ?_<;>simp only [ak,aw,ci,ck,ne_eq] at h1<;>(try simp only [ci,ck,ne_eq] at h2)<;>refine fin hK (congrArg SV.bool ?_)
  ·exact (ao (by omega)).symm
  ·exact dw.2 (by omega)
  ·exact (aj (by omega)).symm
theorem QM(a b:Int):aE Tryz.prog 216 [.int .i64 a,.int .i64 b] [] (.int .i64 (gB a b)) [] []:=
 aS k1 3 fun _ _ K hK=>by
  have e: ∀K,run k1 3 216 [.int .i64 a,.int .i64 b] [] K=
   Br (a !=a) (Br (b !=b) (K (.int .i64 0) [] []) (K (.int .i64 (-1)) [] [])) (Br (b !=b) (K (.int .i64 1) [] [])
    (Br (decide (a<b)) (K (.int .i64 (-1)) [] []) (Br (decide (a>b)) (K (.int .i64 1) [] []) (K (.int .i64 0) [] [])))):=fun K=>by kernel_rfl
  rw [e]
  unfold gB at hK
  refine Br.of (fun h=>by simp at h) fun _=>Br.of (fun h=>by simp at h) fun _=>Br.of (fun h=> ?_) fun h=>Br.of (fun h2=> ?_) fun h2=> ?_
  ·rw [h] at hK;exact hK
  ·rw [h,show decide (b<a)=true from h2] at hK;exact hK
  ·rw [h,show decide (b<a)=false from h2] at hK;exact hK
theorem N5(a b:Int):aE Tryz.prog 219 [.int .u64 a,.int .u64 b] [] (.int .i64 (gB a b)) [] []:=
 aS k1 3 fun _ _ K hK=>by
  have e: ∀K,run k1 3 219 [.int .u64 a,.int .u64 b] [] K=
   Br (a !=a) (Br (b !=b) (K (.int .i64 0) [] []) (K (.int .i64 (-1)) [] [])) (Br (b !=b) (K (.int .i64 1) [] [])
    (Br (decide (a<b)) (K (.int .i64 (-1)) [] []) (Br (decide (a>b)) (K (.int .i64 1) [] []) (K (.int .i64 0) [] [])))):=fun K=>by kernel_rfl
  rw [e]
  unfold gB at hK
  refine Br.of (fun h=>by simp at h) fun _=>Br.of (fun h=>by simp at h) fun _=>Br.of (fun h=> ?_) fun h=>Br.of (fun h2=> ?_) fun h2=> ?_
  ·rw [h] at hK;exact hK
  ·rw [h,show decide (b<a)=true from h2] at hK;exact hK
  ·rw [h,show decide (b<a)=false from h2] at hK;exact hK
theorem KF(xs:List SV)(σ:List (Option SB)):Sat Tryz.prog 216 xs σ (one (sE .i64) xs σ):=
 aT (fun xs σ v σ' d h=>by
  unfold sE at h;split at h
  ·rename_i j a l b
   cases hj:decide (j= .i64)<;>cases hl:decide (l= .i64)<;>rw [hj,hl] at h<;>simp at h
   obtain ⟨rfl,rfl,rfl⟩:=h
   rw [aa hj,aa hl];exact QM _ _
  ·cases h) xs σ
theorem MD(xs:List SV)(σ:List (Option SB)):Sat Tryz.prog 219 xs σ (one (sE .u64) xs σ):=
 aT (fun xs σ v σ' d h=>by
  unfold sE at h;split at h
  ·rename_i j a l b
   cases hj:decide (j= .u64)<;>cases hl:decide (l= .u64)<;>rw [hj,hl] at h<;>simp at h
   obtain ⟨rfl,rfl,rfl⟩:=h
   rw [aa hj,aa hl];exact N5 _ _
  ·cases h) xs σ
noncomputable def k2 :bT Tryz.prog:=((k1).add 216 (one (sE .i64)) KF).add 219 (one (sE .u64)) MD
def cOr :List SV->List (Option SB)->Out
 | [.arr 0 0 2 2],[some (.cells t [.int .i64 a,.int .i64 b])]=>some (.int .i64 (bif a !=0 then a else b),[some (.cells t [.int .i64 a,.int .i64 b])],[])
 |_,_=>none
theorem uB(t:TypeId)(a b:Int):aE Tryz.prog 218 [.arr 0 0 2 2] [some (.cells t [.int .i64 a,.int .i64 b])] (.int .i64 (bif a !=0 then a else b)) [some (.cells t [.int .i64 a,.int .i64 b])] []:=
 dT 3 k2 2 fun _ _ K hK=>by
  have e: ∀K,kC 3 k2 2 218 [.arr 0 0 2 2] [some (.cells t [.int .i64 a,.int .i64 b])] K=
   Br (a !=0) (K (.int .i64 a) [some (.cells t [.int .i64 a,.int .i64 b])] [])
    (Br (b !=0) (K (.int .i64 b) [some (.cells t [.int .i64 a,.int .i64 b])] []) (K (.int .i64 0) [some (.cells t [.int .i64 a,.int .i64 b])] [])):=fun K=>by kernel_rfl
  rw [e]
  refine Br.of (fun h=> ?_) fun h=>Br.of (fun h2=> ?_) fun h2=> ?_<;>rw [h] at hK
  ·exact hK
  ·exact hK
  ·have:b=0:=by simpa using h2
   subst this;exact hK
noncomputable def k3 :bT Tryz.prog:=((((((k2).add 218 (one cOr) (aT fun xs σ v σ' d h=>by
  unfold cOr at h;split at h<;>cases h;first|exact uB|exact uB _|exact uB _ _|exact uB _ _ _|exact uB _ _ _ _|exact uB _ _ _ _ _|exact uB _ _ _ _ _ _|exact uB _ _ _ _ _ _ _|exact uB _ _ _ _ _ _ _ _|exact uB _ _ _ _ _ _ _ _ _|exact uB _ _ _ _ _ _ _ _ _ _|exact uB _ _ _ _ _ _ _ _ _ _ _)).add 151 (one YC) (aT fun xs σ v σ' d h=>by
  unfold YC at h;split at h<;>cases h;first|exact dE|exact dE _|exact dE _ _|exact dE _ _ _|exact dE _ _ _ _|exact dE _ _ _ _ _|exact dE _ _ _ _ _ _|exact dE _ _ _ _ _ _ _|exact dE _ _ _ _ _ _ _ _|exact dE _ _ _ _ _ _ _ _ _|exact dE _ _ _ _ _ _ _ _ _ _|exact dE _ _ _ _ _ _ _ _ _ _ _)).add 169 (one X6) (aT fun xs σ v σ' d h=>by
  unfold X6 at h;split at h<;>cases h;first|exact dD|exact dD _|exact dD _ _|exact dD _ _ _|exact dD _ _ _ _|exact dD _ _ _ _ _|exact dD _ _ _ _ _ _|exact dD _ _ _ _ _ _ _|exact dD _ _ _ _ _ _ _ _|exact dD _ _ _ _ _ _ _ _ _|exact dD _ _ _ _ _ _ _ _ _ _|exact dD _ _ _ _ _ _ _ _ _ _ _)).add 171 (one ZZ) (aT fun xs σ v σ' d h=>by
  unfold ZZ at h;split at h<;>cases h;first|exact dC|exact dC _|exact dC _ _|exact dC _ _ _|exact dC _ _ _ _|exact dC _ _ _ _ _|exact dC _ _ _ _ _ _|exact dC _ _ _ _ _ _ _|exact dC _ _ _ _ _ _ _ _|exact dC _ _ _ _ _ _ _ _ _|exact dC _ _ _ _ _ _ _ _ _ _|exact dC _ _ _ _ _ _ _ _ _ _ _)).add 192 (one aBL) (aT fun xs σ v σ' d h=>by
  unfold aBL at h;split at h<;>cases h;first|exact jP|exact jP _|exact jP _ _|exact jP _ _ _|exact jP _ _ _ _|exact jP _ _ _ _ _|exact jP _ _ _ _ _ _|exact jP _ _ _ _ _ _ _|exact jP _ _ _ _ _ _ _ _|exact jP _ _ _ _ _ _ _ _ _|exact jP _ _ _ _ _ _ _ _ _ _|exact jP _ _ _ _ _ _ _ _ _ _ _)).add 217 (one aCb) (aT fun xs σ v σ' d h=>by
  unfold aCb at h;split at h<;>cases h;first|exact jM|exact jM _|exact jM _ _|exact jM _ _ _|exact jM _ _ _ _|exact jM _ _ _ _ _|exact jM _ _ _ _ _ _|exact jM _ _ _ _ _ _ _|exact jM _ _ _ _ _ _ _ _|exact jM _ _ _ _ _ _ _ _ _|exact jM _ _ _ _ _ _ _ _ _ _|exact jM _ _ _ _ _ _ _ _ _ _ _)
theorem oP(a b c d:Int):aE Tryz.prog 191 [.agg [.int .i64 a,.int .u64 b],.agg [.int .i64 c,.int .u64 d]] [] (.int .i64 (gB (wv a b) (wv c d))) [] []:=
 aS k3 2 fun ⟨⟨ha,hb,_⟩,⟨hc,hd,_⟩,_⟩ _ K hK=>by
  have hb':0<=b/\b<=18446744073709551615:=hb
  have hd':0<=d/\d<=18446744073709551615:=hd
  have e: ∀K,run k3 2 191 [.agg [.int .i64 a,.int .u64 b],.agg [.int .i64 c,.int .u64 d]] [] K=
   K (.int .i64 (bif gB a c !=0 then gB a c else gB b d)) [] []:=fun K=>by kernel_rfl
  rw [e]
  refine fin hK (congrArg (SV.int .i64) ?_)
  unfold gB wv
  by_cases h1:a<c
  ·rw [ao h1,ao (show a*18446744073709551616+b<c*18446744073709551616+d by omega)];rfl
  ·by_cases h2:c<a
   ·rw [aj h1,ao h2,aj (show¬a*18446744073709551616+b<c*18446744073709551616+d by omega),ao (show c*18446744073709551616+d<a*18446744073709551616+b by omega)];rfl
   ·have:a=c:=by omega
    subst this
    rw [aj h1,dw.2 (show a*18446744073709551616+b<a*18446744073709551616+d↔b<d by omega),dw.2 (show a*18446744073709551616+d<a*18446744073709551616+b↔d<b by omega)];rfl
noncomputable def k4 :bT Tryz.prog:=(k3).add 191 (one aLA) (aT fun xs σ v σ' d h=>by
  unfold aLA at h;split at h<;>cases h;first|exact oP|exact oP _|exact oP _ _|exact oP _ _ _|exact oP _ _ _ _|exact oP _ _ _ _ _|exact oP _ _ _ _ _ _|exact oP _ _ _ _ _ _ _|exact oP _ _ _ _ _ _ _ _|exact oP _ _ _ _ _ _ _ _ _|exact oP _ _ _ _ _ _ _ _ _ _|exact oP _ _ _ _ _ _ _ _ _ _ _)
end Go.Proofs.YtghnfjfkjhbgdaaGreatDoor
namespace Go.Se
theorem tM {P:Program} {k:FuncId} {xs:List SV} {σ:List (Option SB)} {v:SV} {σ':List (Option SB)} {d d':List Nat}
  (h:aE P k xs σ v σ' d) (hd: ∀p,p∈d->p∈d') (hl: ∀p,p∈d'->p<σ.length):aE P k xs σ v σ' d':=by
 intro ρ T w vals h1 h2 h3 h4
 have conv: ∀(x:Value) (w':World),(∃ρ' T',kJ ρ T w σ v σ' d ρ' T' w' x)-> ∃ρ' T',kJ ρ T w σ v σ' d' ρ' T' w' x:=by
  rintro x w' ⟨ρ',T',c⟩
  exact ⟨ρ',T',{
   names:=c.names
   only:=c.only
   len:=c.len
   val:=c.val
   store:=c.store
   fresh:=fun p b hp hb=>(c.fresh p b hp hb).imp id fun ⟨q,q1,q2⟩=>⟨q,hd q q1,q2⟩
   inj:=c.inj
   dirty:=hl
   grow:=c.grow.mono fun b _ ⟨p,p1,p2⟩=>⟨p,hd p p1,p2⟩
   tback:=c.tback
   below:=c.below
   tkeep:=fun b hb ht=>(c.tkeep b hb ht).imp id fun ⟨q,q1,q2⟩=>⟨q,hd q q1,q2⟩}⟩
 rcases h ρ T w vals h1 h2 h3 h4 with ⟨fn,f1,f2,f3,hc⟩|⟨x,w',hx,hr⟩
 ·exact .inl ⟨fn,f1,f2,f3,hc.mono fun e w' ⟨x,hx,hr⟩=>⟨x,hx,conv x w' hr⟩⟩
 ·exact .inr ⟨x,w',hx,conv x w' hr⟩
theorem sD {P:Program} (A:Tab P) (B:bT P) {R:List (Nat×eI)} {unroll:Nat->Nat} {cut:Nat->Bool} {known:FuncId->Bool} {n:Nat} {k:FuncId} {xs:List SV} {σ:List (Option SB)} {v:SV} {σ':List (Option SB)} {d:List Nat}
  (hl: ∀p,p∈d->p<σ.length)
  (h:okL xs->okS σ->calls (A.env B unroll cut) (aA R) known n k xs σ fun v' σ'' d'=>v'=v/\σ''=σ'/\ ∀p,p∈d'->p∈d):aE P k xs σ v σ' d:=by
 refine pI fun h1 h2=> ?_
 obtain ⟨v',σ'',d',⟨rfl,rfl,hd⟩,hc⟩:=bS (env:=A.env B unroll cut) ⟨A.htt,B.ok⟩ A.mixed (fun n=>aY n R) A.hft n k xs σ _ (h h1 h2)
 exact tM hc hd hl
theorem aGI{x:Int}(hx:0<=x)(hx':x<18446744073709551616):(((BitVec.ofInt 64 x&&&BitVec.ofInt 64 1).toNat:Nat):Int)=x%2:=by
 obtain ⟨a,rfl⟩:=fq hx
 have e1:(BitVec.ofInt 64 (a:Int)).toNat=a:=by
  rw [BitVec.toNat_ofInt];omega
 have e2:(BitVec.ofInt 64 1).toNat=1:=by decide
 rw [BitVec.toNat_and,e1,e2,Nat.and_one_is_mod]
 omega
theorem BA {P:Program} (A:Tab P) (B:bT P) {R:List (Nat×eI×List ((Nat×List Nat)×Nat))} {unroll:Nat->Nat} {cut:Nat->Bool} {known:FuncId->Bool} {n:Nat} {k:FuncId} {xs:List SV} {σ:List (Option SB)} {v:SV} {σ':List (Option SB)} {d:List Nat}
  (hl: ∀p,p∈d->p<σ.length)
  (h:okL xs->okS σ->calls (A.env B unroll cut) (cM R) known n k xs σ fun v' σ'' d'=>v'=v/\σ''=σ'/\ ∀p,p∈d'->p∈d):aE P k xs σ v σ' d:=by
 refine pI fun h1 h2=> ?_
 obtain ⟨v',σ'',d',⟨rfl,rfl,hd⟩,hc⟩:=bS (env:=A.env B unroll cut) ⟨A.htt,B.ok⟩ A.mixed (fun n=>tR n R) A.hft n k xs σ _ (h h1 h2)
 exact tM hc hd hl
end Go.Se
namespace Go.Proofs.YtghnfjfkjhbgdaaGreatDoor
open Go.Se
set_option maxRecDepth 100000
theorem V6 (u:Nat) (B:bT Tryz.prog) (n:Nat) {k:FuncId} {xs:List SV} {σ:List (Option SB)} {v:SV} {σ':List (Option SB)} {d:List Nat}
  (hl: ∀p,p∈d->p<σ.length)
  (h:okL xs->okS σ-> ∀K:KC,(∀d',(∀p,p∈d'->p∈d)->K v σ' d')->kC u B n k xs σ K):aE Tryz.prog k xs σ v σ' d:=
 sD (R:=[]) tab B hl fun h1 h2=>h h1 h2 _ fun _ hd=>⟨rfl,rfl,hd⟩
end Go.Proofs.YtghnfjfkjhbgdaaGreatDoor
namespace Go.Se
def sK :Nat->Int->Int->Int->Int
 |0,lo,_,_=>lo
 |f+1,lo,hi,N=>bif decide (lo<hi) then (bif decide (N<(lo+(hi - lo+1)/2)*(lo+(hi - lo+1)/2)) then sK f lo (lo+(hi - lo+1)/2 - 1) N else sK f (lo+(hi - lo+1)/2) hi N) else lo
def gU(N:Int):Int:=bif decide (N<=0) then 0 else sK 64 1 13835058055282163712 N
theorem DV{N:Int}: ∀(f:Nat) (lo hi:Int),0<lo->lo<=hi->hi - lo<2^f->lo*lo<=N->N<(hi+1)*(hi+1)->
  lo<=sK f lo hi N/\sK f lo hi N<=hi/\sK f lo hi N*sK f lo hi N<=N/\N<(sK f lo hi N+1)*(sK f lo hi N+1)
 |0,lo,hi,h0,h1,h2,h3,h4=>by
  have:hi=lo:=by simp at h2;omega
  subst this
  exact ⟨Int.le_refl _,Int.le_refl _,h3,h4⟩
 |f+1,lo,hi,h0,h1,h2,h3,h4=>by
  have hp:(2:Int)^(f+1)=2^f*2:=fi 2 f
  rw [hp] at h2
  unfold sK
  by_cases hlt:lo<hi
  ·rw [ao hlt]
   simp only [ar]
   generalize hm:lo+(hi - lo+1)/2=m
   by_cases hN:N<m*m
   ·rw [ao hN]
    simp only [ar]
    obtain ⟨a,b,c,d⟩:=DV (N:=N) f lo (m - 1) h0 (by omega) (by omega) h3 (by rw [show m - 1+1=m by omega];exact hN)
    exact ⟨a,by omega,c,d⟩
   ·rw [aj hN]
    simp only [ap]
    obtain ⟨a,b,c,d⟩:=DV (N:=N) f m hi (by omega) (by omega) (by omega) (by omega) h4
    exact ⟨by omega,b,c,d⟩
  ·rw [aj hlt]
   have:hi=lo:=by omega
   subst this
   exact ⟨Int.le_refl _,Int.le_refl _,h3,h4⟩
theorem PR{N:Int}(h0:0<=N)(h1:N<170141183460469231731687303715884105728):0<=gU N/\gU N<=13835058055282163712/\gU N*gU N<=N/\N<(gU N+1)*(gU N+1):=by
 unfold gU
 by_cases h:N<=0
 ·rw [ao h]
  simp only [ar]
  omega
 ·rw [aj h]
  simp only [ap]
  obtain ⟨a,b,c,d⟩:=DV (N:=N) 64 1 13835058055282163712 (by omega) (by omega) (by decide) (by omega) (by omega)
  exact ⟨by omega,b,c,d⟩
end Go.Se
namespace Go.Proofs.YtghnfjfkjhbgdaaGreatDoor
open Go.Se
set_option maxRecDepth 100000
noncomputable abbrev cL(R:List (Nat×eI))(u:Nat->Nat)(B:bT Tryz.prog)(n:Nat)(k:FuncId)(xs:List SV)(σ:List (Option SB))(K:KC):Prop:=
 calls (tab.env B u (fun _=>false)) (aA R) B.dom n k xs σ K
theorem eF (R:List (Nat×eI)) (u:Nat->Nat) (B:bT Tryz.prog) (n:Nat) {k:FuncId} {xs:List SV} {σ:List (Option SB)} {v:SV} {σ':List (Option SB)} {d:List Nat}
  (hl: ∀p,p∈d->p<σ.length)
  (h:okL xs->okS σ-> ∀K:KC,(∀d',(∀p,p∈d'->p∈d)->K v σ' d')->cL R u B n k xs σ K):aE Tryz.prog k xs σ v σ' d:=
 sD (R:=R) tab B hl fun h1 h2=>h h1 h2 _ fun _ hd=>⟨rfl,rfl,hd⟩
noncomputable abbrev fG(R:List (Nat×eI))(u:Nat->Nat)(B:bT Tryz.prog)(n:Nat):Env:=
 {tab.env B u (fun _=>false) with callee:=calls (tab.env B u (fun _=>false)) (aA R) B.dom n,round:=fun xs σ K=>calls.roundsN (tab.env B u (fun _=>false)) (aA R) B.dom n xs σ K}
def DJ :List (Nat×eI):=[(0,⟨[4,5,3,2],[1],[1],2,[]⟩)]
def EX(a b lo hi:Int):St:=⟨[(4,.int .u64 lo),(5,.int .u64 hi),(3,.ptr 1 0),(2,.int .u64 0)],[(1,some (.cells 263 [.int .u64 a,.int .u64 b]))],2,[1],48⟩
def OW(lo hi:Int):Int:=IntKind.u64.wrap (lo+IntKind.u64.wrap ((IntKind.u64.wrap (IntKind.u64.wrap (hi - lo)+1)).tdiv 2))
abbrev zD :List Nat:=[1,1,1,1,0,0]
noncomputable abbrev WK :Env:=fG DJ (fun _=>0) k4 1
theorem SD(K:KC)(a b:Int):cL DJ (fun _=>0) k4 2 189 [.agg [.int .i64 a,.int .u64 b]] [] K=
  Br (decide (a<0)) (K (.int .u64 0) [] []) (Br (a==0&&b==0) (K (.int .u64 0) [] [])
   (∃n,aV WK (aA DJ 0) Tryz.f189 zD 0 0 K n (EX (IntKind.u64.wrap a) b 1 13835058055282163712))):=by kernel_rfl
theorem SK(K:Ex->St->Prop)(a b lo hi:Int):aF WK (aA DJ 0) Tryz.f189 zD 0 K (EX a b lo hi)=
  Br (decide (lo<hi)) (Br (decide (wv a b<wv (OW lo hi*OW lo hi/18446744073709551616) (OW lo hi*OW lo hi%18446744073709551616)))
   (K .normal (EX a b lo (IntKind.u64.wrap (OW lo hi - 1)))) (K .normal (EX a b (OW lo hi) hi))) (K (.exit 0) (EX a b lo hi)):=by kernel_rfl
theorem U6(K:KC)(a b lo hi:Int):aB WK (aA DJ 0) Tryz.f189 zD 0 K (.exit 0) (EX a b lo hi)=K (.int .u64 lo) [] []:=by kernel_rfl
theorem A6(K:KC)(a b:Int): ∀(f:Nat) (lo hi:Int),0<lo->lo<=hi->hi<=13835058055282163712->hi - lo<2^f->K (.int .u64 (sK f lo hi (wv a b))) [] []->
  aV WK (aA DJ 0) Tryz.f189 zD 0 0 K (f+1) (EX a b lo hi)
 |f,lo,hi,h0,h1,h2,h3,hK=>by
  rw [dP,SK]
  refine Br.of (fun c1=> ?_) fun c1=> ?_
  ·have c1':=aa c1
   cases f with
   |zero=>simp at h3;omega
   |succ f=>
    have hp:(2:Int)^(f+1)=2^f*2:=fi 2 f
    rw [hp] at h3
    have hm:OW lo hi=lo+(hi - lo+1)/2:=by
     unfold OW
     simp only [dK]
     rw [show (hi - lo)%18446744073709551616=hi - lo by omega,show (hi - lo+1)%18446744073709551616=hi - lo+1 by omega,cz (by omega)]
     omega
    rw [hm,tE,dK]
    unfold sK at hK
    rw [c1] at hK
    simp only [ar] at hK
    refine Br.of (fun c2=> ?_) fun c2=> ?_
    ·rw [c2] at hK
     rw [show (lo+(hi - lo+1)/2 - 1)%18446744073709551616=lo+(hi - lo+1)/2 - 1 by omega]
     exact A6 K a b f lo _ h0 (by omega) (by omega) (by omega) hK
    ·rw [c2] at hK
     exact A6 K a b f _ hi (by omega) (by omega) h2 (by omega) hK
  ·show aB _ _ _ _ _ _ _ _
   rw [U6]
   cases f with
   |zero=>exact hK
   |succ f=>
    unfold sK at hK
    rw [c1] at hK
    exact hK
theorem lK(a b:Int):aE Tryz.prog 189 [.agg [.int .i64 a,.int .u64 b]] [] (.int .u64 (gU (wv a b))) [] []:=
 eF DJ (fun _=>0) k4 2 (fun _ h=>nomatch h) fun ⟨⟨ha,hb,_⟩,_⟩ _ K hK=>by
  have hK:=hK [] fun _ h=>nomatch h
  have ha': -9223372036854775808<=a/\a<=9223372036854775807:=ha
  have hb':0<=b/\b<=18446744073709551615:=hb
  rw [SD]
  unfold gU at hK
  refine Br.of (fun c1=> ?_) fun c1=>Br.of (fun c2=> ?_) fun c2=>⟨65, ?_⟩
  ·have c1':=aa c1
   rw [ao (show wv a b<=0 by unfold wv;omega)] at hK
   exact hK
  ·simp only [af,ci] at c2
   rw [ao (show wv a b<=0 by unfold wv;omega)] at hK
   exact hK
  ·have c1':=ae c1
   have c2': ¬(a=0/\b=0):=by
    rintro ⟨rfl,rfl⟩
    simp at c2
   rw [aj (show¬wv a b<=0 by unfold wv;omega)] at hK
   rw [dK,show a%18446744073709551616=a by omega]
   exact A6 K a b 64 1 13835058055282163712 (by omega) (by omega) (by omega) (by decide) hK
def aHY :List SV->List (Option SB)->Out
 | [.agg [.int .i64 a,.int .u64 b]],[]=>some (.int .u64 (gU (wv a b)),[],[])
 |_,_=>none
noncomputable def k5 :bT Tryz.prog:=(k4).add 189 (one aHY) (aT fun xs σ v σ' d h=>by
  unfold aHY at h;split at h<;>cases h;first|exact lK|exact lK _|exact lK _ _|exact lK _ _ _|exact lK _ _ _ _|exact lK _ _ _ _ _|exact lK _ _ _ _ _ _|exact lK _ _ _ _ _ _ _|exact lK _ _ _ _ _ _ _ _|exact lK _ _ _ _ _ _ _ _ _|exact lK _ _ _ _ _ _ _ _ _ _|exact lK _ _ _ _ _ _ _ _ _ _ _)
end Go.Proofs.YtghnfjfkjhbgdaaGreatDoor
namespace Go.Se
def V8 :ByteArray:=⟨(([0,1,2,2,3,3,3,3]++List.replicate 8 4++List.replicate 16 5++List.replicate 32 6++List.replicate 64 7++List.replicate 128 8:List UInt8)).toArray⟩
def m8(b:Int):Int:=((V8.data.getD b.toNat 0).toNat:Int)
def zH(n:Nat):Nat:=(V8.data.getD n 0).toNat
theorem Q6 : ∀n:Fin 256,n.val=0\/(1<=zH n.val/\zH n.val<=8/\2^(zH n.val - 1)<=n.val/\n.val<2^zH n.val):=by decide+kernel
theorem UL :V8.size=256:=by decide+kernel
theorem N1(n:Nat):m8 (n:Int)=(zH n:Int):=rfl
theorem aDV{a:Nat}(k:Nat)(h1:2^k<=a)(h2:a<2^(k+8)): ∃L:Nat,m8 ((a/2^k:Nat):Int)+k=(L:Int)/\1<=L/\L<=k+8/\2^(L - 1)<=a/\a<2^L:=by
 have hlt:a/2^k<256:=by
  rw [Nat.div_lt_iff_lt_mul (Nat.two_pow_pos k),show (256:Nat)=2^8 from rfl,<- Nat.pow_add,Nat.add_comm 8 k];exact h2
 have hpos:0<a/2^k:=Nat.div_pos h1 (Nat.two_pow_pos k)
 rcases Q6 ⟨a/2^k,hlt⟩ with h|⟨p,q,r,s⟩
 ·simp only at h;omega
 ·simp only at p q r s
  refine ⟨zH (a/2^k)+k,by rw [N1];omega,by omega,by omega, ?_, ?_⟩
  ·rw [show zH (a/2^k)+k - 1=(zH (a/2^k) - 1)+k by omega,Nat.pow_add]
   exact (Nat.le_div_iff_mul_le (Nat.two_pow_pos k)).1 r
  ·rw [Nat.pow_add]
   exact (Nat.div_lt_iff_lt_mul (Nat.two_pow_pos k)).1 s
def CB(a:Int):Int:=
 bif decide (a>=72057594037927936) then m8 (a/72057594037927936)+56 else
 bif decide (a>=281474976710656) then m8 (a/281474976710656)+48 else
 bif decide (a>=1099511627776) then m8 (a/1099511627776)+40 else
 bif decide (a>=4294967296) then m8 (a/4294967296)+32 else
 bif decide (a>=16777216) then m8 (a/16777216)+24 else
 bif decide (a>=65536) then m8 (a/65536)+16 else
 bif decide (a>=256) then m8 (a/256)+8 else m8 a
theorem aEP{a:Int}(h0:0<a)(h1:a<18446744073709551616): ∃L:Nat,CB a=(L:Int)/\1<=L/\L<=64/\(2:Int)^(L - 1)<=a/\a<(2:Int)^L:=by
 obtain ⟨n,rfl⟩:=fq (ed h0)
 have fin: ∀k:Nat,k<=56->2^k<=n->n<2^(k+8)->CB n=m8 ((n/2^k:Nat):Int)+k-> ∃L:Nat,CB n=(L:Int)/\1<=L/\L<=64/\(2:Int)^(L - 1)<=n/\(n:Int)<(2:Int)^L:=by
  intro k hk a1 a2 a3
  obtain ⟨L,b1,b2,b3,b4,b5⟩:=aDV k a1 a2
  exact ⟨L,by rw [a3,b1],b2,by omega,by exact_mod_cast b4,by exact_mod_cast b5⟩
 unfold CB at fin|-
 by_cases c1:(n:Int)>=72057594037927936
 ·exact fin 56 (by omega) (by omega) (by omega) (by rw [ao c1];rfl)
 by_cases c2:(n:Int)>=281474976710656
 ·exact fin 48 (by omega) (by omega) (by omega) (by rw [aj c1,ao c2];rfl)
 by_cases c3:(n:Int)>=1099511627776
 ·exact fin 40 (by omega) (by omega) (by omega) (by rw [aj c1,aj c2,ao c3];rfl)
 by_cases c4:(n:Int)>=4294967296
 ·exact fin 32 (by omega) (by omega) (by omega) (by rw [aj c1,aj c2,aj c3,ao c4];rfl)
 by_cases c5:(n:Int)>=16777216
 ·exact fin 24 (by omega) (by omega) (by omega) (by rw [aj c1,aj c2,aj c3,aj c4,ao c5];rfl)
 by_cases c6:(n:Int)>=65536
 ·exact fin 16 (by omega) (by omega) (by omega) (by rw [aj c1,aj c2,aj c3,aj c4,aj c5,ao c6];rfl)
 by_cases c7:(n:Int)>=256
 ·exact fin 8 (by omega) (by omega) (by omega) (by rw [aj c1,aj c2,aj c3,aj c4,aj c5,aj c6,ao c7];rfl)
 ·exact fin 0 (by omega) (by omega) (by omega) (by rw [aj c1,aj c2,aj c3,aj c4,aj c5,aj c6,aj c7];show m8 n=m8 ((n/1:Nat):Int)+0;simp)
theorem ND{b:Int}(h0:0<=b)(h1:b<=255):0<=m8 b/\m8 b<=8:=by
 obtain ⟨n,rfl⟩:=fq h0
 rw [N1]
 rcases Q6 ⟨n,by omega⟩ with h|⟨_,q,_⟩
 ·simp only at h;subst h;rw [show zH 0=0 by decide+kernel];omega
 ·simp only at q;omega
end Go.Se
namespace Go.Proofs.YtghnfjfkjhbgdaaGreatDoor
open Go.Se
set_option maxRecDepth 100000
def aF5(b x:Int)(K:KC):Prop:=If (decide (0<=IntKind.u8.wrap x)&&decide (IntKind.u8.wrap x<(V8.size:Int))) (K (.int .i64 (IntKind.i64.wrap (b+IntKind.i64.wrap (m8 (IntKind.u8.wrap x))))) [] [])
def aEn(b x:Int)(K:KC):Prop:=Br (decide (x>=256)) (aF5 (b+8) (x.fdiv 256) K) (aF5 b x K)
def RZ(b x:Int)(K:KC):Prop:=Br (decide (x>=65536)) (aEn (b+16) (x.fdiv 65536) K) (aEn b x K)
def aDJ(x:Int)(K:KC):Prop:=Br (decide (x>=4294967296)) (RZ 32 (x.fdiv 4294967296) K) (RZ 0 x K)
theorem oD{b x v:Int}{K:KC}(hx:0<=x)(hx':x<=255)(hb:0<=b)(hb':b<=56)(hv:v=m8 x+b)(hK:K (.int .i64 v) [] []):aF5 b x K:=by
 unfold aF5
 have hl:=ND hx hx'
 rw [wu8,show x%256=x by omega,fK,fK,show (b+((m8 x+9223372036854775808)%18446744073709551616 - 9223372036854775808)+9223372036854775808)%18446744073709551616 - 9223372036854775808=v by omega]
 exact If.mk (by rw [UL];simp only [af,ak];omega) hK
theorem hJ(a:Int):aE Tryz.prog 238 [.int .u64 a] [] (.int .i64 (CB a)) [] []:=
 aS k5 2 fun ⟨ha,_⟩ _ K hK=>by
  have ha':0<=a/\a<=18446744073709551615:=ha
  have e: ∀K,run k5 2 238 [.int .u64 a] [] K=aDJ a K:=fun K=>by kernel_rfl
  rw [e]
  unfold aDJ RZ aEn
  simp only [kP _ (show (0:Int)<=4294967296 by decide),kP _ (show (0:Int)<=65536 by decide),kP _ (show (0:Int)<=256 by decide)]
  unfold CB at hK
  refine Br.of (fun c1=>Br.of (fun c2=>Br.of (fun c3=> ?_) fun c3=> ?_) fun c2=>Br.of (fun c3=> ?_) fun c3=> ?_) fun c1=>Br.of (fun c2=>Br.of (fun c3=> ?_) fun c3=> ?_) fun c2=>Br.of (fun c3=> ?_) fun c3=> ?_<;>
   simp only [ak,aw] at c1 c2 c3
  ·rw [ao (show a>=72057594037927936 by omega)] at hK
   exact oD (by omega) (by omega) (by omega) (by omega) (by rw [show a/4294967296/65536/256=a/72057594037927936 by omega];rfl) hK
  ·rw [aj (show¬a>=72057594037927936 by omega),ao (show a>=281474976710656 by omega)] at hK
   exact oD (by omega) (by omega) (by omega) (by omega) (by rw [show a/4294967296/65536=a/281474976710656 by omega];rfl) hK
  ·rw [aj (show¬a>=72057594037927936 by omega),aj (show¬a>=281474976710656 by omega),ao (show a>=1099511627776 by omega)] at hK
   exact oD (by omega) (by omega) (by omega) (by omega) (by rw [show a/4294967296/256=a/1099511627776 by omega];rfl) hK
  ·rw [aj (show¬a>=72057594037927936 by omega),aj (show¬a>=281474976710656 by omega),aj (show¬a>=1099511627776 by omega),ao (show a>=4294967296 by omega)] at hK
   exact oD (by omega) (by omega) (by omega) (by omega) rfl hK
  ·rw [aj (show¬a>=72057594037927936 by omega),aj (show¬a>=281474976710656 by omega),aj (show¬a>=1099511627776 by omega),aj (show¬a>=4294967296 by omega),ao (show a>=16777216 by omega)] at hK
   exact oD (by omega) (by omega) (by omega) (by omega) (by rw [show a/65536/256=a/16777216 by omega];rfl) hK
  ·rw [aj (show¬a>=72057594037927936 by omega),aj (show¬a>=281474976710656 by omega),aj (show¬a>=1099511627776 by omega),aj (show¬a>=4294967296 by omega),aj (show¬a>=16777216 by omega),ao (show a>=65536 by omega)] at hK
   exact oD (by omega) (by omega) (by omega) (by omega) rfl hK
  ·rw [aj (show¬a>=72057594037927936 by omega),aj (show¬a>=281474976710656 by omega),aj (show¬a>=1099511627776 by omega),aj (show¬a>=4294967296 by omega),aj (show¬a>=16777216 by omega),aj (show¬a>=65536 by omega),ao (show a>=256 by omega)] at hK
   exact oD (by omega) (by omega) (by omega) (by omega) rfl hK
  ·rw [aj (show¬a>=72057594037927936 by omega),aj (show¬a>=281474976710656 by omega),aj (show¬a>=1099511627776 by omega),aj (show¬a>=4294967296 by omega),aj (show¬a>=16777216 by omega),aj (show¬a>=65536 by omega),aj (show¬a>=256 by omega)] at hK
   exact oD (by omega) (by omega) (by omega) (by omega) (by simp only [ap];omega) hK
def aC5 :List SV->List (Option SB)->Out
 | [.int .u64 a],[]=>some (.int .i64 (CB a),[],[])
 |_,_=>none
noncomputable def k6 :bT Tryz.prog:=(k5).add 238 (one aC5) (aT fun xs σ v σ' d h=>by
  unfold aC5 at h;split at h<;>cases h;first|exact hJ|exact hJ _|exact hJ _ _|exact hJ _ _ _|exact hJ _ _ _ _|exact hJ _ _ _ _ _|exact hJ _ _ _ _ _ _|exact hJ _ _ _ _ _ _ _|exact hJ _ _ _ _ _ _ _ _|exact hJ _ _ _ _ _ _ _ _ _|exact hJ _ _ _ _ _ _ _ _ _ _|exact hJ _ _ _ _ _ _ _ _ _ _ _)
end Go.Proofs.YtghnfjfkjhbgdaaGreatDoor
namespace Go.Se
def HY(v1 v0 u:Int):Nat->Int->Int->(Int->Prop)->Prop
 |0,_,_,_=>False
 |n+1,q,r,F=>
  Br (decide (q>=4294967296))
   (Br (decide (IntKind.u64.wrap (r+v1)>=4294967296)) (F (IntKind.u64.wrap (q - 1))) (HY v1 v0 u n (IntKind.u64.wrap (q - 1)) (IntKind.u64.wrap (r+v1)) F))
   (Br (decide (IntKind.u64.wrap (q*v0)>IntKind.u64.wrap (IntKind.u64.wrap (4294967296*r)+u)))
    (Br (decide (IntKind.u64.wrap (r+v1)>=4294967296)) (F (IntKind.u64.wrap (q - 1))) (HY v1 v0 u n (IntKind.u64.wrap (q - 1)) (IntKind.u64.wrap (r+v1)) F))
    (F q))
theorem OV {v1 v0 u Uh:Int} {F:Int->Prop} (h1:2147483648<=v1) (h1':v1<4294967296) (h0:0<=v0) (h0':v0<4294967296) (hu:0<=u) (hu':u<4294967296)
  (hU:0<=Uh) (hU':Uh<v1*4294967296+v0) (hF:F ((Uh*4294967296+u)/(v1*4294967296+v0))):
  ∀(n:Nat) (q r:Int),n<=2->q*v1+r=Uh->(2 - (n:Int))*v1<=r->r<4294967296->(Uh*4294967296+u)/(v1*4294967296+v0)<=q->q<=4294967297->HY v1 v0 u n q r F
 |0,q,r,_,_,h3,h4,_,_=>by simp at h3;omega
 |n+1,q,r,hn,hq,h3,h4,h5,h6=>by
  have hV:0<v1*4294967296+v0:=by omega
  have hr:0<=r:=by
   have:0<=(2 - ((n+1:Nat):Int))*v1:=fc (by omega) (by omega)
   omega
  have hQ0:0<=(Uh*4294967296+u)/(v1*4294967296+v0):=dx (by omega) (by omega)
  have hQB:(Uh*4294967296+u)/(v1*4294967296+v0)<4294967296:=by
   rw [ec hV];omega
  have dec:(Uh*4294967296+u)/(v1*4294967296+v0)<q->
    Br (decide (IntKind.u64.wrap (r+v1)>=4294967296)) (F (IntKind.u64.wrap (q - 1))) (HY v1 v0 u n (IntKind.u64.wrap (q - 1)) (IntKind.u64.wrap (r+v1)) F):=by
   intro hlt
   rw [dK,dK,show (r+v1)%18446744073709551616=r+v1 by omega,show (q - 1)%18446744073709551616=q - 1 by omega]
   have hq':(q - 1)*v1+(r+v1)=Uh:=by rw [Int.sub_mul];omega
   refine Br.of (fun c=> ?_) fun c=> ?_
   ·have c':=aa c
    have hle:(q - 1)<=(Uh*4294967296+u)/(v1*4294967296+v0):=by
     rw [Int.le_ediv_iff_mul_le hV]
     have e:(q - 1)*(v1*4294967296+v0)=(q - 1)*v1*4294967296+(q - 1)*v0:=by rw [Int.mul_add,Int.mul_assoc]
     have hb:(q - 1)*v0<=4294967296*4294967295:=ga (by omega) (by omega) h0 (by omega)
     rw [e]
     omega
    rw [show q - 1=(Uh*4294967296+u)/(v1*4294967296+v0) by omega]
    exact hF
   ·have c':=ae c
    refine OV h1 h1' h0 h0' hu hu' hU hU' hF n (q - 1) (r+v1) (by omega) hq' ?_ (by omega) (by omega) (by omega)
    have e:(2 - ((n+1:Nat):Int))*v1=(2 - (n:Int))*v1 - v1:=by
     rw [show (2 - ((n+1:Nat):Int))=(2 - (n:Int)) - 1 by omega,Int.sub_mul,Int.one_mul]
    rw [e] at h3
    omega
  unfold HY
  refine Br.of (fun c=>dec ?_) fun c=>Br.of (fun c2=>dec ?_) fun c2=> ?_
  ·have:=aa c
   omega
  ·have c1:=ae c
   have c2':=aa c2
   have hb:q*v0<=4294967295*4294967295:=ga (by omega) (by omega) h0 (by omega)
   have hb0:0<=q*v0:=fc (by omega) h0
   rw [dK,dK,dK] at c2'
   rw [ec hV,Int.mul_add,<- Int.mul_assoc]
   omega
  ·have c1:=ae c
   have c2':=ae c2
   have hb:q*v0<=4294967295*4294967295:=ga (by omega) (by omega) h0 (by omega)
   have hb0:0<=q*v0:=fc (by omega) h0
   rw [dK,dK,dK] at c2'
   have:q<=(Uh*4294967296+u)/(v1*4294967296+v0):=by
    rw [Int.le_ediv_iff_mul_le hV,Int.mul_add,<- Int.mul_assoc]
    omega
   rw [show q=(Uh*4294967296+u)/(v1*4294967296+v0) by omega]
   exact hF
def LL(v1 v0 Uh u:Int)(F:Int->Prop):Prop:=
 If (v1 !=0) (HY v1 v0 u 2 (IntKind.u64.wrap (Uh.tdiv v1)) (IntKind.u64.wrap (Uh - IntKind.u64.wrap (IntKind.u64.wrap (Uh.tdiv v1)*v1))) F)
theorem II {v1 v0 u Uh:Int} {F:Int->Prop} (h1:2147483648<=v1) (h1':v1<4294967296) (h0:0<=v0) (h0':v0<4294967296) (hu:0<=u) (hu':u<4294967296)
  (hU:0<=Uh) (hU':Uh<v1*4294967296+v0) (hF:F ((Uh*4294967296+u)/(v1*4294967296+v0))):LL v1 v0 Uh u F:=by
 unfold LL
 refine If.mk (by rw [ei];omega) ?_
 have hd:=Int.emod_add_mul_ediv Uh v1
 have hm0:=gv Uh (show v1≠0 by omega)
 have hm1:=gp Uh (show 0<v1 by omega)
 have hq0:0<=Uh/v1:=dx hU (by omega)
 have hq1:Uh/v1<4294967298:=by
  rw [ec (by omega)];omega
 rw [cz hU,dK,dK,dK,show Uh/v1%18446744073709551616=Uh/v1 by omega]
 have hc:Uh/v1*v1=v1*(Uh/v1):=fz _ _
 have hc0:0<=Uh/v1*v1:=fc hq0 (by omega)
 rw [show Uh/v1*v1%18446744073709551616=Uh/v1*v1 by omega,show (Uh - Uh/v1*v1)%18446744073709551616=Uh%v1 by omega]
 refine OV h1 h1' h0 h0' hu hu' hU hU' hF 2 _ _ (av _) (by omega) (by simp;omega) (by omega) ?_ (by omega)
 have hV:0<v1*4294967296+v0:=by omega
 have:(Uh*4294967296+u)/(v1*4294967296+v0)<Uh/v1+1:=by
  rw [ec hV]
  have e:(Uh/v1+1)*(v1*4294967296+v0)=(v1*(Uh/v1)+v1)*4294967296+(Uh/v1+1)*v0:=by
   rw [Int.mul_add,<- Int.mul_assoc,Int.add_mul,Int.one_mul,hc]
  have hnn:0<=(Uh/v1+1)*v0:=fc (by omega) h0
  rw [e]
  omega
 omega
def shU(x s:Int):Int:=IntKind.u64.wrap (x*2^min s.toNat IntKind.u64.bits)
def lzU(y:Int):Int:=IntKind.u64.wrap (IntKind.i64.wrap (64 - CB y))
def aGE(hi lo y:Int):Int:=IntKind.u64.wrap ↑(BitVec.ofInt IntKind.u64.bits (shU hi (lzU y))|||BitVec.ofInt IntKind.u64.bits (lo.fdiv (2^min (IntKind.u64.wrap (64 - lzU y)).toNat IntKind.u64.bits))).toNat
def ZB(x:Int):Int:=IntKind.u64.wrap ↑(BitVec.ofInt IntKind.u64.bits x&&&BitVec.ofInt IntKind.u64.bits 4294967295).toNat
def WX(Uh u q Y:Int):Int:=IntKind.u64.wrap (IntKind.u64.wrap (IntKind.u64.wrap (Uh*4294967296)+u) - IntKind.u64.wrap (q*Y))
def aJO(hi lo y:Int)(K:KC):Prop:=
 let Y:=shU y (lzU y)
 let L:=shU lo (lzU y)
 If (decide (0<=lzU y))<|If (decide (0<=lzU y))<|If (decide (0<=IntKind.u64.wrap (64 - lzU y)))<|If (decide (0<=lzU y))<|
 LL (Y.fdiv 4294967296) (ZB Y) (aGE hi lo y) (L.fdiv 4294967296) fun q1=>
  let M:=WX (aGE hi lo y) (L.fdiv 4294967296) q1 Y
  LL (Y.fdiv 4294967296) (ZB Y) M (ZB L) fun q0=>
   If (decide (0<=lzU y))<|K (.tup [.int .u64 (IntKind.u64.wrap (IntKind.u64.wrap (q1*4294967296)+q0)),.int .u64 ((WX M (ZB L) q0 Y).fdiv (2^min (lzU y).toNat IntKind.u64.bits))]) [] []
theorem XO{x:Int}(h:0<=x)(h':x<18446744073709551616):ZB x=x%4294967296:=by
 unfold ZB;rw [dK];show (((BitVec.ofInt 64 x&&&BitVec.ofInt 64 4294967295).toNat:Nat):Int)%_=_
 rw [MN x h (by omega)];omega
theorem V5{Uh u Y:Int}(_hU:0<=Uh)(_hu:0<=u)(hY:0<Y)(hY':Y<18446744073709551616):WX Uh u ((Uh*4294967296+u)/Y) Y=(Uh*4294967296+u)%Y:=by
 unfold WX
 simp only [dK]
 have h1:=Int.emod_add_mul_ediv (Uh*4294967296+u) Y
 have h2:=gv (Uh*4294967296+u) (show Y≠0 by omega)
 have h3:=gp (Uh*4294967296+u) hY
 rw [fz ((Uh*4294967296+u)/Y) Y]
 omega
theorem aC4{x y:Int}{s:Nat}(hx:0<=x)(hx':x*2^s<18446744073709551616)(hy:0<=y)(hy':y<2^s)(hs:s<=64):
  (((BitVec.ofInt 64 (x*2^s)|||BitVec.ofInt 64 y).toNat:Nat):Int)=x*2^s+y:=by
 obtain ⟨a,rfl⟩:=fq hx
 obtain ⟨b,rfl⟩:=fq hy
 have hb:b<2^s:=Int.ofNat_lt.1 (by rw [Int.natCast_pow];exact hy')
 have ha:a*2^s<18446744073709551616:=Int.ofNat_lt.1 (by rw [ig,Int.natCast_pow];exact hx')
 have hb':b<2^64:=dm hb (Nat.pow_le_pow_right (by decide) hs)
 have e1:(BitVec.ofInt 64 ((a:Int)*2^s)).toNat=2^s*a:=by
  rw [show (a:Int)*2^s=((a*2^s:Nat):Int) by rw [ig,Int.natCast_pow];rfl,BitVec.toNat_ofInt,Nat.mul_comm (2^s) a]
  generalize a*2^s=z at ha
  omega
 have e2:(BitVec.ofInt 64 (b:Int)).toNat=b:=by
  rw [BitVec.toNat_ofInt];omega
 rw [BitVec.toNat_or,e1,e2,<- Nat.two_pow_add_eq_or_of_lt hb]
 rw [Nat.mul_comm,Int.natCast_add,ig,Int.natCast_pow];rfl
theorem aGV {hi lo y:Int} {K:KC} (hh:0<=hi) (hl:0<=lo) (hl':lo<18446744073709551616) (hy:hi<y) (hy':y<18446744073709551616)
  (hK:K (.tup [.int .u64 ((hi*18446744073709551616+lo)/y),.int .u64 ((hi*18446744073709551616+lo)%y)]) [] []):aJO hi lo y K:=by
 obtain ⟨len,hlen,l1,l2,l3,l4⟩:=aEP (a:=y) (by omega) hy'
 obtain ⟨s,hs⟩: ∃s:Nat,len+s=64:=⟨64 - len,by omega⟩
 have hlz:lzU y=(s:Int):=by
  unfold lzU;rw [hlen,dK,fK];omega
 have hS:(2:Int)^len*2^s=18446744073709551616:=by rw [<- Int.pow_add,hs];rfl
 have hS':(2:Int)^(len - 1)*2^s=9223372036854775808:=by rw [<- Int.pow_add,show len - 1+s=63 by omega];rfl
 have hpos:0<(2:Int)^s:=ic (by decide)
 have hpl:0<(2:Int)^len:=ic (by decide)
 have hshU: ∀x:Int,shU x (lzU y)=x*2^s%18446744073709551616:=fun x=>by
  unfold shU
  rw [hlz,dK,show min (s:Int).toNat IntKind.u64.bits=s by rw [am];show min s 64=s;omega]
 have hY1:9223372036854775808<=y*2^s:=by rw [<- hS'];exact Int.mul_le_mul_of_nonneg_right l3 (ed hpos)
 have hY2:y*2^s<18446744073709551616:=by rw [<- hS];exact Int.mul_lt_mul_of_pos_right l4 hpos
 have hH:hi*2^s<y*2^s:=Int.mul_lt_mul_of_pos_right hy hpos
 have hH0:0<=hi*2^s:=fc hh (ed hpos)
 have hL0:0<=lo*2^s:=fc hl (ed hpos)
 have hYe:shU y (lzU y)=y*2^s:=by rw [hshU];omega
 have hdiv:lo*2^s/18446744073709551616=lo/2^len:=by
  rw [<- hS];exact Int.mul_ediv_mul_of_pos_left lo (2^len) hpos
 have hlt:lo/2^len<2^s:=by
  rw [ec hpl,fz,hS];exact hl'
 have hge:0<=lo/2^len:=dx hl (ed hpl)
 have hUlt:hi*2^s+lo*2^s/18446744073709551616<y*2^s:=by
  have:hi*2^s+2^s<=y*2^s:=by
   have e:hi*2^s+2^s=(hi+1)*2^s:=by rw [Int.add_mul,Int.one_mul]
   rw [e]
   exact Int.mul_le_mul_of_nonneg_right (by omega) (ed hpos)
  omega
 have hun:aGE hi lo y=hi*2^s+lo*2^s/18446744073709551616:=by
  unfold aGE
  rw [hshU,hlz,dK,dK,show hi*2^s%18446744073709551616=hi*2^s by omega,show min ((64 - (s:Int))%18446744073709551616).toNat IntKind.u64.bits=len by
   show min _ 64=len
   omega,kP _ (ed hpl)]
  show (((BitVec.ofInt 64 _|||BitVec.ofInt 64 _).toNat:Nat):Int)%_=_
  rw [aC4 hh (by omega) hge hlt (by omega),hdiv]
  rw [hdiv] at hUlt
  omega
 have hLe:shU lo (lzU y)=lo*2^s%18446744073709551616:=hshU lo
 have hN:(hi*2^s+lo*2^s/18446744073709551616)*18446744073709551616+lo*2^s%18446744073709551616=(hi*18446744073709551616+lo)*2^s:=by
  rw [Int.add_mul (hi*18446744073709551616) lo,Int.mul_assoc hi,fz 18446744073709551616 ((2:Int)^s),<- Int.mul_assoc hi]
  omega
 have hq:(hi*18446744073709551616+lo)*2^s/(y*2^s)=(hi*18446744073709551616+lo)/y:=Int.mul_ediv_mul_of_pos_left _ _ hpos
 have hm:(hi*18446744073709551616+lo)*2^s%(y*2^s)=(hi*18446744073709551616+lo)%y*2^s:=by
  rw [fz _ ((2:Int)^s),fz y,Int.mul_emod_mul_of_pos _ _ hpos,fz]
 have hrem:0<=(hi*18446744073709551616+lo)%y:=gv _ (by omega)
 unfold aJO
 simp only []
 rw [hYe,hLe,hun,hlz]
 have hs0:decide ((0:Int)<=(s:Int))=true:=ao (by omega)
 refine If.mk hs0 (If.mk hs0 (If.mk (by rw [dK];exact ao (by omega)) (If.mk hs0 ?_)))
 rw [XO (by omega) hY2,XO (x:=lo*2^s%18446744073709551616) (by omega) (by omega)]
 simp only [kP _ (show (0:Int)<=4294967296 by decide)]
 generalize hYv:y*2^s=Y at*
 generalize hUv:hi*2^s+lo*2^s/18446744073709551616=U at*
 have hU0:0<=U:=by omega
 generalize hLv:lo*2^s%18446744073709551616=L at*
 have hL1:0<=L/\L<18446744073709551616:=by omega
 have hY3:Y/4294967296*4294967296+Y%4294967296=Y:=by omega
 refine II (by omega) (by omega) (by omega) (by omega) (by omega) (by omega) hU0 (by omega) ?_
 rw [hY3,V5 hU0 (by omega) (by omega) hY2]
 have hM0:=gv (U*4294967296+L/4294967296) (show Y≠0 by omega)
 have hM1:=gp (U*4294967296+L/4294967296) (show 0<Y by omega)
 have hMd:=Int.emod_add_mul_ediv (U*4294967296+L/4294967296) Y
 have hQ0:0<=(U*4294967296+L/4294967296)/Y:=dx (by omega) (by omega)
 have hQ1:(U*4294967296+L/4294967296)/Y<4294967296:=by rw [ec (by omega)];omega
 generalize hMv:(U*4294967296+L/4294967296)%Y=M at*
 generalize hQv:(U*4294967296+L/4294967296)/Y=Q at*
 refine II (by omega) (by omega) (by omega) (by omega) (by omega) (by omega) hM0 (by omega) ?_
 rw [hY3,V5 hM0 (by omega) (by omega) hY2]
 refine If.mk hs0 ?_
 have hq0:0<=(M*4294967296+L%4294967296)/Y:=dx (by omega) (by omega)
 have hq1:(M*4294967296+L%4294967296)/Y<4294967296:=by rw [ec (by omega)];omega
 have hsplit:(hi*18446744073709551616+lo)*2^s=(M*4294967296+L%4294967296)+Q*4294967296*Y:=by
  rw [<- hN,Int.mul_assoc,fz 4294967296 Y,<- Int.mul_assoc,fz Q Y]
  omega
 have hres:(hi*18446744073709551616+lo)/y=(M*4294967296+L%4294967296)/Y+Q*4294967296:=by
  rw [<- hq,hsplit,Int.add_mul_ediv_right _ _ (by omega)]
 have hmod:(hi*18446744073709551616+lo)%y*2^s=(M*4294967296+L%4294967296)%Y:=by
  rw [<- hm,hsplit,Int.add_mul_emod_self_right]
 rw [show min (s:Int).toNat IntKind.u64.bits=s by rw [am];show min s 64=s;omega,kP _ (ed hpos),<- hmod,Int.mul_ediv_cancel _ (by omega),dK,dK,
  show (Q*4294967296%18446744073709551616+(M*4294967296+L%4294967296)/Y)%18446744073709551616=(hi*18446744073709551616+lo)/y by rw [hres];omega]
 exact hK
def iY(n d:Int):Int:=bif (decide (n%d>d - n%d)||(n%d==d - n%d&&n/d%2==1))&&decide (n%d>0) then n/d+1 else n/d
def yE(x b:Int):Int:=bif (decide (x<0) !=decide (b<0)) then -iY (aQ x) (aQ b) else iY (aQ x) (aQ b)
def oL(x:Int):Bool:=decide (-9223372036854775808<=x)&&decide (x<=9223372036854775807)
def i4(x b:Int):Bool:=b !=0&&oL (yE x b)
def nY(x b:Int):Int:=bif i4 x b then yE x b else 0
def BI(K:KC):Prop:=K (.tup [.int .i64 0,.bool false]) [] []
def dvY(q:Int)(c:Bool)(K:KC):Prop:=Br c (K (.tup [.int .i64 (IntKind.i64.wrap q),.bool true]) [] []) (BI K)
def dvX(neg:Bool)(q:Int)(c:Bool)(K:KC):Prop:=
 Br c (K (.tup [.int .i64 (IntKind.i64.wrap (IntKind.u64.wrap (0 - q))),.bool true]) [] [])
  (Br (!neg) (dvY q (decide (q<9223372036854775808)) K) (dvY q false K))
def NQ(neg:Bool)(q:Int)(K:KC):Prop:=Br neg (dvX neg q (decide (q<=9223372036854775808)) K) (dvX neg q false K)
def dvG(neg:Bool)(q:Int)(c:Bool)(K:KC):Prop:=Br c (Br (IntKind.u64.wrap (q+1)==0) (BI K) (NQ neg (IntKind.u64.wrap (q+1)) K)) (NQ neg q K)
def dvE(neg:Bool)(q r:Int)(up:Bool)(K:KC):Prop:=Br up (dvG neg q (decide (r>0)) K) (dvG neg q false K)
def dvD(neg:Bool)(H L d:Int)(K:KC):Prop:=
 Br (decide (H>=d)) (BI K) (If (decide (H<d))
  ((fun q r=>Br (decide (r>IntKind.u64.wrap (d - r))) (dvE neg q r true K)
   (Br (r==IntKind.u64.wrap (d - r)) (dvE neg q r (IntKind.u64.wrap ↑(BitVec.ofInt IntKind.u64.bits q&&&BitVec.ofInt IntKind.u64.bits 1).toNat==1) K) (dvE neg q r false K))) ((H*18446744073709551616+L)/d) ((H*18446744073709551616+L)%d)))
def dvP(x b:Int)(K:KC):Prop:=
 Br (decide (b<0)) (dvD (!decide (x<0)) (aQ x/18446744073709551616) (aQ x%18446744073709551616) (IntKind.u64.wrap (0 - IntKind.u64.wrap b)) K)
  (dvD (decide (x<0)) (aQ x/18446744073709551616) (aQ x%18446744073709551616) (IntKind.u64.wrap b) K)
def dvK(neg:Bool)(Q:Int)(K:KC):Prop:=
 K (.tup [.int .i64 (bif oL (bif neg then -Q else Q) then (bif neg then -Q else Q) else 0),.bool (oL (bif neg then -Q else Q))]) [] []
theorem sG{neg:Bool}{Q:Int}{K:KC}(h0:0<=Q)(h1:Q<18446744073709551616)(hK:dvK neg Q K):NQ neg Q K:=by
 unfold dvK oL at hK
 unfold NQ dvX dvY BI
 simp only [dK,fK]
 cases neg
 ·refine Br.of (fun h=>by cases h) fun _=>Br.of (fun h=>by cases h) fun _=>Br.of (fun _=>Br.of (fun c=> ?_) fun c=> ?_) fun h=>by cases h
  ·have c':=aa c
   simp only [ap] at hK
   rw [ao (show -9223372036854775808<=Q by omega),ao (show Q<=9223372036854775807 by omega)] at hK
   rw [show (Q+9223372036854775808)%18446744073709551616 - 9223372036854775808=Q by omega]
   exact hK
  ·have c':=ae c
   simp only [ap] at hK
   rw [aj (show¬Q<=9223372036854775807 by omega),em] at hK
   exact hK
 ·refine Br.of (fun _=>Br.of (fun c=> ?_) fun c=>Br.of (fun h=>by cases h) fun _=>Br.of (fun h=>by cases h) fun _=> ?_) fun h=>by cases h
  ·have c':=aa c
   simp only [ar] at hK
   rw [ao (show -9223372036854775808<=  -Q by omega),ao (show -Q<=9223372036854775807 by omega)] at hK
   rw [show ((0 - Q)%18446744073709551616+9223372036854775808)%18446744073709551616 - 9223372036854775808= -Q by omega]
   exact hK
  ·have c':=ae c
   simp only [ar] at hK
   rw [aj (show¬ -9223372036854775808<=  -Q by omega),Bool.false_and] at hK
   exact hK
theorem MW{neg:Bool}{Q:Int}{K:KC}(h1:18446744073709551616<=Q)(hK:dvK neg Q K):BI K:=by
 unfold dvK oL at hK
 unfold BI
 cases neg
 ·simp only [ap] at hK
  rw [aj (show¬Q<=9223372036854775807 by omega),em] at hK
  exact hK
 ·simp only [ar] at hK
  rw [aj (show¬ -9223372036854775808<=  -Q by omega),Bool.false_and] at hK
  exact hK
theorem XF{neg:Bool}{n d:Int}{K:KC}(hn:0<=n)(_hn':n<340282366920938463463374607431768211456)(hd:0<d)(hd':d<18446744073709551616)(hK:dvK neg (iY n d) K):
  dvD neg (n/18446744073709551616) (n%18446744073709551616) d K:=by
 unfold dvD
 refine Br.of (fun c=> ?_) fun c=>If.mk ?_ ?_
 ·have c':=aa c
  refine MW (Q:=iY n d) ?_ hK
  have:18446744073709551616<=n/d:=by
   rw [Int.le_ediv_iff_mul_le hd];omega
  unfold iY
  cases (decide (n%d>d - n%d)||(n%d==d - n%d&&n/d%2==1))&&decide (n%d>0)<;>simp only [ar,ap]<;>omega
 ·have c':=ae c
  exact ao (by omega)
 ·have c':=ae c
  rw [show n/18446744073709551616*18446744073709551616+n%18446744073709551616=n by omega]
  have hq0:0<=n/d:=dx hn (by omega)
  have hq1:n/d<18446744073709551616:=by rw [ec hd];omega
  have hr0:=gv n (show d≠0 by omega)
  have hr1:=gp n hd
  unfold iY at hK
  generalize n/d=q at*
  generalize n%d=r at*
  show Br _ _ _
  unfold dvE dvG
  simp only [dK]
  rw [show (d - r)%18446744073709551616=d - r by omega]
  have hand:(((BitVec.ofInt IntKind.u64.bits q&&&BitVec.ofInt IntKind.u64.bits 1).toNat:Nat):Int)%18446744073709551616=q%2:=by
   show (((BitVec.ofInt 64 q&&&BitVec.ofInt 64 1).toNat:Nat):Int)%_=_
   rw [aGI hq0 hq1];omega
  rw [hand]
  have up:(dvK neg (q+1) K)->Br ((q+1)%18446744073709551616==0) (BI K) (NQ neg ((q+1)%18446744073709551616) K):=by
   intro h
   refine Br.of (fun c=> ?_) fun c=> ?_
   ·have:=eq_of_beq c
    exact MW (Q:=q+1) (by omega) h
   ·have:(q+1)%18446744073709551616≠0:=by simpa using c
    rw [show (q+1)%18446744073709551616=q+1 by omega]
    exact sG (by omega) (by omega) h
  refine Br.of (fun c1=>Br.of (fun _=>Br.of (fun c2=> ?_) fun c2=> ?_) fun h=>by cases h) fun c1=>Br.of (fun c2=>Br.of (fun c3=>Br.of (fun c4=> ?_) fun c4=> ?_) fun c3=>Br.of (fun h=>by cases h) fun _=> ?_) fun c2=>Br.of (fun h=>by cases h) fun _=>Br.of (fun h=>by cases h) fun _=> ?_
  ·rw [c1,c2] at hK;exact up hK
  ·rw [c1,c2] at hK;exact sG hq0 hq1 hK
  ·rw [c1,c2,c3,c4] at hK;exact up hK
  ·rw [c1,c2,c3,c4] at hK;exact sG hq0 hq1 hK
  ·rw [c1,c2,c3] at hK;exact sG hq0 hq1 hK
  ·rw [c1,c2] at hK;exact sG hq0 hq1 hK
theorem aGL {x b:Int} {K:KC} (hx: -170141183460469231731687303715884105728<=x) (hx':x<170141183460469231731687303715884105728) (hb: -9223372036854775808<=b) (hb':b<=9223372036854775807)
  (hK:K (.tup [.int .i64 (nY x b),.bool (i4 x b)]) [] []):dvP x b K:=by
 unfold dvP
 have ha:0<=aQ x/\aQ x<340282366920938463463374607431768211456:=by
  unfold aQ
  by_cases h:x<0
  ·rw [ao h];simp only [ar];omega
  ·rw [aj h];simp only [ap];omega
 unfold nY i4 yE at hK
 refine Br.of (fun c=> ?_) fun c=> ?_
 ·have c':=aa c
  rw [dK,dK,show (0 - b%18446744073709551616)%18446744073709551616=aQ b by unfold aQ;rw [c];simp only [ar];omega]
  refine XF ha.1 ha.2 (by unfold aQ;rw [c];simp only [ar];omega) (by unfold aQ;rw [c];simp only [ar];omega) ?_
  unfold dvK
  rw [show (b !=0)=true by rw [ei];omega,c] at hK
  cases hxn:decide (x<0)<;>rw [hxn] at hK<;>exact hK
 ·have c':=ae c
  by_cases h0:b=0
  ·subst h0
   unfold dvD
   refine Br.of (fun _=>hK) fun h=> ?_
   have:=ae h
   rw [dK] at this
   omega
  ·rw [dK,show b%18446744073709551616=aQ b by unfold aQ;rw [c];simp only [ap];omega]
   refine XF ha.1 ha.2 (by unfold aQ;rw [c];simp only [ap];omega) (by unfold aQ;rw [c];simp only [ap];omega) ?_
   unfold dvK
   rw [show (b !=0)=true by rw [ei];omega,c] at hK
   cases hxn:decide (x<0)<;>rw [hxn] at hK<;>exact hK
end Go.Se
namespace Go.Proofs.YtghnfjfkjhbgdaaGreatDoor
open Go.Se
set_option maxRecDepth 100000
theorem M6(hi lo y:Int)(K:KC):kC 2 k6 3 193 [.int .u64 hi,.int .u64 lo,.int .u64 y] [] K=
  Br (y==0) False (Br (decide (y<=hi)) False (Br (hi==0)
   (If (y !=0) (If (y !=0) (K (.tup [.int .u64 (IntKind.u64.wrap (lo.tdiv y)),.int .u64 (lo.tmod y)]) [] [])))
   (aJO hi lo y K))):=by kernel_rfl
theorem cP(hi lo y:Int)(hlt:hi<y):aE Tryz.prog 193 [.int .u64 hi,.int .u64 lo,.int .u64 y] [] (.tup [.int .u64 ((hi*18446744073709551616+lo)/y),.int .u64 ((hi*18446744073709551616+lo)%y)]) [] []:=
 V6 2 k6 3 (fun _ h=>nomatch h) fun ⟨hh,hl,hy,_⟩ _ K hK=>by
  have hh':0<=hi/\hi<=18446744073709551615:=hh
  have hl':0<=lo/\lo<=18446744073709551615:=hl
  have hy':0<=y/\y<=18446744073709551615:=hy
  have hK:=hK [] fun _ h=>nomatch h
  rw [M6]
  refine Br.of (fun c=> ?_) fun _=>Br.of (fun c=> ?_) fun _=>Br.of (fun c=> ?_) fun _=>aGV hh'.1 hl'.1 (by omega) hlt (by omega) hK
  ·have:=eq_of_beq c;omega
  ·have:=aa c;omega
  ·have:=eq_of_beq c
   subst this
   have hy0:(y !=0)=true:=by rw [ei];omega
   refine If.mk hy0 (If.mk hy0 ?_)
   have hq0:0<=lo/y:=dx hl'.1 hy'.1
   have hq1:lo/y<=lo:=Int.ediv_le_self _ hl'.1
   rw [cz hl'.1,eo hl'.1,dK,show lo/y%18446744073709551616=lo/y by omega]
   rw [Int.zero_mul,Int.zero_add] at hK
   exact hK
def aDd :List SV->List (Option SB)->Option (Bool×SV×List (Option SB)×List Nat)
 | [.int .u64 hi,.int .u64 lo,.int .u64 y],[]=>some (decide (hi<y),.tup [.int .u64 ((hi*18446744073709551616+lo)/y),.int .u64 ((hi*18446744073709551616+lo)%y)],[],[])
 |_,_=>none
noncomputable def k7 :bT Tryz.prog:=(k6).add 193 (iU aDd) (cE fun xs σ v σ' d h=>by
  unfold aDd at h;split at h
  ·simp only [an,bn] at h
   obtain ⟨h1,rfl,rfl,rfl⟩:=h
   first|exact cP h1|exact cP _ h1|exact cP _ _ h1|exact cP _ _ _ h1|exact cP _ _ _ _ h1|exact cP _ _ _ _ _ h1|exact cP _ _ _ _ _ _ h1|exact cP _ _ _ _ _ _ _ h1|exact cP _ _ _ _ _ _ _ _ h1|exact cP _ _ _ _ _ _ _ _ _ h1|exact cP _ _ _ _ _ _ _ _ _ _ h1|exact cP _ _ _ _ _ _ _ _ _ _ _ h1|exact cP _ _ _ _ _ _ _ _ _ _ _ _ h1|exact cP (aa h1)|exact cP _ (aa h1)|exact cP _ _ (aa h1)|exact cP _ _ _ (aa h1)|exact cP _ _ _ _ (aa h1)|exact cP _ _ _ _ _ (aa h1)|exact cP _ _ _ _ _ _ (aa h1)|exact cP _ _ _ _ _ _ _ (aa h1)|exact cP _ _ _ _ _ _ _ _ (aa h1)|exact cP _ _ _ _ _ _ _ _ _ (aa h1)|exact cP _ _ _ _ _ _ _ _ _ _ (aa h1)|exact cP _ _ _ _ _ _ _ _ _ _ _ (aa h1)|exact cP _ _ _ _ _ _ _ _ _ _ _ _ (aa h1)
  ·cases h)
theorem YW(a b c:Int)(K:KC):kC 0 k7 2 150 [.agg [.int .i64 a,.int .u64 b],.int .i64 c] [] K=dvP (wv a b) c K:=by kernel_rfl
theorem oS(a b c:Int):aE Tryz.prog 150 [.agg [.int .i64 a,.int .u64 b],.int .i64 c] [] (.tup [.int .i64 (nY (wv a b) c),.bool (i4 (wv a b) c)]) [] []:=
 V6 0 k7 2 (fun _ h=>nomatch h) fun ⟨⟨ha,hb,_⟩,hc,_⟩ _ K hK=>by
  have ha': -9223372036854775808<=a/\a<=9223372036854775807:=ha
  have hb':0<=b/\b<=18446744073709551615:=hb
  rw [YW]
  exact aGL (by unfold wv;omega) (by unfold wv;omega) hc.1 hc.2 (hK [] fun _ h=>nomatch h)
def aMA :List SV->List (Option SB)->Out
 | [.agg [.int .i64 a,.int .u64 b],.int .i64 c],[]=>some (.tup [.int .i64 (nY (wv a b) c),.bool (i4 (wv a b) c)],[],[])
 |_,_=>none
noncomputable def k8 :bT Tryz.prog:=(k7).add 150 (one aMA) (aT fun xs σ v σ' d h=>by
  unfold aMA at h;split at h<;>cases h;first|exact oS|exact oS _|exact oS _ _|exact oS _ _ _|exact oS _ _ _ _|exact oS _ _ _ _ _|exact oS _ _ _ _ _ _|exact oS _ _ _ _ _ _ _|exact oS _ _ _ _ _ _ _ _|exact oS _ _ _ _ _ _ _ _ _|exact oS _ _ _ _ _ _ _ _ _ _|exact oS _ _ _ _ _ _ _ _ _ _ _)
end Go.Proofs.YtghnfjfkjhbgdaaGreatDoor
namespace Go.Se
def dv(a b c d:Int):Int:=a+b*4294967296+c*18446744073709551616+d*79228162514264337593543950336
def dOk(a b c d:Int):Bool:=decide (a<4294967296)&&decide (b<4294967296)&&decide (c<4294967296)&&decide (d<4294967296)
def rH(X:Int):List SV:=[.int .u64 (X%4294967296),.int .u64 (X/4294967296%4294967296),.int .u64 (X/18446744073709551616%4294967296),.int .u64 (X/79228162514264337593543950336%4294967296)]
def nSV(x:Int):SV:= .agg (.bool (decide (x<0))::rH (aQ x))
def nv(s:Bool)(a b c d:Int):Int:=bif s then -dv a b c d else dv a b c d
theorem dM{a b c d:Int}:dOk a b c d=true↔a<4294967296/\b<4294967296/\c<4294967296/\d<4294967296:=by
 unfold dOk;simp only [af,ak,and_assoc]
theorem zG(X:Int):dOk (X%4294967296) (X/4294967296%4294967296) (X/18446744073709551616%4294967296) (X/79228162514264337593543950336%4294967296)=true:=by
 rw [dM];omega
theorem EJ{X:Int}(h0:0<=X)(h1:X<340282366920938463463374607431768211456):
  dv (X%4294967296) (X/4294967296%4294967296) (X/18446744073709551616%4294967296) (X/79228162514264337593543950336%4294967296)=X:=by
 unfold dv;omega
theorem VL{a b c d X:Int}(h:dOk a b c d=true)(ha:0<=a)(hb:0<=b)(hc:0<=c)(hd:0<=d)(hX:dv a b c d=X):
  ([.int .u64 a,.int .u64 b,.int .u64 c,.int .u64 d]:List SV)=rH X:=by
 rw [dM] at h
 unfold dv at hX
 unfold rH
 rw [show a=X%4294967296 by omega,show b=X/4294967296%4294967296 by omega,show c=X/18446744073709551616%4294967296 by omega,show d=X/79228162514264337593543950336%4294967296 by omega]
theorem XH{a b c d X:Int}(h:dOk a b c d=true)(ha:0<=a)(hb:0<=b)(hc:0<=c)(_hd:0<=d)(hX:dv a b c d=X%340282366920938463463374607431768211456):
  ([.int .u64 a,.int .u64 b,.int .u64 c,.int .u64 d]:List SV)=rH X:=by
 rw [dM] at h
 unfold dv at hX
 unfold rH
 rw [show a=X%4294967296 by omega,show b=X/4294967296%4294967296 by omega,show c=X/18446744073709551616%4294967296 by omega,show d=X/79228162514264337593543950336%4294967296 by omega]
theorem eO(x:Int):0<=aQ x:=by
 unfold aQ
 cases h:decide (x<0)
 ·have:=ae h;simp only [ap];omega
 ·have:=aa h;simp only [ar];omega
theorem qU{x B:Int}(h0: -B<x)(h1:x<B):aQ x<B:=by
 unfold aQ
 cases decide (x<0)
 ·simp only [ap];omega
 ·simp only [ar];omega
theorem aIN{x:Int}(h0: -340282366920938463463374607431768211456<x)(h1:x<340282366920938463463374607431768211456):
  nv (decide (x<0)) (aQ x%4294967296) (aQ x/4294967296%4294967296) (aQ x/18446744073709551616%4294967296) (aQ x/79228162514264337593543950336%4294967296)=x:=by
 unfold nv
 rw [EJ (eO x) (qU h0 h1)]
 unfold aQ
 cases h:decide (x<0)
 ·simp only [ap]
 ·simp only [ar];omega
theorem aLk{s:Bool}{a b c d x:Int}(h:dOk a b c d=true)(ha:0<=a)(hb:0<=b)(hc:0<=c)(hd:0<=d)(hs:s=decide (x<0))(hX:dv a b c d=aQ x):
  SV.agg (.bool s::[.int .u64 a,.int .u64 b,.int .u64 c,.int .u64 d])=nSV x:=by
 rw [VL h ha hb hc hd hX,hs];rfl
theorem DX(x:Int):(IntKind.u64.wrap x).tdiv 4294967296=x%18446744073709551616/4294967296:=by
 rw [dK,cz (by omega)]
def aCX :List SV->List (Option SB)->Out
 | [.int .i64 n],[]=>some (.int .u64 (aQ n),[],[])
 |_,_=>none
def aMk :List SV->List (Option SB)->Out
 | [.int .u64 n],[]=>some (.int .u64 (n%4294967296),[],[])
 |_,_=>none
abbrev uI :=Option (Bool×SV×List (Option SB)×List Nat)
def aEk :List SV->List (Option SB)->uI
 | [.agg [.int .u64 a,.int .u64 b,.int .u64 c,.int .u64 d],.agg [.int .u64 e,.int .u64 f,.int .u64 g,.int .u64 h]],[]=>
  some (dOk a b c d&&dOk e f g h,.bool (decide (dv a b c d<dv e f g h)),[],[])
 |_,_=>none
def aFw :List SV->List (Option SB)->uI
 | [.agg [.int .u64 a,.int .u64 b,.int .u64 c,.int .u64 d],.agg [.int .u64 e,.int .u64 f,.int .u64 g,.int .u64 h]],[]=>
  some (dOk a b c d&&dOk e f g h,.tup [.agg (rH (dv a b c d+dv e f g h)),.int .u64 ((dv a b c d+dv e f g h)/340282366920938463463374607431768211456)],[],[])
 |_,_=>none
def WW :List SV->List (Option SB)->uI
 | [.agg [.int .u64 a,.int .u64 b,.int .u64 c,.int .u64 d],.agg [.int .u64 e,.int .u64 f,.int .u64 g,.int .u64 h]],[]=>
  some (dOk a b c d&&dOk e f g h&&decide (dv e f g h<=dv a b c d),.agg (rH (dv a b c d - dv e f g h)),[],[])
 |_,_=>none
def MK :List SV->List (Option SB)->Out
 | [.agg [.bool _,.int .u64 a,.int .u64 b,.int .u64 c,.int .u64 d]],[]=>some (.bool (dv a b c d==0),[],[])
 |_,_=>none
def MP :List SV->List (Option SB)->KC->Prop
 | [.agg [.bool s,.int .u64 a,.int .u64 b,.int .u64 c,.int .u64 d]],[],K=>If (dOk a b c d) (∀h l:Int,K (.tup [.int .i64 h,.int .u64 l,.bool (dG (nv s a b c d))]) [] [])
 |_,_,_=>False
def aMb :List SV->List (Option SB)->Out
 | [.int .i64 n],[]=>some (nSV n,[],[])
 |_,_=>none
def aEl :List SV->List (Option SB)->Out
 | [.agg [.bool s,.int .u64 a,.int .u64 b,.int .u64 c,.int .u64 d]],[]=>some (.int .i64 (gB (nv s a b c d) 0),[],[])
 |_,_=>none
theorem jU(x:Int):dG x=true↔ -170141183460469231731687303715884105728<=x/\x<170141183460469231731687303715884105728:=by
 unfold dG;simp only [af,ak]
theorem aCf{x:Int}{b:Bool}(h:b=true↔ -170141183460469231731687303715884105728<=x/\x<170141183460469231731687303715884105728):b=dG x:=by
 rw [fv,h,jU]
def dvS(X:Int):Int:=dv (X%4294967296) (X/4294967296%4294967296) (X/18446744073709551616%4294967296) (X/79228162514264337593543950336%4294967296)
def CT(X:Int):Bool:=dOk (X%4294967296) (X/4294967296%4294967296) (X/18446744073709551616%4294967296) (X/79228162514264337593543950336%4294967296)
def nvD(s:Bool)(X:Int):Int:=nv s (X%4294967296) (X/4294967296%4294967296) (X/18446744073709551616%4294967296) (X/79228162514264337593543950336%4294967296)
theorem mM(X:Int):CT X=true:=zG X
theorem tZ{X:Int}(h0:0<=X)(h1:X<340282366920938463463374607431768211456):dvS X=X:=EJ h0 h1
theorem K9{s:Bool}{X:Int}(h0:0<=X)(h1:X<340282366920938463463374607431768211456):nvD s X=bif s then -X else X:=by
 unfold nvD nv;rw [EJ h0 h1]
def nvX(x:Int):Int:=nv (decide (x<0)) (aQ x%4294967296) (aQ x/4294967296%4294967296) (aQ x/18446744073709551616%4294967296) (aQ x/79228162514264337593543950336%4294967296)
def okX(x:Int):Bool:=CT (aQ x)
theorem tH(x:Int):okX x=true:=mM _
theorem oX{x:Int}(h0: -340282366920938463463374607431768211456<x)(h1:x<340282366920938463463374607431768211456):nvX x=x:=aIN h0 h1
def aGr :SV:= .agg [.bool false,.int .u64 0,.int .u64 0,.int .u64 0,.int .u64 0]
def aHQ(ok n:Bool)(X:Int)(K:KC):Prop:=
 If (CT X) (∀_h _l:Int,Br (!ok) (K (.tup [aGr,.bool false]) [] []) (Br (!dG (nvD n X)) (K (.tup [aGr,.bool false]) [] []) (K (.tup [.agg (.bool n::rH X),.bool true]) [] [])))
def aDm(ok n:Bool)(X:Int)(K:KC):Prop:=Br (dvS X==0) (aHQ ok false X K) (aHQ ok n X K)
theorem aKK{n:Bool}{X v:Int}(_h0:0<=X)(hn:n=decide (v<0))(hv:v=bif n then -X else X):SV.agg (.bool n::rH X)=nSV v:=by
 unfold nSV
 rw [<- hn,show aQ v=X by
  unfold aQ;rw [<- hn];cases n
  ·simp only [ap] at hv|-;exact hv
  ·simp only [ar] at hv|-;omega]
theorem D3 {ok n:Bool} {X v:Int} {K:KC} (h0:0<=X) (hX:X<680564733841876926926749214863536422912) (hok:ok=decide (X<340282366920938463463374607431768211456)) (hv:v=bif n then -X else X)
  (hK:K (.tup [nSV (bif dG v then v else 0),.bool (dG v)]) [] []):aDm ok n X K:=by
 have hnil:aGr=nSV 0:=rfl
 have hn0:dG v=false->K (.tup [aGr,.bool false]) [] []:=fun h=>by rw [h] at hK;exact hK
 cases ok with
 |false=>
  have hlt:=ae hok.symm
  have:dG v=false:=by
   cases hi:dG v with
   |false=>rfl
   |true=>
    have hi:=(jU v).1 hi
    cases n
    ·simp only [ap] at hv;omega
    ·simp only [ar] at hv;omega
  have g: ∀n,aHQ false n X K:=fun n=>If.mk (mM X) fun _ _=>Br.of (fun _=>hn0 this) fun h=>by cases h
  exact Br.of (fun _=>g _) fun _=>g _
 |true=>
  have hlt:=aa hok.symm
  have g: ∀n,v=(bif n then -X else X)->n=decide (v<0)->aHQ true n X K:=fun n hv hn=>If.mk (mM X) fun _ _=>Br.of (fun h=>by cases h) fun _=>by
   rw [K9 h0 hlt,<- hv]
   cases hi:dG v with
   |false=>exact Br.of (fun _=>hn0 hi) fun h=>by cases h
   |true=>
    refine Br.of (fun h=>by cases h) fun _=> ?_
    rw [hi] at hK
    rw [aKK h0 hn hv]
    exact hK
  unfold aDm
  rw [tZ h0 hlt]
  refine Br.of (fun h=>g _ ?_ ?_) fun h=>g _ hv ?_
  ·have:X=0:=by simpa using h
   subst this
   rw [hv];cases n<;>rfl
  ·have:X=0:=by simpa using h
   subst this
   rw [hv];cases n<;>rfl
  ·have:X≠0:=by simpa using h
   cases n
   ·simp only [ap] at hv;exact (aj (by omega)).symm
   ·simp only [ar] at hv;exact (ao (by omega)).symm
def aIc :List SV->List (Option SB)->uI
 | [.agg [.bool s,.int .u64 a,.int .u64 b,.int .u64 c,.int .u64 d],.agg [.bool t,.int .u64 e,.int .u64 f,.int .u64 g,.int .u64 h]],[]=>
  some (dOk a b c d&&dOk e f g h,.tup [nSV (bif dG (nv s a b c d+nv t e f g h) then nv s a b c d+nv t e f g h else 0),.bool (dG (nv s a b c d+nv t e f g h))],[],[])
 |_,_=>none
def aIy :List SV->List (Option SB)->uI
 | [.agg [.bool s,.int .u64 a,.int .u64 b,.int .u64 c,.int .u64 d],.agg [.bool t,.int .u64 e,.int .u64 f,.int .u64 g,.int .u64 h]],[]=>
  some (dOk a b c d&&dOk e f g h,.int .i64 (gB (nv s a b c d) (nv t e f g h)),[],[])
 |_,_=>none
abbrev K4 :=Int->Int->Int->Int->Prop
def sOf(p c:Int):Int:=IntKind.u64.wrap (p+c%4294967296)
def aDc(c s:Int):Int:=IntKind.u64.wrap (IntKind.u64.wrap (c.tdiv 4294967296)+IntKind.u64.wrap (s.tdiv 4294967296))
def ad3(K:K4)(p0 p1 p2 p3 c:Int):Prop:=Br (decide (c>0)) (K p0 p1 p2 (sOf p3 c%4294967296)) (K p0 p1 p2 p3)
def ad2(K:K4)(p0 p1 p2 p3 c:Int):Prop:=Br (decide (c>0)) (ad3 K p0 p1 (sOf p2 c%4294967296) p3 (aDc c (sOf p2 c))) (K p0 p1 p2 p3)
def ad1(K:K4)(p0 p1 p2 p3 c:Int):Prop:=Br (decide (c>0)) (ad2 K p0 (sOf p1 c%4294967296) p2 p3 (aDc c (sOf p1 c))) (K p0 p1 p2 p3)
def ad0(K:K4)(p0 p1 p2 p3 c:Int):Prop:=Br (decide (c>0)) (ad1 K (sOf p0 c%4294967296) p1 p2 p3 (aDc c (sOf p0 c))) (K p0 p1 p2 p3)
def aG6(l0 l1 m0 m1:Int)(K:K4):Prop:=
 ad0 (fun p0 p1 p2 p3=>ad1 (fun p0 p1 p2 p3=>ad1 (fun p0 p1 p2 p3=>ad2 K p0 p1 p2 p3 (IntKind.u64.wrap (l1*m1))) p0 p1 p2 p3 (IntKind.u64.wrap (l1*m0))) p0 p1 p2 p3 (IntKind.u64.wrap (l0*m1))) 0 0 0 0 (IntKind.u64.wrap (l0*m0))
structure Is4 (X a b c d:Int):Prop where
 a0:0<=a
 a1:a<4294967296
 b0:0<=b
 b1:b<4294967296
 c0:0<=c
 c1:c<4294967296
 d0:0<=d
 d1:d<4294967296
 eq:dv a b c d=X
theorem Is4.list{X a b c d:Int}(h:Is4 X a b c d):([.int .u64 a,.int .u64 b,.int .u64 c,.int .u64 d]:List SV)=rH X:=
 VL (dM.2 ⟨h.a1,h.b1,h.c1,h.d1⟩) h.a0 h.b0 h.c0 h.d0 h.eq
theorem adS{p c:Int}(hp:0<=p)(hp':p<4294967296)(hc:0<=c)(hc':c<18446744073709551616):sOf p c%4294967296=(p+c)%4294967296/\aDc c (sOf p c)=(p+c)/4294967296:=by
 unfold aDc sOf
 rw [DX,cz hc]
 simp only [dK]
 omega
theorem aHj{K:K4}{X a b c d u:Int}(h:Is4 X a b c d)(hu:0<=u)(hX:X+u*79228162514264337593543950336<340282366920938463463374607431768211456)(hK: ∀a b c d,Is4 (X+u*79228162514264337593543950336) a b c d->K a b c d):ad3 K a b c d u:=by
 obtain ⟨a0,a1,b0,b1,c0,c1,d0,d1,eq⟩:=h
 unfold dv at eq
 refine Br.of (fun c=>hK _ _ _ _ ?_) fun c=>hK _ _ _ _ ?_
 ·rw [(adS d0 d1 hu (by omega)).1]
  exact ⟨a0,a1,b0,b1,c0,c1,by omega,by omega,by unfold dv;omega⟩
 ·have:=ae c
  exact ⟨a0,a1,b0,b1,c0,c1,d0,d1,by unfold dv;omega⟩
theorem WA{K:K4}{X a b c d u:Int}(h:Is4 X a b c d)(hu:0<=u)(hu':u<18446744073709551616)(hX:X+u*18446744073709551616<340282366920938463463374607431768211456)(hK: ∀a b c d,Is4 (X+u*18446744073709551616) a b c d->K a b c d):ad2 K a b c d u:=by
 obtain ⟨a0,a1,b0,b1,c0,c1,d0,d1,eq⟩:=h
 have h:=adS c0 c1 hu hu'
 unfold dv at eq
 refine Br.of (fun _=> ?_) fun c=>hK _ _ _ _ ?_
 ·rw [h.1,h.2]
  have e:a+b*4294967296+(c+u)%4294967296*18446744073709551616+d*79228162514264337593543950336+(c+u)/4294967296*79228162514264337593543950336=X+u*18446744073709551616:=by omega
  refine aHj (X:=a+b*4294967296+(c+u)%4294967296*18446744073709551616+d*79228162514264337593543950336) ⟨a0,a1,b0,b1,by omega,by omega,d0,d1,rfl⟩ (by omega) (by omega) ?_
  rw [e];exact hK
 ·have:=ae c
  exact ⟨a0,a1,b0,b1,c0,c1,d0,d1,by unfold dv;omega⟩
theorem LW{K:K4}{X a b c d u:Int}(h:Is4 X a b c d)(hu:0<=u)(hu':u<18446744073709551616)(hX:X+u*4294967296<340282366920938463463374607431768211456)(hK: ∀a b c d,Is4 (X+u*4294967296) a b c d->K a b c d):ad1 K a b c d u:=by
 obtain ⟨a0,a1,b0,b1,c0,c1,d0,d1,eq⟩:=h
 have h:=adS b0 b1 hu hu'
 unfold dv at eq
 refine Br.of (fun _=> ?_) fun c=>hK _ _ _ _ ?_
 ·rw [h.1,h.2]
  have e:a+(b+u)%4294967296*4294967296+c*18446744073709551616+d*79228162514264337593543950336+(b+u)/4294967296*18446744073709551616=X+u*4294967296:=by omega
  refine WA (X:=a+(b+u)%4294967296*4294967296+c*18446744073709551616+d*79228162514264337593543950336) ⟨a0,a1,by omega,by omega,c0,c1,d0,d1,rfl⟩ (by omega) (by omega) (by omega) ?_
  rw [e];exact hK
 ·have:=ae c
  exact ⟨a0,a1,b0,b1,c0,c1,d0,d1,by unfold dv;omega⟩
theorem aFL{K:K4}{X a b c d u:Int}(h:Is4 X a b c d)(hu:0<=u)(hu':u<18446744073709551616)(hX:X+u<340282366920938463463374607431768211456)(hK: ∀a b c d,Is4 (X+u) a b c d->K a b c d):ad0 K a b c d u:=by
 obtain ⟨a0,a1,b0,b1,c0,c1,d0,d1,eq⟩:=h
 have h:=adS a0 a1 hu hu'
 unfold dv at eq
 refine Br.of (fun _=> ?_) fun c=>hK _ _ _ _ ?_
 ·rw [h.1,h.2]
  have e:(a+u)%4294967296+b*4294967296+c*18446744073709551616+d*79228162514264337593543950336+(a+u)/4294967296*4294967296=X+u:=by omega
  refine LW (X:=(a+u)%4294967296+b*4294967296+c*18446744073709551616+d*79228162514264337593543950336) ⟨by omega,by omega,b0,b1,c0,c1,d0,d1,rfl⟩ (by omega) (by omega) (by omega) ?_
  rw [e];exact hK
 ·have:=ae c
  exact ⟨a0,a1,b0,b1,c0,c1,d0,d1,by unfold dv;omega⟩
theorem PC{K:K4}{x y:Int}(hx:0<=x)(hx':x<=18446744073709551615)(hy:0<=y)(hy':y<=18446744073709551615)(hK: ∀a b c d,Is4 (x*y) a b c d->K a b c d):
  aG6 (x%4294967296) (x/4294967296) (y%4294967296) (y/4294967296) K:=by
 obtain ⟨h0,h1,h2,h3,h4,h5,h6,h7,h8⟩:=aCD hx hx' hy hy' rfl rfl rfl rfl
 unfold aG6
 simp only [dK]
 generalize x/4294967296*(y/4294967296)=p at*
 generalize x/4294967296*(y%4294967296)=q at*
 generalize x%4294967296*(y/4294967296)=r at*
 generalize x%4294967296*(y%4294967296)=s at*
 rw [show s%18446744073709551616=s by omega,show r%18446744073709551616=r by omega,show q%18446744073709551616=q by omega,show p%18446744073709551616=p by omega]
 refine aFL (X:=0) ⟨by omega,by omega,by omega,by omega,by omega,by omega,by omega,by omega,by unfold dv;omega⟩ (by omega) (by omega) (by omega) fun a b c d h=> ?_
 refine LW h (by omega) (by omega) (by omega) fun a b c d h=> ?_
 refine LW h (by omega) (by omega) (by omega) fun a b c d h=> ?_
 refine WA h (by omega) (by omega) (by omega) fun a b c d h=> ?_
 exact hK _ _ _ _ (by rw [h0,show p*18446744073709551616+(q+r)*4294967296+s=0+s+r*4294967296+q*4294967296+p*18446744073709551616 by omega];exact h)
theorem aDG(a b:Int):aQ a*aQ b=aQ (a*b):=by
 have h: ∀x:Int,aQ x=(x.natAbs:Int):=fun x=>by
  unfold aQ
  cases h:decide (x<0)
  ·have:=ae h;simp only [ap];omega
  ·have:=aa h;simp only [ar];omega
 rw [h,h,h,Int.natAbs_mul];rfl
def W2 :List SV->List (Option SB)->Out
 | [.int .i64 a,.int .i64 b],[]=>some (nSV (a*b),[],[])
 |_,_=>none
def O4 :List SV->List (Option SB)->Out
 | [.int .u64 n],[]=>some (.agg (rH (n*n)),[],[])
 |_,_=>none
end Go.Se
namespace Go.Proofs.YtghnfjfkjhbgdaaGreatDoor
open Go.Se
set_option maxRecDepth 100000
theorem jE(n:Int):aE Tryz.prog 72 [.int .i64 n] [] (.int .u64 (aQ n)) [] []:=
 aS k0 2 fun ⟨hn,_⟩ _ K hK=>by
  have hn': -9223372036854775808<=n/\n<=9223372036854775807:=hn
  have e: ∀K,run k0 2 72 [.int .i64 n] [] K=Br (decide (n<0))
   (K (.int .u64 (IntKind.u64.wrap (IntKind.u64.wrap (IntKind.i64.wrap (0 - IntKind.i64.wrap (n+1)))+1))) [] []) (K (.int .u64 (IntKind.u64.wrap n)) [] []):=fun K=>by kernel_rfl
  rw [e]
  simp only [dK,fK]
  unfold aQ at hK
  refine Br.of (fun c=> ?_) fun c=> ?_<;>rw [c] at hK<;>refine fin hK (congrArg (SV.int .u64) ?_)
  ·have:=aa c
   simp only [ar];omega
  ·have:=ae c
   simp only [ap];omega
theorem lL(n:Int):aE Tryz.prog 160 [.int .u64 n] [] (.int .u64 (n%4294967296)) [] []:=
 aS k0 2 fun ⟨hn,_⟩ _ K hK=>by
  have hn':0<=n/\n<=18446744073709551615:=hn
  have e: ∀K,run k0 2 160 [.int .u64 n] [] K=K (.int .u64 (n.tmod 4294967296)) [] []:=fun K=>by kernel_rfl
  rw [e,eo hn'.1]
  exact hK
noncomputable def q1 :bT Tryz.prog:=((k0).add 72 (one aCX) (aT fun xs σ v σ' d h=>by
  unfold aCX at h;split at h<;>cases h;first|exact jE|exact jE _|exact jE _ _|exact jE _ _ _|exact jE _ _ _ _|exact jE _ _ _ _ _|exact jE _ _ _ _ _ _|exact jE _ _ _ _ _ _ _|exact jE _ _ _ _ _ _ _ _|exact jE _ _ _ _ _ _ _ _ _|exact jE _ _ _ _ _ _ _ _ _ _|exact jE _ _ _ _ _ _ _ _ _ _ _)).add 160 (one aMk) (aT fun xs σ v σ' d h=>by
  unfold aMk at h;split at h<;>cases h;first|exact lL|exact lL _|exact lL _ _|exact lL _ _ _|exact lL _ _ _ _|exact lL _ _ _ _ _|exact lL _ _ _ _ _ _|exact lL _ _ _ _ _ _ _|exact lL _ _ _ _ _ _ _ _|exact lL _ _ _ _ _ _ _ _ _|exact lL _ _ _ _ _ _ _ _ _ _|exact lL _ _ _ _ _ _ _ _ _ _ _)
theorem cR(a b c d e f g h:Int)(hx:(dOk a b c d&&dOk e f g h)=true):aE Tryz.prog 157 [.agg [.int .u64 a,.int .u64 b,.int .u64 c,.int .u64 d],.agg [.int .u64 e,.int .u64 f,.int .u64 g,.int .u64 h]] []
  (.bool (decide (dv a b c d<dv e f g h))) [] []:=
 dT 5 q1 2 fun ⟨⟨ha,hb,hc,hd,_⟩,⟨he,hf,hg,hh,_⟩,_⟩ _ K hK=>by
  have ha':0<=a/\a<=18446744073709551615:=ha
  have hb':0<=b/\b<=18446744073709551615:=hb
  have hc':0<=c/\c<=18446744073709551615:=hc
  have hd':0<=d/\d<=18446744073709551615:=hd
  have he':0<=e/\e<=18446744073709551615:=he
  have hf':0<=f/\f<=18446744073709551615:=hf
  have hg':0<=g/\g<=18446744073709551615:=hg
  have hh':0<=h/\h<=18446744073709551615:=hh
  rw [af,dM,dM] at hx
  have e: ∀K,kC 5 q1 2 157 [.agg [.int .u64 a,.int .u64 b,.int .u64 c,.int .u64 d],.agg [.int .u64 e,.int .u64 f,.int .u64 g,.int .u64 h]] [] K=
   Br (d !=h) (K (.bool (decide (d<h))) [] []) (Br (c !=g) (K (.bool (decide (c<g))) [] []) (Br (b !=f) (K (.bool (decide (b<f))) [] []) (Br (a !=e) (K (.bool (decide (a<e))) [] []) (K (.bool false) [] [])))):=fun K=>by kernel_rfl
  rw [e]
  unfold dv at hK
  refine Br.of (fun h1=> ?_) fun h1=>Br.of (fun h2=> ?_) fun h2=>Br.of (fun h3=> ?_) fun h3=>Br.of (fun h4=> ?_) fun h4=> ?_<;>
   (try simp only [ei,ne_eq,dt] at h1)<;>(try simp only [ei,ne_eq,dt] at h2)<;>(try simp only [ei,ne_eq,dt] at h3)<;>(try simp only [ei,ne_eq,dt] at h4)<;>
   refine fin hK (congrArg SV.bool ?_)
  ·exact dw.2 (by omega)
  ·exact dw.2 (by omega)
  ·exact dw.2 (by omega)
  ·exact dw.2 (by omega)
  ·exact (aj (by omega)).symm
theorem cS(a b c d e f g h:Int)(hx:(dOk a b c d&&dOk e f g h)=true):aE Tryz.prog 156 [.agg [.int .u64 a,.int .u64 b,.int .u64 c,.int .u64 d],.agg [.int .u64 e,.int .u64 f,.int .u64 g,.int .u64 h]] []
  (.tup [.agg (rH (dv a b c d+dv e f g h)),.int .u64 ((dv a b c d+dv e f g h)/340282366920938463463374607431768211456)]) [] []:=
 dT 5 q1 2 fun ⟨⟨ha,hb,hc,hd,_⟩,⟨he,hf,hg,hh,_⟩,_⟩ _ K hK=>by
  have ha':0<=a/\a<=18446744073709551615:=ha
  have hb':0<=b/\b<=18446744073709551615:=hb
  have hc':0<=c/\c<=18446744073709551615:=hc
  have hd':0<=d/\d<=18446744073709551615:=hd
  have he':0<=e/\e<=18446744073709551615:=he
  have hf':0<=f/\f<=18446744073709551615:=hf
  have hg':0<=g/\g<=18446744073709551615:=hg
  have hh':0<=h/\h<=18446744073709551615:=hh
  rw [af,dM,dM] at hx
  have E: ∀K,kC 5 q1 2 156 [.agg [.int .u64 a,.int .u64 b,.int .u64 c,.int .u64 d],.agg [.int .u64 e,.int .u64 f,.int .u64 g,.int .u64 h]] [] K=
   (fun s0=>(fun s1=>(fun s2=>(fun s3=>K (.tup [.agg [.int .u64 (s0%4294967296),.int .u64 (s1%4294967296),.int .u64 (s2%4294967296),.int .u64 (s3%4294967296)],.int .u64 (IntKind.u64.wrap (s3.tdiv 4294967296))]) [] [])
    (IntKind.u64.wrap (IntKind.u64.wrap (d+h)+IntKind.u64.wrap (s2.tdiv 4294967296)))) (IntKind.u64.wrap (IntKind.u64.wrap (c+g)+IntKind.u64.wrap (s1.tdiv 4294967296)))) (IntKind.u64.wrap (IntKind.u64.wrap (b+f)+IntKind.u64.wrap (s0.tdiv 4294967296))))
    (IntKind.u64.wrap (IntKind.u64.wrap (a+e)+0)):=fun K=>by kernel_rfl
  rw [E]
  show K _ _ _
  simp only [DX]
  simp only [dK]
  have hs0:(a+e)/4294967296<=1/\0<=(a+e)/4294967296:=by omega
  generalize hk0:(a+e)/4294967296=k0 at hs0
  generalize hk1:(b+f+k0)/4294967296=k1
  have hs1:k1<=1/\0<=k1:=by omega
  generalize hk2:(c+g+k1)/4294967296=k2
  have hs2:k2<=1/\0<=k2:=by omega
  have e0:((a+e)%18446744073709551616+0)%18446744073709551616=a+e:=by omega
  rw [e0,hk0,show ((b+f)%18446744073709551616+k0%18446744073709551616)%18446744073709551616=b+f+k0 by omega,hk1,
   show ((c+g)%18446744073709551616+k1%18446744073709551616)%18446744073709551616=c+g+k1 by omega,hk2,
   show ((d+h)%18446744073709551616+k2%18446744073709551616)%18446744073709551616=d+h+k2 by omega]
  refine fin hK ?_
  rw [XH (X:=dv a b c d+dv e f g h) (by rw [dM];omega) (by omega) (by omega) (by omega) (by omega) (by unfold dv;omega)]
  congr 4
  unfold dv;omega
theorem cC(a b c d e f g h:Int)(hx:(dOk a b c d&&dOk e f g h&&decide (dv e f g h<=dv a b c d))=true):aE Tryz.prog 158 [.agg [.int .u64 a,.int .u64 b,.int .u64 c,.int .u64 d],.agg [.int .u64 e,.int .u64 f,.int .u64 g,.int .u64 h]] []
  (.agg (rH (dv a b c d - dv e f g h))) [] []:=
 dT 5 q1 2 fun ⟨⟨ha,hb,hc,hd,_⟩,⟨he,hf,hg,hh,_⟩,_⟩ _ K hK=>by
  have ha':0<=a/\a<=18446744073709551615:=ha
  have hb':0<=b/\b<=18446744073709551615:=hb
  have hc':0<=c/\c<=18446744073709551615:=hc
  have hd':0<=d/\d<=18446744073709551615:=hd
  have he':0<=e/\e<=18446744073709551615:=he
  have hf':0<=f/\f<=18446744073709551615:=hf
  have hg':0<=g/\g<=18446744073709551615:=hg
  have hh':0<=h/\h<=18446744073709551615:=hh
  simp only [af,dM,ak] at hx
  have E: ∀K,kC 5 q1 2 158 [.agg [.int .u64 a,.int .u64 b,.int .u64 c,.int .u64 d],.agg [.int .u64 e,.int .u64 f,.int .u64 g,.int .u64 h]] [] K=
   (fun st cr=>(fun s0=>(fun s1=>(fun s2=>(fun s3=>K (.agg [.int .u64 (s0%4294967296),.int .u64 (s1%4294967296),.int .u64 (s2%4294967296),.int .u64 (s3%4294967296)]) [] [])
    (st d h (cr s2))) (st c g (cr s1))) (st b f (cr s0))) (st a e 0))
    (fun x y k=>IntKind.u64.wrap (IntKind.u64.wrap (IntKind.u64.wrap (x+4294967296) - y) - k)) (fun s=>IntKind.u64.wrap (1 - IntKind.u64.wrap (s.tdiv 4294967296))):=fun K=>by kernel_rfl
  rw [E]
  dsimp only
  have st: ∀x y k:Int,0<=x->x<4294967296->0<=y->y<4294967296->0<=k->k<=1->IntKind.u64.wrap (IntKind.u64.wrap (IntKind.u64.wrap (x+4294967296) - y) - k)=x+4294967296 - y - k:=fun x y k _ _ _ _ _ _=>by simp only [dK];omega
  have cr: ∀x y k:Int,0<=x->x<4294967296->0<=y->y<4294967296->0<=k->k<=1->IntKind.u64.wrap (1 - IntKind.u64.wrap ((x+4294967296 - y - k).tdiv 4294967296))=1 - (x+4294967296 - y - k)/4294967296:=fun x y k _ _ _ _ _ _=>by
   rw [cz (by omega)];simp only [dK];omega
  obtain ⟨⟨hA,hB⟩,hle⟩:=hx
  rw [st a e 0 (by omega) (by omega) (by omega) (by omega) (by omega) (by omega),cr a e 0 (by omega) (by omega) (by omega) (by omega) (by omega) (by omega)]
  have r0:0<=1 - (a+4294967296 - e - 0)/4294967296/\1 - (a+4294967296 - e - 0)/4294967296<=1:=by omega
  generalize hk0:1 - (a+4294967296 - e - 0)/4294967296=k0 at r0|-
  rw [st b f k0 (by omega) (by omega) (by omega) (by omega) r0.1 r0.2,cr b f k0 (by omega) (by omega) (by omega) (by omega) r0.1 r0.2]
  have r1:0<=1 - (b+4294967296 - f - k0)/4294967296/\1 - (b+4294967296 - f - k0)/4294967296<=1:=by omega
  generalize hk1:1 - (b+4294967296 - f - k0)/4294967296=k1 at r1|-
  rw [st c g k1 (by omega) (by omega) (by omega) (by omega) r1.1 r1.2,cr c g k1 (by omega) (by omega) (by omega) (by omega) r1.1 r1.2]
  have r2:0<=1 - (c+4294967296 - g - k1)/4294967296/\1 - (c+4294967296 - g - k1)/4294967296<=1:=by omega
  generalize hk2:1 - (c+4294967296 - g - k1)/4294967296=k2 at r2|-
  rw [st d h k2 (by omega) (by omega) (by omega) (by omega) r2.1 r2.2]
  refine fin hK (congrArg SV.agg (VL (by rw [dM];omega) (by omega) (by omega) (by omega) (by omega) ?_))
  unfold dv at hle|-
  omega
theorem dA(s:Bool)(a b c d:Int):aE Tryz.prog 155 [.agg [.bool s,.int .u64 a,.int .u64 b,.int .u64 c,.int .u64 d]] [] (.bool (dv a b c d==0)) [] []:=
 aS q1 2 fun ⟨⟨_,ha,hb,hc,hd,_⟩,_⟩ _ K hK=>by
  have ha':0<=a/\a<=18446744073709551615:=ha
  have hb':0<=b/\b<=18446744073709551615:=hb
  have hc':0<=c/\c<=18446744073709551615:=hc
  have hd':0<=d/\d<=18446744073709551615:=hd
  have E: ∀K,run q1 2 155 [.agg [.bool s,.int .u64 a,.int .u64 b,.int .u64 c,.int .u64 d]] [] K=
   Br (a==0) (Br (b==0) (Br (c==0) (K (.bool (d==0)) [] []) (K (.bool false) [] [])) (K (.bool false) [] [])) (K (.bool false) [] []):=fun K=>by kernel_rfl
  rw [E]
  unfold dv at hK
  refine Br.of (fun h1=>Br.of (fun h2=>Br.of (fun h3=> ?_) fun h3=> ?_) fun h2=> ?_) fun h1=> ?_<;>refine fin hK (congrArg SV.bool ?_)<;>
   (try simp only [ci,ck,ne_eq] at h1)<;>(try simp only [ci,ck,ne_eq] at h2)<;>(try simp only [ci,ck,ne_eq] at h3)<;>rw [fv]<;>
   simp only [ci,bz,false_iff]<;>omega
noncomputable def q1z :bT Tryz.prog:=(q1).add 155 (one MK) (aT fun xs σ v σ' d h=>by
  unfold MK at h;split at h<;>cases h;first|exact dA|exact dA _|exact dA _ _|exact dA _ _ _|exact dA _ _ _ _|exact dA _ _ _ _ _|exact dA _ _ _ _ _ _|exact dA _ _ _ _ _ _ _|exact dA _ _ _ _ _ _ _ _|exact dA _ _ _ _ _ _ _ _ _|exact dA _ _ _ _ _ _ _ _ _ _|exact dA _ _ _ _ _ _ _ _ _ _ _)
theorem jS(s:Bool)(a b c d:Int):aE Tryz.prog 115 [.agg [.bool s,.int .u64 a,.int .u64 b,.int .u64 c,.int .u64 d]] [] (.int .i64 (gB (nv s a b c d) 0)) [] []:=
 aS q1z 2 fun ⟨⟨_,ha,hb,hc,hd,_⟩,_⟩ _ K hK=>by
  have ha':0<=a/\a<=18446744073709551615:=ha
  have hb':0<=b/\b<=18446744073709551615:=hb
  have hc':0<=c/\c<=18446744073709551615:=hc
  have hd':0<=d/\d<=18446744073709551615:=hd
  have E: ∀K,run q1z 2 115 [.agg [.bool s,.int .u64 a,.int .u64 b,.int .u64 c,.int .u64 d]] [] K=
   Br (dv a b c d==0) (K (.int .i64 0) [] []) (Br s (K (.int .i64 (-1)) [] []) (K (.int .i64 1) [] [])):=fun K=>by kernel_rfl
  rw [E]
  have h0:0<=dv a b c d:=by unfold dv;omega
  unfold nv gB at hK
  generalize dv a b c d=X at*
  refine Br.of (fun h1=> ?_) fun h1=>Br.of (fun h2=> ?_) fun h2=> ?_<;>(try subst h2)<;>refine fin hK (congrArg (SV.int .i64) ?_)<;>simp only [ci,ck,ne_eq] at h1
  ·subst h1
   cases s<;>rfl
  ·simp only [ar,ao (show -X<0 by omega)]
  ·simp only [ap,aj (show¬X<0 by omega),ao (show 0<X by omega),ar]
theorem oV(n:Int):aE Tryz.prog 162 [.int .i64 n] [] (nSV n) [] []:=
 aS q1 2 fun ⟨hn,_⟩ _ K hK=>by
  have hn': -9223372036854775808<=n/\n<=9223372036854775807:=hn
  have E: ∀K,run q1 2 162 [.int .i64 n] [] K=K (.agg [.bool (decide (n<0)),.int .u64 (aQ n%4294967296),.int .u64 (IntKind.u64.wrap ((aQ n).tdiv 4294967296)),.int .u64 0,.int .u64 0]) [] []:=fun K=>by kernel_rfl
  rw [E]
  have h0:=eO n
  have h1:aQ n<18446744073709551616:=qU (by omega) (by omega)
  rw [cz h0,dK]
  exact fin hK (aLk (by rw [dM];omega) (by omega) (by omega) (by omega) (by omega) rfl (by unfold dv;omega))
theorem GM {s:Bool} {a b c d:Int} {K:KC} (ha:0<=a) (hb:0<=b) (hc:0<=c) (hd:0<=d) (hx:dOk a b c d=true) (hK: ∀h l:Int,K (.tup [.int .i64 h,.int .u64 l,.bool (dG (nv s a b c d))]) [] [])
  (L1 L2 L3 L4 L5 L6:Int):Br (decide (IntKind.u64.wrap (IntKind.u64.wrap (d*4294967296)+c)>9223372036854775808)) (K (.tup [.int .i64 0,.int .u64 0,.bool false]) [] [])
   (Br (IntKind.u64.wrap (IntKind.u64.wrap (d*4294967296)+c)==9223372036854775808) (Br (IntKind.u64.wrap (IntKind.u64.wrap (b*4294967296)+a) !=0) (K (.tup [.int .i64 0,.int .u64 0,.bool false]) [] [])
    (Br (!s) (K (.tup [.int .i64 0,.int .u64 0,.bool false]) [] []) (∀h l:Int,K (.tup [.int .i64 h,.int .u64 l,.bool true]) [] []))) (∀h l:Int,K (.tup [.int .i64 h,.int .u64 l,.bool true]) [] [])):=by
 rw [dM] at hx
 have hi:=jU (nv s a b c d)
 simp only [dK]
 rw [show (d*4294967296%18446744073709551616+c)%18446744073709551616=d*4294967296+c by omega,show (b*4294967296%18446744073709551616+a)%18446744073709551616=b*4294967296+a by omega]
 have key: ∀B:Bool,(B=true↔ -170141183460469231731687303715884105728<=nv s a b c d/\nv s a b c d<170141183460469231731687303715884105728)-> ∀h l:Int,K (.tup [.int .i64 h,.int .u64 l,.bool B]) [] []:=fun B hB h l=>by
  rw [aCf hB];exact hK h l
 have hv:(s=true/\nv s a b c d= -dv a b c d)\/(s=false/\nv s a b c d=dv a b c d):=by cases s<;>simp [nv]
 unfold dv at hv
 refine Br.of (fun h1=>key _ ?_ 0 0) fun h1=>Br.of (fun h2=>Br.of (fun h3=>key _ ?_ 0 0) fun h3=>Br.of (fun h4=>key _ ?_ 0 0) fun h4=>key _ ?_) fun h2=>key _ ?_<;>
  simp only [ak,aw] at h1<;>(try simp only [ci,ck,ne_eq] at h2)<;>(try simp only [ei,ne_eq,dt] at h3)<;>(try simp only [dg,dr] at h4)<;>
  simp only [bz,false_iff,true_iff]
 ·rcases hv with ⟨_,hv⟩|⟨_,hv⟩<;>omega
 ·rcases hv with ⟨_,hv⟩|⟨_,hv⟩<;>omega
 ·rcases hv with ⟨h5,hv⟩|⟨_,hv⟩
  ·rw [h5] at h4;cases h4
  ·omega
 ·rcases hv with ⟨_,hv⟩|⟨h5,hv⟩
  ·omega
  ·rw [h5] at h4;cases h4
 ·rcases hv with ⟨_,hv⟩|⟨_,hv⟩<;>omega
def KI(x:Int):Int:=IntKind.u64.wrap ↑(BitVec.ofInt IntKind.u64.bits (if IntKind.u64.signed=true then -1 else IntKind.u64.max)^^^BitVec.ofInt IntKind.u64.bits x).toNat
def MB(s:Bool)(h l:Int)(K:KC):Prop:=
 Br s (Br (IntKind.u64.wrap (KI l+1)==0) (K (.tup [.int .i64 (IntKind.i64.wrap (IntKind.u64.wrap (KI h+1))),.int .u64 (IntKind.u64.wrap (KI l+1)),.bool true]) [] [])
  (K (.tup [.int .i64 (IntKind.i64.wrap (KI h)),.int .u64 (IntKind.u64.wrap (KI l+1)),.bool true]) [] []))
  (K (.tup [.int .i64 (IntKind.i64.wrap h),.int .u64 l,.bool true]) [] [])
theorem BQ(s:Bool)(a b c d:Int)(K:KC):run q1 2 159 [.agg [.bool s,.int .u64 a,.int .u64 b,.int .u64 c,.int .u64 d]] [] K=
  (fun h l=>Br (decide (h>9223372036854775808)) (K (.tup [.int .i64 0,.int .u64 0,.bool false]) [] [])
   (Br (h==9223372036854775808) (Br (l !=0) (K (.tup [.int .i64 0,.int .u64 0,.bool false]) [] [])
    (Br (!s) (K (.tup [.int .i64 0,.int .u64 0,.bool false]) [] []) (MB s h l K))) (MB s h l K)))
  (IntKind.u64.wrap (IntKind.u64.wrap (d*4294967296)+c)) (IntKind.u64.wrap (IntKind.u64.wrap (b*4294967296)+a)):=by kernel_rfl
theorem qS{c:Bool}{A B C D:Prop}(h:Br c A B)(f:A->C)(g:B->D):Br c C D:=by
 cases c
 ·exact g h
 ·exact f h
theorem aAF(xs:List SV)(σ:List (Option SB)):Sat Tryz.prog 159 xs σ (MP xs σ):=by
 intro K hK
 unfold MP at hK
 split at hK
 ·rename_i s a b c d
  obtain ⟨hx,hK⟩:=If.get hK
  have h: ∃h l:Int,aE Tryz.prog 159 [.agg [.bool s,.int .u64 a,.int .u64 b,.int .u64 c,.int .u64 d]] [] (.tup [.int .i64 h,.int .u64 l,.bool (dG (nv s a b c d))]) [] []:=by
   cases hin:dG (nv s a b c d) with
   |false=>
    refine ⟨0,0,aS q1 2 fun ⟨⟨_,ha,hb,hc,hd,_⟩,_⟩ _ K hK=> ?_⟩
    have ha':0<=a/\a<=18446744073709551615:=ha
    have hb':0<=b/\b<=18446744073709551615:=hb
    have hc':0<=c/\c<=18446744073709551615:=hc
    have hd':0<=d/\d<=18446744073709551615:=hd
    rw [BQ]
    have:= @GM s a b c d (fun v _ _=>match v with
     | .tup [_,_,.bool true]=>False
     |_=>K (.tup [.int .i64 0,.int .u64 0,.bool false]) [] []) ha'.1 hb'.1 hc'.1 hd'.1 hx (fun h l=>by rw [hin];exact hK) 0 0 0 0 0 0
    exact qS this id fun h=>qS h (fun h=>qS h id fun h=>qS h id fun h=>(h 0 0).elim) fun h=>(h 0 0).elim
   |true=>
    have hi:=(jU _).1 hin
    refine ⟨IntKind.i64.wrap (bif s then (bif IntKind.u64.wrap (KI (IntKind.u64.wrap (IntKind.u64.wrap (b*4294967296)+a))+1)==0 then IntKind.u64.wrap (KI (IntKind.u64.wrap (IntKind.u64.wrap (d*4294967296)+c))+1) else KI (IntKind.u64.wrap (IntKind.u64.wrap (d*4294967296)+c))) else IntKind.u64.wrap (IntKind.u64.wrap (d*4294967296)+c)),
     bif s then IntKind.u64.wrap (KI (IntKind.u64.wrap (IntKind.u64.wrap (b*4294967296)+a))+1) else IntKind.u64.wrap (IntKind.u64.wrap (b*4294967296)+a),aS q1 2 fun ⟨⟨_,ha,hb,hc,hd,_⟩,_⟩ _ K hK=> ?_⟩
    have ha':0<=a/\a<=18446744073709551615:=ha
    have hb':0<=b/\b<=18446744073709551615:=hb
    have hc':0<=c/\c<=18446744073709551615:=hc
    have hd':0<=d/\d<=18446744073709551615:=hd
    rw [BQ]
    have hT:MB s (IntKind.u64.wrap (IntKind.u64.wrap (d*4294967296)+c)) (IntKind.u64.wrap (IntKind.u64.wrap (b*4294967296)+a)) K:=by
     unfold MB
     refine Br.of (fun h1=>Br.of (fun h2=> ?_) fun h2=> ?_) fun h1=> ?_
     ·rw [h1,h2] at hK;exact hK
     ·rw [h1,h2] at hK;exact hK
     ·rw [h1] at hK;exact hK
    have:= @GM s a b c d (fun v _ _=>match v with
     | .tup [_,_,.bool true]=>True
     |_=>False) ha'.1 hb'.1 hc'.1 hd'.1 hx (fun h l=>by rw [hin];trivial) 0 0 0 0 0 0
    exact qS this (fun h=>h.elim) fun h=>qS h (fun h=>qS h (fun h=>h.elim) fun h=>qS h (fun h=>h.elim) fun _=>hT) fun _=>hT
  obtain ⟨h,l,hc⟩:=h
  exact ⟨_,_,_,hK h l,hc⟩
 ·exact hK.elim
noncomputable def q2 :bT Tryz.prog:=(((((((q1).add 155 (one MK) (aT fun xs σ v σ' d h=>by
  unfold MK at h;split at h<;>cases h;first|exact dA|exact dA _|exact dA _ _|exact dA _ _ _|exact dA _ _ _ _|exact dA _ _ _ _ _|exact dA _ _ _ _ _ _|exact dA _ _ _ _ _ _ _|exact dA _ _ _ _ _ _ _ _|exact dA _ _ _ _ _ _ _ _ _|exact dA _ _ _ _ _ _ _ _ _ _|exact dA _ _ _ _ _ _ _ _ _ _ _)).add 115 (one aEl) (aT fun xs σ v σ' d h=>by
  unfold aEl at h;split at h<;>cases h;first|exact jS|exact jS _|exact jS _ _|exact jS _ _ _|exact jS _ _ _ _|exact jS _ _ _ _ _|exact jS _ _ _ _ _ _|exact jS _ _ _ _ _ _ _|exact jS _ _ _ _ _ _ _ _|exact jS _ _ _ _ _ _ _ _ _|exact jS _ _ _ _ _ _ _ _ _ _|exact jS _ _ _ _ _ _ _ _ _ _ _)).add 162 (one aMb) (aT fun xs σ v σ' d h=>by
  unfold aMb at h;split at h<;>cases h;first|exact oV|exact oV _|exact oV _ _|exact oV _ _ _|exact oV _ _ _ _|exact oV _ _ _ _ _|exact oV _ _ _ _ _ _|exact oV _ _ _ _ _ _ _|exact oV _ _ _ _ _ _ _ _|exact oV _ _ _ _ _ _ _ _ _|exact oV _ _ _ _ _ _ _ _ _ _|exact oV _ _ _ _ _ _ _ _ _ _ _)).add 159 MP aAF).add 157 (iU aEk) (cE fun xs σ v σ' d h=>by
  unfold aEk at h;split at h
  ·simp only [an,bn] at h
   obtain ⟨h1,rfl,rfl,rfl⟩:=h
   first|exact cR h1|exact cR _ h1|exact cR _ _ h1|exact cR _ _ _ h1|exact cR _ _ _ _ h1|exact cR _ _ _ _ _ h1|exact cR _ _ _ _ _ _ h1|exact cR _ _ _ _ _ _ _ h1|exact cR _ _ _ _ _ _ _ _ h1|exact cR _ _ _ _ _ _ _ _ _ h1|exact cR _ _ _ _ _ _ _ _ _ _ h1|exact cR _ _ _ _ _ _ _ _ _ _ _ h1|exact cR _ _ _ _ _ _ _ _ _ _ _ _ h1|exact cR (aa h1)|exact cR _ (aa h1)|exact cR _ _ (aa h1)|exact cR _ _ _ (aa h1)|exact cR _ _ _ _ (aa h1)|exact cR _ _ _ _ _ (aa h1)|exact cR _ _ _ _ _ _ (aa h1)|exact cR _ _ _ _ _ _ _ (aa h1)|exact cR _ _ _ _ _ _ _ _ (aa h1)|exact cR _ _ _ _ _ _ _ _ _ (aa h1)|exact cR _ _ _ _ _ _ _ _ _ _ (aa h1)|exact cR _ _ _ _ _ _ _ _ _ _ _ (aa h1)|exact cR _ _ _ _ _ _ _ _ _ _ _ _ (aa h1)
  ·cases h)).add 156 (iU aFw) (cE fun xs σ v σ' d h=>by
  unfold aFw at h;split at h
  ·simp only [an,bn] at h
   obtain ⟨h1,rfl,rfl,rfl⟩:=h
   first|exact cS h1|exact cS _ h1|exact cS _ _ h1|exact cS _ _ _ h1|exact cS _ _ _ _ h1|exact cS _ _ _ _ _ h1|exact cS _ _ _ _ _ _ h1|exact cS _ _ _ _ _ _ _ h1|exact cS _ _ _ _ _ _ _ _ h1|exact cS _ _ _ _ _ _ _ _ _ h1|exact cS _ _ _ _ _ _ _ _ _ _ h1|exact cS _ _ _ _ _ _ _ _ _ _ _ h1|exact cS _ _ _ _ _ _ _ _ _ _ _ _ h1|exact cS (aa h1)|exact cS _ (aa h1)|exact cS _ _ (aa h1)|exact cS _ _ _ (aa h1)|exact cS _ _ _ _ (aa h1)|exact cS _ _ _ _ _ (aa h1)|exact cS _ _ _ _ _ _ (aa h1)|exact cS _ _ _ _ _ _ _ (aa h1)|exact cS _ _ _ _ _ _ _ _ (aa h1)|exact cS _ _ _ _ _ _ _ _ _ (aa h1)|exact cS _ _ _ _ _ _ _ _ _ _ (aa h1)|exact cS _ _ _ _ _ _ _ _ _ _ _ (aa h1)|exact cS _ _ _ _ _ _ _ _ _ _ _ _ (aa h1)
  ·cases h)).add 158 (iU WW) (cE fun xs σ v σ' d h=>by
  unfold WW at h;split at h
  ·simp only [an,bn] at h
   obtain ⟨h1,rfl,rfl,rfl⟩:=h
   first|exact cC h1|exact cC _ h1|exact cC _ _ h1|exact cC _ _ _ h1|exact cC _ _ _ _ h1|exact cC _ _ _ _ _ h1|exact cC _ _ _ _ _ _ h1|exact cC _ _ _ _ _ _ _ h1|exact cC _ _ _ _ _ _ _ _ h1|exact cC _ _ _ _ _ _ _ _ _ h1|exact cC _ _ _ _ _ _ _ _ _ _ h1|exact cC _ _ _ _ _ _ _ _ _ _ _ h1|exact cC _ _ _ _ _ _ _ _ _ _ _ _ h1|exact cC (aa h1)|exact cC _ (aa h1)|exact cC _ _ (aa h1)|exact cC _ _ _ (aa h1)|exact cC _ _ _ _ (aa h1)|exact cC _ _ _ _ _ (aa h1)|exact cC _ _ _ _ _ _ (aa h1)|exact cC _ _ _ _ _ _ _ (aa h1)|exact cC _ _ _ _ _ _ _ _ (aa h1)|exact cC _ _ _ _ _ _ _ _ _ (aa h1)|exact cC _ _ _ _ _ _ _ _ _ _ (aa h1)|exact cC _ _ _ _ _ _ _ _ _ _ _ (aa h1)|exact cC _ _ _ _ _ _ _ _ _ _ _ _ (aa h1)
  ·cases h)
theorem dZ(s t:Bool)(a b c d e f g h:Int)(hx:(dOk a b c d&&dOk e f g h)=true):aE Tryz.prog 119
  [.agg [.bool s,.int .u64 a,.int .u64 b,.int .u64 c,.int .u64 d],.agg [.bool t,.int .u64 e,.int .u64 f,.int .u64 g,.int .u64 h]] []
  (.tup [nSV (bif dG (nv s a b c d+nv t e f g h) then nv s a b c d+nv t e f g h else 0),.bool (dG (nv s a b c d+nv t e f g h))]) [] []:=
 aS q2 2 fun ⟨⟨_,ha,hb,hc,hd,_⟩,⟨_,he,hf,hg,hh,_⟩,_⟩ _ K hK=>by
  have ha':0<=a/\a<=18446744073709551615:=ha
  have hb':0<=b/\b<=18446744073709551615:=hb
  have hc':0<=c/\c<=18446744073709551615:=hc
  have hd':0<=d/\d<=18446744073709551615:=hd
  have he':0<=e/\e<=18446744073709551615:=he
  have hf':0<=f/\f<=18446744073709551615:=hf
  have hg':0<=g/\g<=18446744073709551615:=hg
  have hh':0<=h/\h<=18446744073709551615:=hh
  have E: ∀K,run q2 2 119 [.agg [.bool s,.int .u64 a,.int .u64 b,.int .u64 c,.int .u64 d],.agg [.bool t,.int .u64 e,.int .u64 f,.int .u64 g,.int .u64 h]] [] K=
   Br (s==t) (If (dOk a b c d&&dOk e f g h) (aDm ((dv a b c d+dv e f g h)/340282366920938463463374607431768211456==0) s (dv a b c d+dv e f g h) K))
    (If (dOk a b c d&&dOk e f g h) (Br (decide (dv a b c d<dv e f g h)) (If (dOk e f g h&&dOk a b c d&&decide (dv a b c d<=dv e f g h)) (aDm true t (dv e f g h - dv a b c d) K))
     (If (dOk a b c d&&dOk e f g h&&decide (dv e f g h<=dv a b c d)) (aDm true s (dv a b c d - dv e f g h) K)))):=fun K=>by kernel_rfl
  rw [E]
  have hx':=hx
  rw [af,dM,dM] at hx'
  have hA:0<=dv a b c d/\dv a b c d<340282366920938463463374607431768211456:=by unfold dv;omega
  have hB:0<=dv e f g h/\dv e f g h<340282366920938463463374607431768211456:=by unfold dv;omega
  have hAx:nv s a b c d=bif s then -dv a b c d else dv a b c d:=rfl
  have hBx:nv t e f g h=bif t then -dv e f g h else dv e f g h:=rfl
  rw [hAx,hBx] at hK
  rw [Bool.and_comm (dOk e f g h)]
  rw [hx]
  generalize dv a b c d=A at*
  generalize dv e f g h=B at*
  refine Br.of (fun h1=>If.mk rfl (D3 (by omega) (by omega) ?_ ?_ hK)) fun h1=>If.mk rfl (Br.of (fun h2=>If.mk ?_ (D3 (by have:=aa h2;omega) (by omega) ?_ ?_ hK)) fun h2=>If.mk ?_ (D3 (by have:=ae h2;omega) (by omega) ?_ ?_ hK))
  ·rw [fv,ci,ak];omega
  ·have:s=t:=by simpa using h1
   subst this
   cases s
   ·rfl
   ·simp only [ar];omega
  ·simpa using ed (aa h2)
  ·have:=aa h2;exact (ao (by omega)).symm
  ·cases s<;>cases t<;>simp at h1|-  <;>omega
  ·have:=ae h2;simpa using (by omega:B<=A)
  ·have:=ae h2;exact (ao (by omega)).symm
  ·cases s<;>cases t<;>simp at h1|-  <;>omega
theorem dV(s t:Bool)(a b c d e f g h:Int)(hx:(dOk a b c d&&dOk e f g h)=true):aE Tryz.prog 122
  [.agg [.bool s,.int .u64 a,.int .u64 b,.int .u64 c,.int .u64 d],.agg [.bool t,.int .u64 e,.int .u64 f,.int .u64 g,.int .u64 h]] []
  (.int .i64 (gB (nv s a b c d) (nv t e f g h))) [] []:=
 aS q2 2 fun ⟨⟨_,ha,hb,hc,hd,_⟩,⟨_,he,hf,hg,hh,_⟩,_⟩ _ K hK=>by
  have ha':0<=a/\a<=18446744073709551615:=ha
  have hb':0<=b/\b<=18446744073709551615:=hb
  have hc':0<=c/\c<=18446744073709551615:=hc
  have hd':0<=d/\d<=18446744073709551615:=hd
  have he':0<=e/\e<=18446744073709551615:=he
  have hf':0<=f/\f<=18446744073709551615:=hf
  have hg':0<=g/\g<=18446744073709551615:=hg
  have hh':0<=h/\h<=18446744073709551615:=hh
  have E: ∀K,run q2 2 122 [.agg [.bool s,.int .u64 a,.int .u64 b,.int .u64 c,.int .u64 d],.agg [.bool t,.int .u64 e,.int .u64 f,.int .u64 g,.int .u64 h]] [] K=
   Br (gB (nv s a b c d) 0 !=gB (nv t e f g h) 0) (Br (decide (gB (nv s a b c d) 0<gB (nv t e f g h) 0)) (K (.int .i64 (-1)) [] []) (K (.int .i64 1) [] []))
    (Br (a==e&&(b==f&&(c==g&&d==h))) (K (.int .i64 0) [] []) (If (dOk a b c d&&dOk e f g h) (Br (decide (dv a b c d<dv e f g h)==s) (K (.int .i64 1) [] []) (K (.int .i64 (-1)) [] [])))):=fun K=>by kernel_rfl
  rw [E,hx]
  rw [af,dM,dM] at hx
  have heq:(a==e&&(b==f&&(c==g&&d==h)))=decide (dv a b c d=dv e f g h):=by
   rw [fv]
   simp only [af,ci,ak]
   unfold dv;omega
  have hA:0<=dv a b c d:=by unfold dv;omega
  have hB:0<=dv e f g h:=by unfold dv;omega
  rw [heq]
  unfold nv at hK|-
  generalize dv a b c d=A at*
  generalize dv e f g h=B at*
  have cI: ∀x y:Int,(x<y/\gB x y= -1)\/(y<x/\gB x y=1)\/(x=y/\gB x y=0):=fun x y=>by
   unfold gB
   by_cases h1:x<y
   ·exact .inl ⟨h1,by rw [ao h1];rfl⟩
   ·by_cases h2:y<x
    ·exact .inr (.inl ⟨h2,by rw [aj h1,ao h2];rfl⟩)
    ·exact .inr (.inr ⟨by omega,by rw [aj h1,aj h2];rfl⟩)
  generalize hu:(bif s then -A else A)=u at*
  generalize hv:(bif t then -B else B)=v at*
  have hu':(s=true/\u= -A)\/(s=false/\u=A):=by cases s<;>simp at hu<;>simp [hu]
  have hv':(t=true/\v= -B)\/(t=false/\v=B):=by cases t<;>simp at hv<;>simp [hv]
  have h3:=cI u 0
  have h4:=cI v 0
  have h5:=cI u v
  generalize gB u 0=cu at*
  generalize gB v 0=cw at*
  generalize gB u v=cc at*
  refine Br.of (fun h1=>Br.of (fun h2=> ?_) fun h2=> ?_) fun h1=>Br.of (fun h2=> ?_) fun h2=>If.mk rfl (Br.of (fun h6=> ?_) fun h6=> ?_)<;>
   simp only [ei,ne_eq,dt,ak,aw] at h1 h2<;>refine fin hK (congrArg (SV.int .i64) ?_)
  ·omega
  ·omega
  ·rcases hu' with ⟨_,hu'⟩|⟨_,hu'⟩<;>rcases hv' with ⟨_,hv'⟩|⟨_,hv'⟩<;>omega
  ·rcases hu' with ⟨rfl,hu'⟩|⟨rfl,hu'⟩<;>simp only [ci,ak,aw] at h6<;>rcases hv' with ⟨_,hv'⟩|⟨_,hv'⟩<;>omega
  ·rcases hu' with ⟨rfl,hu'⟩|⟨rfl,hu'⟩<;>simp only [ck,ne_eq,ak,Bool.not_eq_true,aw,Bool.not_eq_false,Int.not_lt] at h6<;>rcases hv' with ⟨_,hv'⟩|⟨_,hv'⟩<;>omega
theorem UU(a b:Int)(K:KC):kC 5 q2 2 120 [.int .i64 a,.int .i64 b] [] K=
  aG6 (aQ a%4294967296) (IntKind.u64.wrap ((aQ a).tdiv 4294967296)) (aQ b%4294967296) (IntKind.u64.wrap ((aQ b).tdiv 4294967296)) fun p0 p1 p2 p3=>
   Br (dv p0 p1 p2 p3==0) (K (.agg [.bool false,.int .u64 p0,.int .u64 p1,.int .u64 p2,.int .u64 p3]) [] []) (K (.agg [.bool (!(decide (a<0)==decide (b<0))),.int .u64 p0,.int .u64 p1,.int .u64 p2,.int .u64 p3]) [] []):=by kernel_rfl
theorem GY(n:Int)(K:KC):kC 5 q2 2 161 [.int .u64 n] [] K=
  aG6 (n%4294967296) (IntKind.u64.wrap (n.tdiv 4294967296)) (n%4294967296) (IntKind.u64.wrap (n.tdiv 4294967296)) fun p0 p1 p2 p3=>
   K (.agg [.int .u64 p0,.int .u64 p1,.int .u64 p2,.int .u64 p3]) [] []:=by kernel_rfl
theorem eW(a b:Int):aE Tryz.prog 120 [.int .i64 a,.int .i64 b] [] (nSV (a*b)) [] []:=
 dT 5 q2 2 fun ⟨ha,hb,_⟩ _ K hK=>by
  have ha': -9223372036854775808<=a/\a<=9223372036854775807:=ha
  have hb': -9223372036854775808<=b/\b<=9223372036854775807:=hb
  have hA:=eO a
  have hB:=eO b
  have hA':aQ a<9223372036854775809:=qU (by omega) (by omega)
  have hB':aQ b<9223372036854775809:=qU (by omega) (by omega)
  rw [UU,cz hA,cz hB,dK,dK,show aQ a/4294967296%18446744073709551616=aQ a/4294967296 by omega,show aQ b/4294967296%18446744073709551616=aQ b/4294967296 by omega]
  refine PC hA (by omega) hB (by omega) fun p0 p1 p2 p3 h=> ?_
  have hl:=h.list
  rw [aDG] at h hl
  have he:=h.eq
  rw [he]
  have hn0:=eO (a*b)
  refine Br.of (fun c=> ?_) fun c=> ?_<;>simp only [ci,ck,ne_eq] at c<;>refine fin hK ?_<;>unfold nSV<;>rw [hl]
  ·have:decide (a*b<0)=false:=by
    cases hd:decide (a*b<0) with
    |false=>rfl
    |true=>
     have:=aa hd
     unfold aQ at c;rw [hd] at c;simp only [ar] at c;omega
   rw [this]
  ·have h0:a*b≠0:=fun h=>c (by rw [h];rfl)
   have ha0:a≠0:=fun h=>h0 (by rw [h,Int.zero_mul])
   have hb0:b≠0:=fun h=>h0 (by rw [h,Int.mul_zero])
   congr 3
   rw [fv]
   simp only [dg,ck,ne_eq,dw,ak]
   rcases Int.lt_or_lt_of_ne ha0 with h1|h1<;>rcases Int.lt_or_lt_of_ne hb0 with h2|h2
   ·have:=Int.mul_pos_of_neg_of_neg h1 h2;omega
   ·have:=Int.mul_neg_of_neg_of_pos h1 h2;omega
   ·have:=Int.mul_neg_of_pos_of_neg h1 h2;omega
   ·have:=Int.mul_pos h1 h2;omega
theorem gG(n:Int):aE Tryz.prog 161 [.int .u64 n] [] (.agg (rH (n*n))) [] []:=
 dT 5 q2 2 fun ⟨hn,_⟩ _ K hK=>by
  have hn':0<=n/\n<=18446744073709551615:=hn
  rw [GY,cz hn'.1,dK,show n/4294967296%18446744073709551616=n/4294967296 by omega]
  refine PC hn'.1 hn'.2 hn'.1 hn'.2 fun p0 p1 p2 p3 h=> ?_
  rw [h.list];exact hK
noncomputable def q3 :bT Tryz.prog:=((((q2).add 120 (one W2) (aT fun xs σ v σ' d h=>by
  unfold W2 at h;split at h<;>cases h;first|exact eW|exact eW _|exact eW _ _|exact eW _ _ _|exact eW _ _ _ _|exact eW _ _ _ _ _|exact eW _ _ _ _ _ _|exact eW _ _ _ _ _ _ _|exact eW _ _ _ _ _ _ _ _|exact eW _ _ _ _ _ _ _ _ _|exact eW _ _ _ _ _ _ _ _ _ _|exact eW _ _ _ _ _ _ _ _ _ _ _)).add 161 (one O4) (aT fun xs σ v σ' d h=>by
  unfold O4 at h;split at h<;>cases h;first|exact gG|exact gG _|exact gG _ _|exact gG _ _ _|exact gG _ _ _ _|exact gG _ _ _ _ _|exact gG _ _ _ _ _ _|exact gG _ _ _ _ _ _ _|exact gG _ _ _ _ _ _ _ _|exact gG _ _ _ _ _ _ _ _ _|exact gG _ _ _ _ _ _ _ _ _ _|exact gG _ _ _ _ _ _ _ _ _ _ _)).add 119 (iU aIc) (cE fun xs σ v σ' d h=>by
  unfold aIc at h;split at h
  ·simp only [an,bn] at h
   obtain ⟨h1,rfl,rfl,rfl⟩:=h
   first|exact dZ h1|exact dZ _ h1|exact dZ _ _ h1|exact dZ _ _ _ h1|exact dZ _ _ _ _ h1|exact dZ _ _ _ _ _ h1|exact dZ _ _ _ _ _ _ h1|exact dZ _ _ _ _ _ _ _ h1|exact dZ _ _ _ _ _ _ _ _ h1|exact dZ _ _ _ _ _ _ _ _ _ h1|exact dZ _ _ _ _ _ _ _ _ _ _ h1|exact dZ _ _ _ _ _ _ _ _ _ _ _ h1|exact dZ _ _ _ _ _ _ _ _ _ _ _ _ h1|exact dZ (aa h1)|exact dZ _ (aa h1)|exact dZ _ _ (aa h1)|exact dZ _ _ _ (aa h1)|exact dZ _ _ _ _ (aa h1)|exact dZ _ _ _ _ _ (aa h1)|exact dZ _ _ _ _ _ _ (aa h1)|exact dZ _ _ _ _ _ _ _ (aa h1)|exact dZ _ _ _ _ _ _ _ _ (aa h1)|exact dZ _ _ _ _ _ _ _ _ _ (aa h1)|exact dZ _ _ _ _ _ _ _ _ _ _ (aa h1)|exact dZ _ _ _ _ _ _ _ _ _ _ _ (aa h1)|exact dZ _ _ _ _ _ _ _ _ _ _ _ _ (aa h1)
  ·cases h)).add 122 (iU aIy) (cE fun xs σ v σ' d h=>by
  unfold aIy at h;split at h
  ·simp only [an,bn] at h
   obtain ⟨h1,rfl,rfl,rfl⟩:=h
   first|exact dV h1|exact dV _ h1|exact dV _ _ h1|exact dV _ _ _ h1|exact dV _ _ _ _ h1|exact dV _ _ _ _ _ h1|exact dV _ _ _ _ _ _ h1|exact dV _ _ _ _ _ _ _ h1|exact dV _ _ _ _ _ _ _ _ h1|exact dV _ _ _ _ _ _ _ _ _ h1|exact dV _ _ _ _ _ _ _ _ _ _ h1|exact dV _ _ _ _ _ _ _ _ _ _ _ h1|exact dV _ _ _ _ _ _ _ _ _ _ _ _ h1|exact dV (aa h1)|exact dV _ (aa h1)|exact dV _ _ (aa h1)|exact dV _ _ _ (aa h1)|exact dV _ _ _ _ (aa h1)|exact dV _ _ _ _ _ (aa h1)|exact dV _ _ _ _ _ _ (aa h1)|exact dV _ _ _ _ _ _ _ (aa h1)|exact dV _ _ _ _ _ _ _ _ (aa h1)|exact dV _ _ _ _ _ _ _ _ _ (aa h1)|exact dV _ _ _ _ _ _ _ _ _ _ (aa h1)|exact dV _ _ _ _ _ _ _ _ _ _ _ (aa h1)|exact dV _ _ _ _ _ _ _ _ _ _ _ _ (aa h1)
  ·cases h)
end Go.Proofs.YtghnfjfkjhbgdaaGreatDoor
namespace Go.Se
def sW(a b c d bit:Int):Bool:=dOk a b c d&&decide (bit<=1)
def XE :List SV->List (Option SB)->uI
 | [.agg [.int .u64 a,.int .u64 b,.int .u64 c,.int .u64 d],.int .u64 k],[]=>some (sW a b c d k,.agg (rH (2*dv a b c d+k)),[],[])
 |_,_=>none
def aLj(n:Nat)(a b c d:Int):Int:=((match n/32 with|0=>a|1=>b|2=>c|_=>d).fdiv (2^(n%32))).tmod 2
def aCe(X:Int)(i:Int):Int:=X/2^i.toNat%2
def aEN(a b c d i:Int):Bool:=dOk a b c d&&(decide (0<=i)&&decide (i<=127))
def aIi :List SV->List (Option SB)->uI
 | [.agg [.int .u64 a,.int .u64 b,.int .u64 c,.int .u64 d],.int .i64 i],[]=>some (aEN a b c d i,.int .u64 (aCe (dv a b c d) i),[],[])
 |_,_=>none
theorem aLB(V:Int): ∀r:Nat,r<32->(V%4294967296)/2^r%2=V/2^r%2
 |0,_=>by show (V%4294967296)/1%2=V/1%2;omega
 |1,_=>by show (V%4294967296)/2%2=V/2%2;omega
 |2,_=>by show (V%4294967296)/4%2=V/4%2;omega
 |3,_=>by show (V%4294967296)/8%2=V/8%2;omega
 |4,_=>by show (V%4294967296)/16%2=V/16%2;omega
 |5,_=>by show (V%4294967296)/32%2=V/32%2;omega
 |6,_=>by show (V%4294967296)/64%2=V/64%2;omega
 |7,_=>by show (V%4294967296)/128%2=V/128%2;omega
 |8,_=>by show (V%4294967296)/256%2=V/256%2;omega
 |9,_=>by show (V%4294967296)/512%2=V/512%2;omega
 |10,_=>by show (V%4294967296)/1024%2=V/1024%2;omega
 |11,_=>by show (V%4294967296)/2048%2=V/2048%2;omega
 |12,_=>by show (V%4294967296)/4096%2=V/4096%2;omega
 |13,_=>by show (V%4294967296)/8192%2=V/8192%2;omega
 |14,_=>by show (V%4294967296)/16384%2=V/16384%2;omega
 |15,_=>by show (V%4294967296)/32768%2=V/32768%2;omega
 |16,_=>by show (V%4294967296)/65536%2=V/65536%2;omega
 |17,_=>by show (V%4294967296)/131072%2=V/131072%2;omega
 |18,_=>by show (V%4294967296)/262144%2=V/262144%2;omega
 |19,_=>by show (V%4294967296)/524288%2=V/524288%2;omega
 |20,_=>by show (V%4294967296)/1048576%2=V/1048576%2;omega
 |21,_=>by show (V%4294967296)/2097152%2=V/2097152%2;omega
 |22,_=>by show (V%4294967296)/4194304%2=V/4194304%2;omega
 |23,_=>by show (V%4294967296)/8388608%2=V/8388608%2;omega
 |24,_=>by show (V%4294967296)/16777216%2=V/16777216%2;omega
 |25,_=>by show (V%4294967296)/33554432%2=V/33554432%2;omega
 |26,_=>by show (V%4294967296)/67108864%2=V/67108864%2;omega
 |27,_=>by show (V%4294967296)/134217728%2=V/134217728%2;omega
 |28,_=>by show (V%4294967296)/268435456%2=V/268435456%2;omega
 |29,_=>by show (V%4294967296)/536870912%2=V/536870912%2;omega
 |30,_=>by show (V%4294967296)/1073741824%2=V/1073741824%2;omega
 |31,_=>by show (V%4294967296)/2147483648%2=V/2147483648%2;omega
 |r+32,h=>absurd h (by omega)
theorem aGc{a b c d X:Int}(h:Is4 X a b c d){n:Nat}(hn:n<128):aLj n a b c d=X/2^n%2:=by
 obtain ⟨a0,a1,b0,b1,c0,c1,d0,d1,eq⟩:=h
 unfold dv at eq
 have hp: ∀k:Nat,(0:Int)<2^k:=fun k=>ic (by decide)
 have key: ∀(x:Int) (j:Nat),0<=x->x=X/2^(32*j)%4294967296->n=32*j+n%32->(x.fdiv (2^(n%32))).tmod 2=X/2^n%2:=fun x j h0 hx hj=>by
  rw [kP _ (ed (hp _)),eo (dx h0 (ed (hp _))),hx,aLB _ _ (Nat.mod_lt _ (by decide)),Int.ediv_ediv_of_nonneg (ed (hp _)),<- Int.pow_add,<- hj]
 unfold aLj
 have h4:n/32=0\/n/32=1\/n/32=2\/n/32=3:=by omega
 rcases h4 with h|h|h|h<;>rw [h]
 ·exact key a 0 a0 (by simp;omega) (by omega)
 ·exact key b 1 b0 (by show b=X/4294967296%4294967296;omega) (by omega)
 ·exact key c 2 c0 (by show c=X/18446744073709551616%4294967296;omega) (by omega)
 ·exact key d 3 d0 (by show d=X/79228162514264337593543950336%4294967296;omega) (by omega)
def PI(a b c d e f g h:Int):Bool:=(dOk a b c d&&dOk e f g h)&&(decide (0<dv e f g h)&&decide (dv e f g h<170141183460469231731687303715884105728))
def aCJ :List SV->List (Option SB)->uI
 | [.agg [.int .u64 a,.int .u64 b,.int .u64 c,.int .u64 d],.agg [.int .u64 e,.int .u64 f,.int .u64 g,.int .u64 h]],[]=>
  some (PI a b c d e f g h,.tup [.agg (rH (dv a b c d/dv e f g h)),.agg (rH (dv a b c d%dv e f g h))],[],[])
 |_,_=>none
theorem ZQ{A B:Int}{n:Nat}(hA:0<=A)(hB:0<B): ∃Q R b:Int,Q=A/2^(n+1)/B/\R=A/2^(n+1)%B/\b=A/2^n%2/\0<=Q/\0<=R/\R<B/\0<=b/\b<=1/\
  (2*R+b<B->A/2^n/B=2*Q/\A/2^n%B=2*R+b)/\(B<=2*R+b->A/2^n/B=2*Q+1/\A/2^n%B=2*R+b - B):=by
 have hp: ∀k:Nat,(0:Int)<2^k:=fun k=>ic (by decide)
 have h2:A/2^(n+1)=A/2^n/2:=by rw [fi,Int.ediv_ediv_of_nonneg (ed (hp n))]
 have hX:0<=A/2^n:=dx hA (ed (hp n))
 rw [h2]
 generalize A/2^n=X at*
 refine ⟨_,_,_,rfl,rfl,rfl,dx (by omega) (by omega),gv _ (by omega),gp _ hB,by omega,by omega, ?_, ?_⟩
 all_goals
  have e:=Int.mul_ediv_add_emod (X/2) B
  have hr0:=gv (X/2) (show B≠0 by omega)
  have hr1:=gp (X/2) hB
  generalize X/2/B=Q at*
  generalize X/2%B=R at*
  have hX2:X=2*(B*Q)+(2*R+X%2):=by omega
  intro hlt
 ·have:X=(2*R+X%2)+B*(2*Q):=by rw [show B*(2*Q)=2*(B*Q) by grind];omega
  have hd:X/B=2*Q:=by
   rw [this,Int.add_mul_ediv_left _ _ (by omega),Int.ediv_eq_zero_of_lt (by omega) (by omega)];omega
  refine ⟨hd, ?_⟩
  have:=Int.mul_ediv_add_emod X B
  rw [hd,show B*(2*Q)=2*(B*Q) by grind] at this
  omega
 ·have:X=(2*R+X%2 - B)+B*(2*Q+1):=by rw [show B*(2*Q+1)=2*(B*Q)+B by grind];omega
  have hd:X/B=2*Q+1:=by
   rw [this,Int.add_mul_ediv_left _ _ (by omega),Int.ediv_eq_zero_of_lt (by omega) (by omega)];omega
  refine ⟨hd, ?_⟩
  have:=Int.mul_ediv_add_emod X B
  rw [hd,show B*(2*Q+1)=2*(B*Q)+B by grind] at this
  omega
theorem A7(x:Int):0<=x*x:=by rw [<- Int.natAbs_mul_self];omega
theorem MQ{N r:Int}(h0:0<=N)(h1:N<170141183460469231731687303715884105728)(hr:0<=r)(ha:r*r<=N)(hb:N<(r+1)*(r+1)):gU N=r:=by
 obtain ⟨a,b,c,d⟩:=PR h0 h1
 have key: ∀s t:Int,0<=s->0<=t->s*s<=N->N<(t+1)*(t+1)->s<=t:=fun s t hs ht h3 h4=>by
  refine Int.le_of_not_gt fun hgt=> ?_
  have h5:(t+1)*(t+1)<=s*s:=ga (by omega) (by omega) (by omega) (by omega)
  omega
 have:=key _ _ a hr c hb
 have:=key _ _ hr a ha d
 omega
def aDS :List SV->List (Option SB)->uI
 | [.agg [.bool s,.int .u64 a,.int .u64 b,.int .u64 c,.int .u64 d]],[]=>
  some (dOk a b c d&&decide (nv s a b c d<170141183460469231731687303715884105728),.int .u64 (gU (nv s a b c d)),[],[])
 |_,_=>none
end Go.Se
namespace Go.Proofs.YtghnfjfkjhbgdaaGreatDoor
open Go.Se
set_option maxRecDepth 100000
theorem bZ(a b c d k:Int)(hx:sW a b c d k=true):aE Tryz.prog 164 [.agg [.int .u64 a,.int .u64 b,.int .u64 c,.int .u64 d],.int .u64 k] [] (.agg (rH (2*dv a b c d+k))) [] []:=
 dT 5 q1 2 fun ⟨⟨ha,hb,hc,hd,_⟩,hk,_⟩ _ K hK=>by
  have ha':0<=a/\a<=18446744073709551615:=ha
  have hb':0<=b/\b<=18446744073709551615:=hb
  have hc':0<=c/\c<=18446744073709551615:=hc
  have hd':0<=d/\d<=18446744073709551615:=hd
  have hk':0<=k/\k<=18446744073709551615:=hk
  unfold sW at hx
  rw [af,dM,ak] at hx
  have E: ∀K,kC 5 q1 2 164 [.agg [.int .u64 a,.int .u64 b,.int .u64 c,.int .u64 d],.int .u64 k] [] K=
   (fun s0=>(fun s1=>(fun s2=>(fun s3=>K (.agg [.int .u64 (s0%4294967296),.int .u64 (s1%4294967296),.int .u64 (s2%4294967296),.int .u64 (s3%4294967296)]) [] [])
    (IntKind.u64.wrap (IntKind.u64.wrap (2*d)+IntKind.u64.wrap (s2.tdiv 4294967296)))) (IntKind.u64.wrap (IntKind.u64.wrap (2*c)+IntKind.u64.wrap (s1.tdiv 4294967296)))) (IntKind.u64.wrap (IntKind.u64.wrap (2*b)+IntKind.u64.wrap (s0.tdiv 4294967296))))
    (IntKind.u64.wrap (IntKind.u64.wrap (2*a)+k)):=fun K=>by kernel_rfl
  rw [E]
  show K _ _ _
  simp only [DX]
  simp only [dK]
  obtain ⟨⟨x1,x2,x3,x4⟩,x5⟩:=hx
  rw [show (2*a%18446744073709551616+k)%18446744073709551616=2*a+k by omega]
  generalize hk0:(2*a+k)/4294967296=k0
  have r0:0<=k0/\k0<=1:=by omega
  rw [show (2*b%18446744073709551616+k0%18446744073709551616)%18446744073709551616=2*b+k0 by omega]
  generalize hk1:(2*b+k0)/4294967296=k1
  have r1:0<=k1/\k1<=1:=by omega
  rw [show (2*c%18446744073709551616+k1%18446744073709551616)%18446744073709551616=2*c+k1 by omega]
  generalize hk2:(2*c+k1)/4294967296=k2
  have r2:0<=k2/\k2<=1:=by omega
  rw [show (2*d%18446744073709551616+k2%18446744073709551616)%18446744073709551616=2*d+k2 by omega]
  exact fin hK (congrArg SV.agg (XH (by rw [dM];omega) (by omega) (by omega) (by omega) (by omega) (by unfold dv;omega)))
theorem aGJ(a b c d:Int): ∀n:Nat,n<128-> ∀K,run q1 2 200 [.agg [.int .u64 a,.int .u64 b,.int .u64 c,.int .u64 d],.int .i64 (n:Int)] [] K=K (.int .u64 (aLj n a b c d)) [] []
 |0,_,K=>by kernel_rfl
 |1,_,K=>by kernel_rfl
 |2,_,K=>by kernel_rfl
 |3,_,K=>by kernel_rfl
 |4,_,K=>by kernel_rfl
 |5,_,K=>by kernel_rfl
 |6,_,K=>by kernel_rfl
 |7,_,K=>by kernel_rfl
 |8,_,K=>by kernel_rfl
 |9,_,K=>by kernel_rfl
 |10,_,K=>by kernel_rfl
 |11,_,K=>by kernel_rfl
 |12,_,K=>by kernel_rfl
 |13,_,K=>by kernel_rfl
 |14,_,K=>by kernel_rfl
 |15,_,K=>by kernel_rfl
 |16,_,K=>by kernel_rfl
 |17,_,K=>by kernel_rfl
 |18,_,K=>by kernel_rfl
 |19,_,K=>by kernel_rfl
 |20,_,K=>by kernel_rfl
 |21,_,K=>by kernel_rfl
 |22,_,K=>by kernel_rfl
 |23,_,K=>by kernel_rfl
 |24,_,K=>by kernel_rfl
 |25,_,K=>by kernel_rfl
 |26,_,K=>by kernel_rfl
 |27,_,K=>by kernel_rfl
 |28,_,K=>by kernel_rfl
 |29,_,K=>by kernel_rfl
 |30,_,K=>by kernel_rfl
 |31,_,K=>by kernel_rfl
 |32,_,K=>by kernel_rfl
 |33,_,K=>by kernel_rfl
 |34,_,K=>by kernel_rfl
 |35,_,K=>by kernel_rfl
 |36,_,K=>by kernel_rfl
 |37,_,K=>by kernel_rfl
 |38,_,K=>by kernel_rfl
 |39,_,K=>by kernel_rfl
 |40,_,K=>by kernel_rfl
 |41,_,K=>by kernel_rfl
 |42,_,K=>by kernel_rfl
 |43,_,K=>by kernel_rfl
 |44,_,K=>by kernel_rfl
 |45,_,K=>by kernel_rfl
 |46,_,K=>by kernel_rfl
 |47,_,K=>by kernel_rfl
 |48,_,K=>by kernel_rfl
 |49,_,K=>by kernel_rfl
 |50,_,K=>by kernel_rfl
 |51,_,K=>by kernel_rfl
 |52,_,K=>by kernel_rfl
 |53,_,K=>by kernel_rfl
 |54,_,K=>by kernel_rfl
 |55,_,K=>by kernel_rfl
 |56,_,K=>by kernel_rfl
 |57,_,K=>by kernel_rfl
 |58,_,K=>by kernel_rfl
 |59,_,K=>by kernel_rfl
 |60,_,K=>by kernel_rfl
 |61,_,K=>by kernel_rfl
 |62,_,K=>by kernel_rfl
 |63,_,K=>by kernel_rfl
 |64,_,K=>by kernel_rfl
 |65,_,K=>by kernel_rfl
 |66,_,K=>by kernel_rfl
 |67,_,K=>by kernel_rfl
 |68,_,K=>by kernel_rfl
 |69,_,K=>by kernel_rfl
 |70,_,K=>by kernel_rfl
 |71,_,K=>by kernel_rfl
 |72,_,K=>by kernel_rfl
 |73,_,K=>by kernel_rfl
 |74,_,K=>by kernel_rfl
 |75,_,K=>by kernel_rfl
 |76,_,K=>by kernel_rfl
 |77,_,K=>by kernel_rfl
 |78,_,K=>by kernel_rfl
 |79,_,K=>by kernel_rfl
 |80,_,K=>by kernel_rfl
 |81,_,K=>by kernel_rfl
 |82,_,K=>by kernel_rfl
 |83,_,K=>by kernel_rfl
 |84,_,K=>by kernel_rfl
 |85,_,K=>by kernel_rfl
 |86,_,K=>by kernel_rfl
 |87,_,K=>by kernel_rfl
 |88,_,K=>by kernel_rfl
 |89,_,K=>by kernel_rfl
 |90,_,K=>by kernel_rfl
 |91,_,K=>by kernel_rfl
 |92,_,K=>by kernel_rfl
 |93,_,K=>by kernel_rfl
 |94,_,K=>by kernel_rfl
 |95,_,K=>by kernel_rfl
 |96,_,K=>by kernel_rfl
 |97,_,K=>by kernel_rfl
 |98,_,K=>by kernel_rfl
 |99,_,K=>by kernel_rfl
 |100,_,K=>by kernel_rfl
 |101,_,K=>by kernel_rfl
 |102,_,K=>by kernel_rfl
 |103,_,K=>by kernel_rfl
 |104,_,K=>by kernel_rfl
 |105,_,K=>by kernel_rfl
 |106,_,K=>by kernel_rfl
 |107,_,K=>by kernel_rfl
 |108,_,K=>by kernel_rfl
 |109,_,K=>by kernel_rfl
 |110,_,K=>by kernel_rfl
 |111,_,K=>by kernel_rfl
 |112,_,K=>by kernel_rfl
 |113,_,K=>by kernel_rfl
 |114,_,K=>by kernel_rfl
 |115,_,K=>by kernel_rfl
 |116,_,K=>by kernel_rfl
 |117,_,K=>by kernel_rfl
 |118,_,K=>by kernel_rfl
 |119,_,K=>by kernel_rfl
 |120,_,K=>by kernel_rfl
 |121,_,K=>by kernel_rfl
 |122,_,K=>by kernel_rfl
 |123,_,K=>by kernel_rfl
 |124,_,K=>by kernel_rfl
 |125,_,K=>by kernel_rfl
 |126,_,K=>by kernel_rfl
 |127,_,K=>by kernel_rfl
 |n+128,h,_=>absurd h (by omega)
theorem dU(a b c d i:Int)(hx:aEN a b c d i=true):aE Tryz.prog 200 [.agg [.int .u64 a,.int .u64 b,.int .u64 c,.int .u64 d],.int .i64 i] [] (.int .u64 (aCe (dv a b c d) i)) [] []:=by
 unfold aEN at hx
 simp only [af,dM,ak] at hx
 obtain ⟨⟨x1,x2,x3,x4⟩,x5,x6⟩:=hx
 obtain ⟨n,rfl⟩:=fq x5
 refine aS q1 2 fun ⟨⟨ha,hb,hc,hd,_⟩,_⟩ _ K hK=> ?_
 have ha':0<=a/\a<=18446744073709551615:=ha
 have hb':0<=b/\b<=18446744073709551615:=hb
 have hc':0<=c/\c<=18446744073709551615:=hc
 have hd':0<=d/\d<=18446744073709551615:=hd
 rw [aGJ a b c d n (by omega)]
 refine fin hK (congrArg (SV.int .u64) ?_)
 rw [aGc (X:=dv a b c d) ⟨ha'.1,x1,hb'.1,x2,hc'.1,x3,hd'.1,x4,rfl⟩ (by omega)]
 rfl
noncomputable def q4 :bT Tryz.prog:=((q3).add 164 (iU XE) (cE fun xs σ v σ' d h=>by
  unfold XE at h;split at h
  ·simp only [an,bn] at h
   obtain ⟨h1,rfl,rfl,rfl⟩:=h
   first|exact bZ h1|exact bZ _ h1|exact bZ _ _ h1|exact bZ _ _ _ h1|exact bZ _ _ _ _ h1|exact bZ _ _ _ _ _ h1|exact bZ _ _ _ _ _ _ h1|exact bZ _ _ _ _ _ _ _ h1|exact bZ _ _ _ _ _ _ _ _ h1|exact bZ _ _ _ _ _ _ _ _ _ h1|exact bZ _ _ _ _ _ _ _ _ _ _ h1|exact bZ _ _ _ _ _ _ _ _ _ _ _ h1|exact bZ _ _ _ _ _ _ _ _ _ _ _ _ h1|exact bZ (aa h1)|exact bZ _ (aa h1)|exact bZ _ _ (aa h1)|exact bZ _ _ _ (aa h1)|exact bZ _ _ _ _ (aa h1)|exact bZ _ _ _ _ _ (aa h1)|exact bZ _ _ _ _ _ _ (aa h1)|exact bZ _ _ _ _ _ _ _ (aa h1)|exact bZ _ _ _ _ _ _ _ _ (aa h1)|exact bZ _ _ _ _ _ _ _ _ _ (aa h1)|exact bZ _ _ _ _ _ _ _ _ _ _ (aa h1)|exact bZ _ _ _ _ _ _ _ _ _ _ _ (aa h1)|exact bZ _ _ _ _ _ _ _ _ _ _ _ _ (aa h1)
  ·cases h)).add 200 (iU aIi) (cE fun xs σ v σ' d h=>by
  unfold aIi at h;split at h
  ·simp only [an,bn] at h
   obtain ⟨h1,rfl,rfl,rfl⟩:=h
   first|exact dU h1|exact dU _ h1|exact dU _ _ h1|exact dU _ _ _ h1|exact dU _ _ _ _ h1|exact dU _ _ _ _ _ h1|exact dU _ _ _ _ _ _ h1|exact dU _ _ _ _ _ _ _ h1|exact dU _ _ _ _ _ _ _ _ h1|exact dU _ _ _ _ _ _ _ _ _ h1|exact dU _ _ _ _ _ _ _ _ _ _ h1|exact dU _ _ _ _ _ _ _ _ _ _ _ h1|exact dU _ _ _ _ _ _ _ _ _ _ _ _ h1|exact dU (aa h1)|exact dU _ (aa h1)|exact dU _ _ (aa h1)|exact dU _ _ _ (aa h1)|exact dU _ _ _ _ (aa h1)|exact dU _ _ _ _ _ (aa h1)|exact dU _ _ _ _ _ _ (aa h1)|exact dU _ _ _ _ _ _ _ (aa h1)|exact dU _ _ _ _ _ _ _ _ (aa h1)|exact dU _ _ _ _ _ _ _ _ _ (aa h1)|exact dU _ _ _ _ _ _ _ _ _ _ (aa h1)|exact dU _ _ _ _ _ _ _ _ _ _ _ (aa h1)|exact dU _ _ _ _ _ _ _ _ _ _ _ _ (aa h1)
  ·cases h)
abbrev XW :TypeId:=165
def vE :List (Nat×eI):=[(0,⟨[8,2,3,4,5,6,7],[0,1,2,3,4,5],[4,5],6,[]⟩)]
def d4(a b c d:Int):List SV:=[.int .u64 a,.int .u64 b,.int .u64 c,.int .u64 d]
def D0(A B Q R:List SV)(i:Int):St:=
 ⟨[(8,.int .i64 i),(2,.ptr 0 0),(3,.ptr 1 0),(4,.ptr 2 0),(5,.ptr 3 0),(6,.ptr 4 0),(7,.ptr 5 0)],
  [(0,some (.cells XW A)),(1,some (.cells XW B)),(2,some (.cells XW (d4 0 0 0 0))),(3,some (.cells XW (d4 0 0 0 0))),(4,some (.cells XW Q)),(5,some (.cells XW R))],6,[4,5],33⟩
abbrev AF :List Nat:=[1,1,0,1,0]
noncomputable abbrev MO :Env:=fG vE (fun _=>0) q4 1
theorem S3(K:KC)(a b c d e f g h:Int):cL vE (fun _=>0) q4 2 163 [.agg [.int .u64 a,.int .u64 b,.int .u64 c,.int .u64 d],.agg [.int .u64 e,.int .u64 f,.int .u64 g,.int .u64 h]] [] K=
  ∃n,aV MO (aA vE 0) Tryz.f163 AF 0 0 K n (D0 (d4 a b c d) (d4 e f g h) (d4 0 0 0 0) (d4 0 0 0 0) 127):=by kernel_rfl
def AZ(X:Int):List SV:=d4 (X%4294967296) (X/4294967296%4294967296) (X/18446744073709551616%4294967296) (X/79228162514264337593543950336%4294967296)
def aK0(X:Int):List SV:=d4 (IntKind.u64.wrap (X%4294967296+1)) (X/4294967296%4294967296) (X/18446744073709551616%4294967296) (X/79228162514264337593543950336%4294967296)
theorem EO(K:Ex->St->Prop)(a b c d e f g h q0 q1 q2 q3 r0 r1 r2 r3 i:Int):aF MO (aA vE 0) Tryz.f163 AF 0 K (D0 (d4 a b c d) (d4 e f g h) (d4 q0 q1 q2 q3) (d4 r0 r1 r2 r3) i)=
  Br (decide (i>=0)) (If (aEN a b c d i) (If (sW r0 r1 r2 r3 (aCe (dv a b c d) i)) (If (sW q0 q1 q2 q3 0) ((fun Q R=>If (CT R&&dOk e f g h)
   (Br (!decide (dvS R<dv e f g h)) (If (CT R&&dOk e f g h&&decide (dv e f g h<=dvS R)) (K .normal (D0 (d4 a b c d) (d4 e f g h) (aK0 Q) (AZ (dvS R - dv e f g h)) (IntKind.i64.wrap (i - 1)))))
    (K .normal (D0 (d4 a b c d) (d4 e f g h) (AZ Q) (AZ R) (IntKind.i64.wrap (i - 1)))))) (2*dv q0 q1 q2 q3+0) (2*dv r0 r1 r2 r3+aCe (dv a b c d) i)))))
   (K (.exit 0) (D0 (d4 a b c d) (d4 e f g h) (d4 q0 q1 q2 q3) (d4 r0 r1 r2 r3) i)):=by kernel_rfl
theorem TX(K:KC)(a b c d e f g h q0 q1 q2 q3 r0 r1 r2 r3 i:Int):aB MO (aA vE 0) Tryz.f163 AF 0 K (.exit 0) (D0 (d4 a b c d) (d4 e f g h) (d4 q0 q1 q2 q3) (d4 r0 r1 r2 r3) i)=
  K (.tup [.agg (d4 q0 q1 q2 q3),.agg (d4 r0 r1 r2 r3)]) [] []:=by kernel_rfl
theorem aGN(Q:Int):aK0 (2*Q+0)=AZ (2*Q+1):=by
 unfold aK0 AZ
 rw [dK,show (((2*Q+0)%4294967296+1)%18446744073709551616:Int)=(2*Q+1)%4294967296 by omega,show ((2*Q+0)/4294967296:Int)=(2*Q+1)/4294967296 by omega,show ((2*Q+0)/18446744073709551616:Int)=(2*Q+1)/18446744073709551616 by omega,
  show ((2*Q+0)/79228162514264337593543950336:Int)=(2*Q+1)/79228162514264337593543950336 by omega]
theorem BG(K:KC){a b c d e f g h A B:Int}(hA:Is4 A a b c d)(hB:Is4 B e f g h)(hB0:0<B)(hB1:B<170141183460469231731687303715884105728)(hK:K (.tup [.agg (AZ (A/B)),.agg (AZ (A%B))]) [] []): ∀(n:Nat),n<=128->
  aV MO (aA vE 0) Tryz.f163 AF 0 0 K (n+1) (D0 (d4 a b c d) (d4 e f g h) (AZ (A/2^n/B)) (AZ (A/2^n%B)) ((n:Int) - 1))
 |0,_=>by
  rw [dP,AZ,AZ,EO]
  refine Br.of (fun c=>absurd (aa c) (by decide)) fun _=> ?_
  show aB _ _ _ _ _ _ _ _
  rw [TX,show A/2^0=A by simp]
  exact hK
 |n+1,hn=>by
  have hA0:0<=A:=by rw [<- hA.eq];have:=hA.a0;have:=hA.b0;have:=hA.c0;have:=hA.d0;unfold dv;omega
  have hA1:A<340282366920938463463374607431768211456:=by rw [<- hA.eq];have:=hA.a1;have:=hA.b1;have:=hA.c1;have:=hA.d1;unfold dv;omega
  obtain ⟨Q,R,k,eQ,eR,ek,q0,r0,r1,k0,k1,hlo,hhi⟩:=ZQ (n:=n) hA0 hB0
  have hQ1:Q<=A:=by
   rw [eQ]
   exact Int.le_trans (Int.ediv_le_self _ (dx hA0 (ed (ic (by decide))))) (Int.ediv_le_self _ hA0)
  have hQ2:2*Q+1<=A\/A/2^n/B=2*Q:=by
   by_cases hlt:2*R+k<B
   ·exact .inr (hlo hlt).1
   ·refine .inl ?_
    rw [<- (hhi (by omega)).1]
    exact Int.le_trans (Int.ediv_le_self _ (dx hA0 (ed (ic (by decide))))) (Int.ediv_le_self _ hA0)
  rw [dP,<- eQ,<- eR,AZ,AZ,EO,show (((n+1:Nat):Int) - 1)=(n:Int) by omega]
  have hbit:aCe (dv a b c d) n=k:=by rw [hA.eq,ek];rfl
  rw [hbit]
  have hR2:2*R+k<340282366920938463463374607431768211456:=by omega
  have hdR:dv (R%4294967296) (R/4294967296%4294967296) (R/18446744073709551616%4294967296) (R/79228162514264337593543950336%4294967296)=R:=EJ r0 (by omega)
  have hdQ:dv (Q%4294967296) (Q/4294967296%4294967296) (Q/18446744073709551616%4294967296) (Q/79228162514264337593543950336%4294967296)=Q:=EJ q0 (by omega)
  have hokB:dOk e f g h=true:=dM.2 ⟨hB.a1,hB.b1,hB.c1,hB.d1⟩
  have hokA:dOk a b c d=true:=dM.2 ⟨hA.a1,hA.b1,hA.c1,hA.d1⟩
  rw [hdR,hdQ]
  have hw:IntKind.i64.wrap ((n:Int) - 1)=(n:Int) - 1:=by rw [fK];omega
  refine Br.of (fun _=>If.mk ?_ (If.mk ?_ (If.mk ?_ ?_))) fun c=>absurd (ae c) (by omega)
  ·unfold aEN;rw [hokA];simp only [ch,af,ak];omega
  ·unfold sW;rw [zG];simpa using k1
  ·unfold sW;rw [zG];rfl
  ·show If _ _
   rw [mM,hokB,tZ (by omega) hR2,hB.eq,hw]
   refine If.mk rfl (Br.of (fun c=>If.mk ?_ ?_) fun c=> ?_)
   ·have: ¬2*R+k<B:=by simpa using c
    simpa using (by omega:B<=2*R+k)
   ·have: ¬2*R+k<B:=by simpa using c
    have:=hhi (by omega)
    rw [aGN,<- this.1,<- this.2]
    exact BG K hA hB hB0 hB1 hK n (by omega)
   ·have:2*R+k<B:=by simpa using c
    have:=hlo this
    rw [Int.add_zero,<- this.1,<- this.2]
    exact BG K hA hB hB0 hB1 hK n (by omega)
theorem cO(a b c d e f g h:Int)(hx:PI a b c d e f g h=true):aE Tryz.prog 163 [.agg [.int .u64 a,.int .u64 b,.int .u64 c,.int .u64 d],.agg [.int .u64 e,.int .u64 f,.int .u64 g,.int .u64 h]] []
  (.tup [.agg (rH (dv a b c d/dv e f g h)),.agg (rH (dv a b c d%dv e f g h))]) [] []:=
 eF vE (fun _=>0) q4 2 (fun _ h=>nomatch h) fun ⟨⟨ha,hb,hc,hd,_⟩,⟨he,hf,hg,hh,_⟩,_⟩ _ K hK=>by
  have ha':0<=a/\a<=18446744073709551615:=ha
  have hb':0<=b/\b<=18446744073709551615:=hb
  have hc':0<=c/\c<=18446744073709551615:=hc
  have hd':0<=d/\d<=18446744073709551615:=hd
  have he':0<=e/\e<=18446744073709551615:=he
  have hf':0<=f/\f<=18446744073709551615:=hf
  have hg':0<=g/\g<=18446744073709551615:=hg
  have hh':0<=h/\h<=18446744073709551615:=hh
  have hK:=hK [] fun _ h=>nomatch h
  unfold PI at hx
  simp only [af,dM,ak] at hx
  obtain ⟨⟨⟨x1,x2,x3,x4⟩,y1,y2,y3,y4⟩,z1,z2⟩:=hx
  rw [S3]
  refine ⟨129, ?_⟩
  have:=BG K (A:=dv a b c d) (B:=dv e f g h) ⟨ha'.1,x1,hb'.1,x2,hc'.1,x3,hd'.1,x4,rfl⟩ ⟨he'.1,y1,hf'.1,y2,hg'.1,y3,hh'.1,y4,rfl⟩ z1 z2 hK 128 (av _)
  have hz:dv a b c d/2^128=0:=by
   refine Int.ediv_eq_zero_of_lt (by unfold dv;omega) ?_
   show dv a b c d<340282366920938463463374607431768211456
   unfold dv;omega
  rw [hz,Int.zero_ediv,Int.zero_emod] at this
  exact this
def R5 :List (Nat×eI):=[(0,⟨[3,4,1,2],[0],[],1,[]⟩)]
def SY(s:Bool)(A:List SV)(n i:Int):St:=⟨[(3,.int .u64 n),(4,.int .i64 i),(1,.ptr 0 0),(2,.int .u64 0)],[(0,some (.cells 167 (.bool s::A)))],1,[],26⟩
abbrev DB :List Nat:=[1,1,1,0,1,0]
noncomputable abbrev aFA :Env:=fG R5 (fun _=>0) q4 1
theorem aA8(K:KC)(s:Bool)(a b c d:Int):cL R5 (fun _=>0) q4 2 121 [.agg [.bool s,.int .u64 a,.int .u64 b,.int .u64 c,.int .u64 d]] [] K=
  Br (decide (gB (nv s a b c d) 0<=0)) (K (.int .u64 0) [] []) (∃n,aV aFA (aA R5 0) Tryz.f121 DB 0 0 K n (SY s (d4 a b c d) 0 63)):=by kernel_rfl
def upN(n i:Int):Int:=IntKind.u64.wrap (n+IntKind.u64.wrap (1*2^min (IntKind.u64.wrap i).toNat IntKind.u64.bits))
theorem J3(K:Ex->St->Prop)(s:Bool)(a b c d n i:Int):aF aFA (aA R5 0) Tryz.f121 DB 0 K (SY s (d4 a b c d) n i)=
  Br (decide (i>=0)) (If (decide (0<=IntKind.u64.wrap i)) (If (dOk a b c d&&CT (upN n i*upN n i)) (Br (!decide (dv a b c d<dvS (upN n i*upN n i)))
   (K .normal (SY s (d4 a b c d) (upN n i) (IntKind.i64.wrap (i - 1)))) (K .normal (SY s (d4 a b c d) n (IntKind.i64.wrap (i - 1)))))))
   (K (.exit 0) (SY s (d4 a b c d) n i)):=by kernel_rfl
theorem X7(K:KC)(s:Bool)(a b c d n i:Int):aB aFA (aA R5 0) Tryz.f121 DB 0 K (.exit 0) (SY s (d4 a b c d) n i)=K (.int .u64 n) [] []:=by kernel_rfl
theorem F5(K:KC){s:Bool}{a b c d A:Int}(hA:Is4 A a b c d)(hA1:A<170141183460469231731687303715884105728)(hK:K (.int .u64 (gU A)) [] []): ∀(n:Nat) (x P:Int),n<=64->P=2^n->0<=x->x*x<=A->A<(x+P)*(x+P)->x+P<=18446744073709551616->
  aV aFA (aA R5 0) Tryz.f121 DB 0 0 K (n+1) (SY s (d4 a b c d) x ((n:Int) - 1))
 |0,x,P,_,hP,h0,h1,h2,h3=>by
  rw [dP,J3]
  refine Br.of (fun c=>absurd (aa c) (by decide)) fun _=> ?_
  show aB _ _ _ _ _ _ _ _
  have:P=1:=by simpa using hP
  subst this
  rw [X7,<- MQ (Int.le_trans (A7 x) h1) hA1 h0 h1 h2]
  exact hK
 |n+1,x,P,hn,hP,h0,h1,h2,h3=>by
  have hp: ∀k:Nat,(0:Int)<2^k:=fun k=>ic (by decide)
  have hP2:P=2^n*2:=by rw [hP,fi]
  have hp0:=hp n
  rw [dP,J3,show (((n+1:Nat):Int) - 1)=(n:Int) by omega]
  have hup:upN x n=x+2^n:=by
   unfold upN
   have:min (IntKind.u64.wrap (n:Int)).toNat IntKind.u64.bits=n:=by
    rw [dK];show min _ 64=n;omega
   rw [this]
   simp only [dK]
   omega
  rw [hup]
  generalize hq:(2:Int)^n=p at*
  have hm:(x+p)*(x+p)<340282366920938463463374607431768211456:=by
   have:(x+p)*(x+p)<=18446744073709551615*18446744073709551615:=ga (by omega) (by omega) (by omega) (by omega)
   omega
  have hm0:0<=(x+p)*(x+p):=A7 _
  have hw:IntKind.i64.wrap ((n:Int) - 1)=(n:Int) - 1:=by rw [fK];omega
  rw [hA.eq,mM,tZ hm0 hm,show dOk a b c d=true from dM.2 ⟨hA.a1,hA.b1,hA.c1,hA.d1⟩,hw]
  refine Br.of (fun _=>If.mk ?_ (If.mk rfl (Br.of (fun e=> ?_) fun e=> ?_))) fun c=>absurd (ae c) (by omega)
  ·rw [dK];exact ao (by omega)
  ·have: ¬A<(x+p)*(x+p):=by simpa using e
   refine F5 K hA hA1 hK n (x+p) p (by omega) hq.symm (by omega) (by omega) ?_ (by omega)
   rw [show x+p+p=x+P by omega];exact h2
  ·have:A<(x+p)*(x+p):=by simpa using e
   exact F5 K hA hA1 hK n x p (by omega) hq.symm h0 h1 this (by omega)
theorem cT(s:Bool)(a b c d:Int)(hx:(dOk a b c d&&decide (nv s a b c d<170141183460469231731687303715884105728))=true):aE Tryz.prog 121 [.agg [.bool s,.int .u64 a,.int .u64 b,.int .u64 c,.int .u64 d]] []
  (.int .u64 (gU (nv s a b c d))) [] []:=
 eF R5 (fun _=>0) q4 2 (fun _ h=>nomatch h) fun ⟨⟨_,ha,hb,hc,hd,_⟩,_⟩ _ K hK=>by
  have ha':0<=a/\a<=18446744073709551615:=ha
  have hb':0<=b/\b<=18446744073709551615:=hb
  have hc':0<=c/\c<=18446744073709551615:=hc
  have hd':0<=d/\d<=18446744073709551615:=hd
  have hK:=hK [] fun _ h=>nomatch h
  rw [af,dM,ak] at hx
  obtain ⟨⟨x1,x2,x3,x4⟩,hx⟩:=hx
  rw [aA8]
  have hn:(s=true/\nv s a b c d= -dv a b c d)\/(s=false/\nv s a b c d=dv a b c d):=by cases s<;>simp [nv]
  refine Br.of (fun e=> ?_) fun e=>⟨65, ?_⟩
  ·have:nv s a b c d<=0:=by
    have e:=aa e
    refine Int.le_of_not_gt fun hgt=> ?_
    unfold gB at e
    rw [aj (show¬nv s a b c d<0 by omega),ao (show 0<nv s a b c d from hgt)] at e
    exact absurd e (by decide)
   unfold gU at hK
   rw [ao this] at hK
   exact hK
  ·have h0:0<nv s a b c d:=by
    have e:=ae e
    refine Int.lt_of_not_ge fun hle=>e ?_
    unfold gB
    cases decide (nv s a b c d<0)
    ·rw [aj (show¬0<nv s a b c d by omega)];decide
    ·show (-1:Int)<=0;decide
   have hnn:0<=dv a b c d:=by unfold dv;omega
   have he:nv s a b c d=dv a b c d:=by rcases hn with ⟨_,h⟩|⟨_,h⟩<;>omega
   rw [he] at hK hx
   exact F5 K (A:=dv a b c d) ⟨ha'.1,x1,hb'.1,x2,hc'.1,x3,hd'.1,x4,rfl⟩ hx hK 64 0 18446744073709551616 (av _) (by decide) (by omega) (by omega) (by omega) (by omega)
noncomputable def q5 :bT Tryz.prog:=((q4).add 163 (iU aCJ) (cE fun xs σ v σ' d h=>by
  unfold aCJ at h;split at h
  ·simp only [an,bn] at h
   obtain ⟨h1,rfl,rfl,rfl⟩:=h
   first|exact cO h1|exact cO _ h1|exact cO _ _ h1|exact cO _ _ _ h1|exact cO _ _ _ _ h1|exact cO _ _ _ _ _ h1|exact cO _ _ _ _ _ _ h1|exact cO _ _ _ _ _ _ _ h1|exact cO _ _ _ _ _ _ _ _ h1|exact cO _ _ _ _ _ _ _ _ _ h1|exact cO _ _ _ _ _ _ _ _ _ _ h1|exact cO _ _ _ _ _ _ _ _ _ _ _ h1|exact cO _ _ _ _ _ _ _ _ _ _ _ _ h1|exact cO (aa h1)|exact cO _ (aa h1)|exact cO _ _ (aa h1)|exact cO _ _ _ (aa h1)|exact cO _ _ _ _ (aa h1)|exact cO _ _ _ _ _ (aa h1)|exact cO _ _ _ _ _ _ (aa h1)|exact cO _ _ _ _ _ _ _ (aa h1)|exact cO _ _ _ _ _ _ _ _ (aa h1)|exact cO _ _ _ _ _ _ _ _ _ (aa h1)|exact cO _ _ _ _ _ _ _ _ _ _ (aa h1)|exact cO _ _ _ _ _ _ _ _ _ _ _ (aa h1)|exact cO _ _ _ _ _ _ _ _ _ _ _ _ (aa h1)
  ·cases h)).add 121 (iU aDS) (cE fun xs σ v σ' d h=>by
  unfold aDS at h;split at h
  ·simp only [an,bn] at h
   obtain ⟨h1,rfl,rfl,rfl⟩:=h
   first|exact cT h1|exact cT _ h1|exact cT _ _ h1|exact cT _ _ _ h1|exact cT _ _ _ _ h1|exact cT _ _ _ _ _ h1|exact cT _ _ _ _ _ _ h1|exact cT _ _ _ _ _ _ _ h1|exact cT _ _ _ _ _ _ _ _ h1|exact cT _ _ _ _ _ _ _ _ _ h1|exact cT _ _ _ _ _ _ _ _ _ _ h1|exact cT _ _ _ _ _ _ _ _ _ _ _ h1|exact cT _ _ _ _ _ _ _ _ _ _ _ _ h1|exact cT (aa h1)|exact cT _ (aa h1)|exact cT _ _ (aa h1)|exact cT _ _ _ (aa h1)|exact cT _ _ _ _ (aa h1)|exact cT _ _ _ _ _ (aa h1)|exact cT _ _ _ _ _ _ (aa h1)|exact cT _ _ _ _ _ _ _ (aa h1)|exact cT _ _ _ _ _ _ _ _ (aa h1)|exact cT _ _ _ _ _ _ _ _ _ (aa h1)|exact cT _ _ _ _ _ _ _ _ _ _ (aa h1)|exact cT _ _ _ _ _ _ _ _ _ _ _ (aa h1)|exact cT _ _ _ _ _ _ _ _ _ _ _ _ (aa h1)
  ·cases h)
end Go.Proofs.YtghnfjfkjhbgdaaGreatDoor
namespace Go.Se
def eq4(X Y:Int):Bool:=X%4294967296==Y%4294967296&&(X/4294967296%4294967296==Y/4294967296%4294967296&&(X/18446744073709551616%4294967296==Y/18446744073709551616%4294967296&&X/79228162514264337593543950336%4294967296==Y/79228162514264337593543950336%4294967296))
def aAc(Q:Int):Int:=IntKind.u64.wrap (IntKind.u64.wrap (Q/4294967296%4294967296*4294967296)+Q%4294967296)
def fiN(neg:Bool)(Q:Int)(K:KC):Prop:=
 Br (Q/18446744073709551616%4294967296 !=0) (BI K) (Br (Q/79228162514264337593543950336%4294967296 !=0) (BI K)
  (Br neg (Br (decide (aAc Q>9223372036854775808)) (BI K) (K (.tup [.int .i64 (IntKind.i64.wrap (IntKind.u64.wrap (0 - aAc Q))),.bool true]) [] []))
   (Br (decide (aAc Q>9223372036854775807)) (BI K) (K (.tup [.int .i64 (IntKind.i64.wrap (aAc Q)),.bool true]) [] []))))
def aEa(a b c d B:Int):Bool:=PI a b c d (B%4294967296) (B/4294967296%4294967296) (B/18446744073709551616%4294967296) (B/79228162514264337593543950336%4294967296)
def WT(X:Int):Bool:=sW (X%4294967296) (X/4294967296%4294967296) (X/18446744073709551616%4294967296) (X/79228162514264337593543950336%4294967296) 0
def aKp(s t:Bool)(a b c d B:Int)(K:KC):Prop:=
 If (aEa a b c d B) (If (WT (dv a b c d%dvS B)) (If (CT B&&CT (2*dvS (dv a b c d%dvS B)+0))
  ((fun UP DOWN=>Br (decide (dvS B<dvS (2*dvS (dv a b c d%dvS B)+0))) UP (Br (eq4 (2*dvS (dv a b c d%dvS B)+0) B) (Br ((dv a b c d/dvS B%4294967296).tmod 2==1) UP DOWN) DOWN))
   (If (CT (dv a b c d/dvS B)&&dOk 1 0 0 0) (fiN (!(s==t)) (dvS (dv a b c d/dvS B)+dv 1 0 0 0) K)) (fiN (!(s==t)) (dv a b c d/dvS B) K))))
theorem kM(x:Int):oL x=true↔ -9223372036854775808<=x/\x<=9223372036854775807:=by unfold oL;simp only [af,ak]
theorem V3 {neg:Bool} {Q v:Int} {K:KC} (h0:0<=Q) (h1:Q<340282366920938463463374607431768211456) (hv:v=bif neg then -Q else Q)
  (hK:K (.tup [.int .i64 (bif oL v then v else 0),.bool (oL v)]) [] []):fiN neg Q K:=by
 have hno:(v< -9223372036854775808\/9223372036854775807<v)->BI K:=fun h=>by
  have:oL v=false:=by
   cases hi:oL v with
   |false=>rfl
   |true=>have:=(kM v).1 hi;omega
  rw [this] at hK;exact hK
 have hyes: ∀w:Int,-9223372036854775808<=v->v<=9223372036854775807->w=v->K (.tup [.int .i64 w,.bool true]) [] []:=fun w h h' e=>by
  rw [(kM v).2 ⟨h,h'⟩] at hK;rw [e];exact hK
 have hw:Q<18446744073709551616->aAc Q=Q:=fun h=>by unfold aAc;simp only [dK];omega
 unfold fiN
 refine Br.of (fun c=>hno ?_) fun c=>Br.of (fun d=>hno ?_) fun d=> ?_
 ·have:=ei.1 c
  cases neg<;>simp only [ar,ap] at hv<;>omega
 ·have:=ei.1 d
  cases neg<;>simp only [ar,ap] at hv<;>omega
 ·have c':=dt.1 c
  have d':=dt.1 d
  rw [hw (by omega)]
  refine Br.of (fun e=>Br.of (fun f=>hno ?_) fun f=>hyes _ ?_ ?_ ?_) fun e=>Br.of (fun f=>hno ?_) fun f=>hyes _ ?_ ?_ ?_<;>rw [e] at hv<;>simp only [ar,ap,ak,aw] at hv f<;>(try simp only [dK,fK])<;>omega
theorem aGD{X Y:Int}(h0:0<=X)(h1:X<340282366920938463463374607431768211456)(h2:0<=Y)(h3:Y<340282366920938463463374607431768211456):eq4 X Y=decide (X=Y):=by
 rw [fv]
 unfold eq4
 simp only [af,ci,ak]
 omega
theorem aEX {s t:Bool} {a b c d A B v:Int} {K:KC} (hA:Is4 A a b c d) (hB:0<B) (hB1:B<170141183460469231731687303715884105728) (hv:v=bif !(s==t) then -iY A B else iY A B)
  (hK:K (.tup [.int .i64 (bif oL v then v else 0),.bool (oL v)]) [] []):aKp s t a b c d B K:=by
 have hA0:0<=A:=by rw [<- hA.eq];have:=hA.a0;have:=hA.b0;have:=hA.c0;have:=hA.d0;unfold dv;omega
 have hA1:A<340282366920938463463374607431768211456:=by rw [<- hA.eq];have:=hA.a1;have:=hA.b1;have:=hA.c1;have:=hA.d1;unfold dv;omega
 have hS:dvS B=B:=tZ (by omega) (by omega)
 have hr0:=gv A (show B≠0 by omega)
 have hr1:=gp A hB
 have hq0:=dx hA0 (ed hB)
 have hq1:=Int.ediv_le_self B hA0
 have hm:=Int.mul_ediv_add_emod A B
 unfold aKp
 rw [hA.eq,hS,tZ hr0 (by omega),tZ (show 0<=2*(A%B)+0 by omega) (by omega),aGD (by omega) (by omega) (by omega) (by omega),mM,mM,mM,tZ hq0 (by omega)]
 refine If.mk ?_ (If.mk ?_ (If.mk rfl ?_))
 ·have:=tZ (show 0<=B by omega) (show B<340282366920938463463374607431768211456 by omega)
  unfold dvS at this
  unfold aEa PI
  rw [this,zG,show dOk a b c d=true from dM.2 ⟨hA.a1,hA.b1,hA.c1,hA.d1⟩]
  simp only [ch,af,ak];omega
 ·unfold WT sW;rw [zG];rfl
 ·have hup:(B<2*(A%B)\/B=2*(A%B)/\A/B%2=1)->If (true&&dOk 1 0 0 0) (fiN (!(s==t)) (A/B+dv 1 0 0 0) K):=fun h=>If.mk rfl (by
   have hB2:2<=B:=by omega
   have h2:2*(A/B)<=B*(A/B):=Int.mul_le_mul_of_nonneg_right hB2 hq0
   refine V3 (v:=v) (by unfold dv;omega) (by unfold dv;omega) ?_ hK
   have:iY A B=A/B+1:=by
    unfold iY
    rw [show (decide (A%B>B - A%B)||(A%B==B - A%B&&A/B%2==1))=true by
     rcases h with h|⟨h,h'⟩
     ·rw [ao (by omega)];rfl
     ·rw [h',show (A%B==B - A%B)=true by rw [ci];omega];simp,ao (show A%B>0 by omega)];rfl
   rw [hv,this];rfl)
  have hdn: ¬(B<2*(A%B)\/B=2*(A%B)/\A/B%2=1)->fiN (!(s==t)) (A/B) K:=fun h=>by
   refine V3 (v:=v) hq0 (by omega) ?_ hK
   have:iY A B=A/B:=by
    unfold iY
    rw [show (decide (A%B>B - A%B)||(A%B==B - A%B&&A/B%2==1))=false by
     rw [aj (by omega),gx]
     cases h1:A%B==B - A%B with
     |false=>rfl
     |true=>
      rw [ci] at h1
      rw [ch,ck]
      omega];rfl
   rw [hv,this]
  show Br _ _ (Br _ (Br _ _ _) _)
  have htm:(A/B%4294967296).tmod 2=A/B%2:=by rw [eo (by omega)];omega
  rw [htm]
  refine Br.of (fun e=>hup ?_) fun e=>Br.of (fun f=>Br.of (fun g=>hup ?_) fun g=>hdn ?_) fun f=>hdn ?_<;>
   (try simp only [ak,aw] at e)<;>(try simp only [ak,aw] at f)<;>(try simp only [ci,ck,ne_eq] at g)<;>omega
def aIw :List SV->List (Option SB)->uI
 | [.agg [.bool s,.int .u64 a,.int .u64 b,.int .u64 c,.int .u64 d],.int .i64 e],[]=>
  some (dOk a b c d,.tup [.int .i64 (nY (nv s a b c d) e),.bool (i4 (nv s a b c d) e)],[],[])
 |_,_=>none
end Go.Se
namespace Go.Proofs.YtghnfjfkjhbgdaaGreatDoor
open Go.Se
set_option maxRecDepth 100000
theorem S6(s:Bool)(a b c d e:Int)(K:KC):run q5 2 123 [.agg [.bool s,.int .u64 a,.int .u64 b,.int .u64 c,.int .u64 d],.int .i64 e] [] K=
  Br (e==0) (BI K) (aKp s (decide (e<0)) a b c d (aQ e) K):=by kernel_rfl
theorem dQ(s:Bool)(a b c d e:Int)(hx:dOk a b c d=true):aE Tryz.prog 123 [.agg [.bool s,.int .u64 a,.int .u64 b,.int .u64 c,.int .u64 d],.int .i64 e] []
  (.tup [.int .i64 (nY (nv s a b c d) e),.bool (i4 (nv s a b c d) e)]) [] []:=
 aS q5 2 fun ⟨⟨_,ha,hb,hc,hd,_⟩,he,_⟩ _ K hK=>by
  have ha':0<=a/\a<=18446744073709551615:=ha
  have hb':0<=b/\b<=18446744073709551615:=hb
  have hc':0<=c/\c<=18446744073709551615:=hc
  have hd':0<=d/\d<=18446744073709551615:=hd
  have he': -9223372036854775808<=e/\e<=9223372036854775807:=he
  rw [dM] at hx
  rw [S6]
  have h4:Is4 (dv a b c d) a b c d:=⟨ha'.1,hx.1,hb'.1,hx.2.1,hc'.1,hx.2.2.1,hd'.1,hx.2.2.2,rfl⟩
  have h0:0<=dv a b c d:=by unfold dv;omega
  have hn:(s=true/\nv s a b c d= -dv a b c d)\/(s=false/\nv s a b c d=dv a b c d):=by cases s<;>simp [nv]
  generalize nv s a b c d=x at*
  generalize dv a b c d=A at*
  have hax:aQ x=A:=by
   unfold aQ
   by_cases h:x<0
   ·rw [ao h];simp only [ar];omega
   ·rw [aj h];simp only [ap];omega
  have hlt:=qU (x:=e) (B:=9223372036854775809) (by omega) (by omega)
  have hge:=eO e
  refine Br.of (fun h=> ?_) fun h=> ?_
  ·have:e=0:=by simpa using h
   subst this
   exact hK
  ·have hne:e≠0:=by simpa using h
   have hpos:0<aQ e:=by
    unfold aQ
    by_cases h:e<0
    ·rw [ao h];simp only [ar];omega
    ·rw [aj h];simp only [ap];omega
   refine aEX h4 hpos (by omega) (v:=yE x e) ?_ ?_
   ·unfold yE
    rw [hax]
    by_cases hz:A=0
    ·have hr:iY A (aQ e)=0:=by
      subst hz;unfold iY;rw [Int.zero_emod,Int.zero_ediv]
      show (bif (_&&decide ((0:Int)>0)) then _ else _)=_
      rw [show decide ((0:Int)>0)=false from rfl,em];rfl
     rw [hr]
     cases decide (x<0) !=decide (e<0)<;>cases !(s==decide (e<0))<;>rfl
    ·have:decide (x<0)=s:=by
      rcases hn with ⟨rfl,hn⟩|⟨rfl,hn⟩
      ·exact ao (by omega)
      ·exact aj (by omega)
     rw [this];rfl
   ·unfold nY i4 at hK
    rw [show (e !=0&&oL (yE x e))=oL (yE x e) by rw [ei.2 hne];rfl] at hK
    exact hK
noncomputable def q6 :bT Tryz.prog:=(q5).add 123 (iU aIw) (cE fun xs σ v σ' d h=>by
  unfold aIw at h;split at h
  ·simp only [an,bn] at h
   obtain ⟨h1,rfl,rfl,rfl⟩:=h
   first|exact dQ h1|exact dQ _ h1|exact dQ _ _ h1|exact dQ _ _ _ h1|exact dQ _ _ _ _ h1|exact dQ _ _ _ _ _ h1|exact dQ _ _ _ _ _ _ h1|exact dQ _ _ _ _ _ _ _ h1|exact dQ _ _ _ _ _ _ _ _ h1|exact dQ _ _ _ _ _ _ _ _ _ h1|exact dQ _ _ _ _ _ _ _ _ _ _ h1|exact dQ _ _ _ _ _ _ _ _ _ _ _ h1|exact dQ _ _ _ _ _ _ _ _ _ _ _ _ h1|exact dQ (aa h1)|exact dQ _ (aa h1)|exact dQ _ _ (aa h1)|exact dQ _ _ _ (aa h1)|exact dQ _ _ _ _ (aa h1)|exact dQ _ _ _ _ _ (aa h1)|exact dQ _ _ _ _ _ _ (aa h1)|exact dQ _ _ _ _ _ _ _ (aa h1)|exact dQ _ _ _ _ _ _ _ _ (aa h1)|exact dQ _ _ _ _ _ _ _ _ _ (aa h1)|exact dQ _ _ _ _ _ _ _ _ _ _ (aa h1)|exact dQ _ _ _ _ _ _ _ _ _ _ _ (aa h1)|exact dQ _ _ _ _ _ _ _ _ _ _ _ _ (aa h1)
  ·cases h)
end Go.Proofs.YtghnfjfkjhbgdaaGreatDoor
namespace Go.Se
def rB :Nat->Int->Int->Int->List Int->List Int
 |0,_,_,_,l=>l
 |f+1,u,least,j,l=>bif decide (u>0)||decide (j<least) then rB f (u/10) least (j+1) ((48+u%10)::l) else l
def aZ(u least:Int):List Int:=rB 20 u least 0 []
theorem bQ(a b:List Int):bytesOf a++bytesOf b=bytesOf (a++b):=by
 unfold bytesOf
 apply ep
 simp
theorem aM(a:List Int):(bytesOf a).size=a.length:=by simp [bytesOf,ByteArray.size]
def W9 :List SV->List (Option SB)->Option (Bool×SV×List (Option SB)×List Nat)
 | [.int .u64 u,.int .i64 least],[]=>some (decide (least<=20),.str (bytesOf (aZ u least)),[],[])
 |_,_=>none
def QX :List SV->List (Option SB)->Out
 | [.int .u64 u],[]=>some (.str (bytesOf (aZ u 1)),[],[])
 |_,_=>none
theorem lO(a b:ByteArray):(a==b)=(a.data==b.data):=rfl
theorem gA(f:Nat)(u least j:Int)(l:List Int):rB (f+1) u least j l=bif decide (u>0)||decide (j<least) then rB f (u/10) least (j+1) ((48+u%10)::l) else l:=rfl
theorem w6(l:List Int):(bytesOf l==⟨#[]⟩)=decide (l.length<1):=by
 rw [fv,lO,ci,ak]
 constructor
 ·intro h
  have h:bytesOf l=⟨#[]⟩:=ep h
  have:=congrArg ByteArray.size h
  rw [aM] at this
  simp [ByteArray.size] at this
  simp [this]
 ·intro h
  have:l=[]:=by cases l with
   |nil=>rfl
   |cons a l=>simp at h
  subst this;rfl
theorem u7 : ∀(f:Nat) (u least j:Int) (l:List Int),(rB f u least j l).length<=l.length+f
 |0,_,_,_,l=>by simp [rB]
 |f+1,u,least,j,l=>by
  unfold rB
  cases decide (u>0)||decide (j<least)
  ·simp only [ap];omega
  ·simp only [ar]
   have:=u7 f (u/10) least (j+1) ((48+u%10)::l)
   simp only [az] at this
   omega
def aD(s:ByteArray):List Int:=s.data.toList.map fun b=>(b.toNat:Int)
def pE :List Int->List Int
 | []=>[]
 |a::r=>bif a==48 then pE r else a::r
def lY(l:List Int):List Int:=(pE l.reverse).reverse
def pX(s:ByteArray):ByteArray:=bytesOf (lY (aD s))
def bH(l:List Int):Prop:= ∀x,x∈l->0<=x/\x<=255
theorem fC(s:ByteArray):bytesOf (aD s)=s:=by
 unfold bytesOf aD
 apply ep
 rw [gm]
 have:((fun n:Int=>UInt8.ofNat n.toNat)∘fun b:UInt8=>(b.toNat:Int))=id:=by
  funext b
  simp
 rw [this,List.map_id]
theorem cX{l:List Int}(h:bH l):aD (bytesOf l)=l:=by
 unfold bytesOf aD
 simp only [gm]
 conv=>rhs;rw [<- List.map_id l]
 refine List.map_congr_left fun x hx=> ?_
 have:=h x hx
 simp only [Function.comp,id_eq,UInt8.toNat_ofNat']
 omega
theorem dJ(s:ByteArray):bH (aD s):=fun x hx=>by
 unfold aD at hx
 obtain ⟨b,_,rfl⟩:=fa.1 hx
 have:=b.toNat_lt
 omega
def WU(s:ByteArray):Int:=((s.data.getD (IntKind.i64.wrap ((s.size:Int) - 1)).toNat 0).toNat:Int)
def aHH(s:ByteArray):ByteArray:=s.extract ((0:Nat):Int).toNat (IntKind.i64.wrap ((s.size:Int) - 1)).toNat
theorem w7{a:Int}{r:List Int}(h:(a::r).length<9223372036854775808):(IntKind.i64.wrap (((bytesOf (a::r).reverse).size:Int) - 1))=(r.length:Int):=by
 rw [aM,fK]
 simp only [eu,az] at h|-
 omega
theorem FI{a:Int}{r:List Int}(h:(a::r).length<9223372036854775808)(ha:0<=a)(ha':a<=255):WU (bytesOf (a::r).reverse)=a:=by
 unfold WU
 rw [w7 h]
 have:(bytesOf (a::r).reverse).data=((r.reverse.map fun n=>UInt8.ofNat n.toNat)++[UInt8.ofNat a.toNat]).toArray:=by simp [bytesOf]
 rw [this]
 simp only [am,bv,List.getElem?_toArray]
 rw [fr (by simp)]
 simp
 omega
theorem IM{a:Int}{r:List Int}(h:(a::r).length<9223372036854775808):aHH (bytesOf (a::r).reverse)=bytesOf r.reverse:=by
 unfold aHH
 rw [w7 h]
 apply ep
 simp only [bytesOf,ByteArray.data_extract,List.reverse_cons,gf,List.map_cons,List.map_nil,am]
 simp
theorem CI : ∀(f:Nat) (u least j:Int) (l:List Int),0<=u->(∀x,x∈l->48<=x/\x<=57)-> ∀x,x∈rB f u least j l->48<=x/\x<=57
 |0,_,_,_,l,_,h=>h
 |f+1,u,least,j,l,hu,h=>by
  rw [gA]
  cases decide (u>0)||decide (j<least)
  ·exact h
  ·refine CI f (u/10) least (j+1) _ (by omega) fun x hx=> ?_
   rcases cb.1 hx with rfl|hx
   ·omega
   ·exact h x hx
theorem fU{u least:Int}(hu:0<=u): ∀x,x∈aZ u least->48<=x/\x<=57:=CI 20 u least 0 [] hu fun x hx=>by cases hx
theorem E0(x:Int): ∀(f:Nat) (u least j:Int) (l:List Int),x∈l->x∈rB f u least j l
 |0,_,_,_,l,h=>h
 |f+1,u,least,j,l,h=>by
  rw [gA]
  cases decide (u>0)||decide (j<least)
  ·exact h
  ·exact E0 x f _ _ _ _ (bm _ h)
theorem AS : ∀(f:Nat) (u least j:Int) (l:List Int),0<u->u<10^f-> ∃x,x∈rB f u least j l/\x≠48
 |0,u,_,_,_,h0,h1=>by simp at h1;omega
 |f+1,u,least,j,l,h0,h1=>by
  rw [gA,ao h0]
  simp only [gw,ar]
  have hp:(10:Int)^(f+1)=10^f*10:=fi 10 f
  by_cases h:u%10=0
  ·exact AS f (u/10) least (j+1) _ (by omega) (by omega)
  ·exact ⟨48+u%10,E0 _ _ _ _ _ _ (bq ..),by omega⟩
def rQ(l:List Int):List Int:=List.replicate (10 - l.length) 48++l
theorem GA(l:List Int)(h:l.length<10):rQ (48::l)=rQ l:=by
 unfold rQ
 rw [az,show 10 - l.length=(10 - (l.length+1))+1 by omega,List.replicate_succ']
 simp
theorem BV : ∀(f:Nat) (j:Nat) (l:List Int),l.length=j->j+f=20->rB f 0 10 j l=rQ l
 |0,j,l,hl,hj=>by
  unfold rQ
  rw [show 10 - l.length=0 by omega];rfl
 |f+1,j,l,hl,hj=>by
  rw [gA,show decide ((0:Int)>0)=false from rfl,gx]
  by_cases h:j<10
  ·rw [ao (show (j:Int)<10 by omega)]
   have:=BV f (j+1) (48::l) (by simp [hl]) (by omega)
   push_cast at this
   simp only [ar]
   rw [show (0:Int)/10=0 by decide,show (48+(0:Int)%10)=48 by decide,this]
   exact GA l (by omega)
  ·rw [aj (show¬(j:Int)<10 by omega)]
   simp only [ap]
   unfold rQ
   rw [show 10 - l.length=0 by omega];rfl
theorem P9 : ∀(f:Nat) (u:Int) (j:Nat) (l:List Int),l.length=j->j+f=20->0<=u->u<10^f->(0<u\/1<=j)->rB f u 10 j l=rQ (rB f u 1 j l)
 |0,u,j,l,hl,hj,h0,h1,h2=>by
  unfold rQ
  show l=List.replicate (10 - l.length) 48++l
  rw [show 10 - l.length=0 by omega];rfl
 |f+1,u,j,l,hl,hj,h0,h1,h2=>by
  have hp:(10:Int)^(f+1)=10^f*10:=fi 10 f
  by_cases hu:0<u
  ·rw [gA,gA,ao (show u>0 from hu)]
   simp only [gw,ar]
   have:=P9 f (u/10) (j+1) ((48+u%10)::l) (by simp [hl]) (by omega) (by omega) (by omega) (.inr (by omega))
   push_cast at this
   exact this
  ·have:u=0:=by omega
   subst this
   rw [BV (f+1) j l hl hj,gA,show decide ((0:Int)>0)=false from rfl,aj (show¬(j:Int)<1 by omega)]
   rfl
theorem EK{u:Int}(h0:0<u)(h1:u<18446744073709551616):aZ u 10=rQ (aZ u 1):=
 P9 20 u 0 [] rfl rfl (by omega) (by omega) (.inl h0)
theorem x8 : ∀{r:List Int},(∃x,x∈r/\x≠48)->pE r≠[]
 | [],⟨x,h,_⟩=>nomatch h
 |a::r,⟨x,h,hx⟩=>by
  unfold pE
  by_cases ha:a=48
  ·subst ha
   rcases cb.1 h with rfl|h
   ·exact absurd rfl hx
   ·exact x8 ⟨x,h,hx⟩
  ·rw [show (a==48)=false by simpa using ha]
   simp
def bM(u:Int):Int:=nY (u%4294967296*10000000000) 4294967296
def kS(n:Int):List Int:=bif decide (n<0) then [45] else []
def aH(n:Int):List Int:=kS n++aZ (aQ n) 1
def aC(n:Int):List Int:=
 kS n++(aZ (aQ n/4294967296) 1++bif bM (aQ n)==0 then [] else 46::lY (aZ (bM (aQ n)) 10))
theorem oC{u:Int}(_hu:0<=u):0<=bM u/\bM u<=10000000000:=by
 unfold bM nY i4 yE iY
 have h0:0<=u%4294967296*10000000000:=by omega
 have h1:u%4294967296*10000000000<=4294967295*10000000000:=by omega
 rw [show aQ (u%4294967296*10000000000)=u%4294967296*10000000000 by unfold aQ;rw [aj (show¬u%4294967296*10000000000<0 by omega)];rfl]
 rw [show aQ 4294967296=4294967296 by decide,aj (show¬u%4294967296*10000000000<0 by omega)]
 generalize u%4294967296*10000000000=p at*
 rw [show (false !=decide ((4294967296:Int)<0))=false by decide]
 simp only [ap]
 cases hc:(decide (p%4294967296>4294967296 - p%4294967296)||(p%4294967296==4294967296 - p%4294967296&&p/4294967296%2==1))&&decide (p%4294967296>0)
 ·simp only [ap]
  cases hg:((4294967296:Int) !=0&&oL (p/4294967296))
  ·simp only [ap];omega
  ·simp only [ar];omega
 ·simp only [ar]
  cases hg:((4294967296:Int) !=0&&oL (p/4294967296+1))
  ·simp only [ap];omega
  ·simp only [ar];omega
theorem cF(s:ByteArray):(aD s).length=s.size:=by
 unfold aD
 rw [gu,fe];rfl
theorem tL : ∀r:List Int,(pE r).length<=r.length
 | []=>av _
 |a::r=>by
  unfold pE
  cases a==48
  ·exact av _
  ·have:=tL r
   simp only [ar,az];omega
theorem pG(l:List Int):(lY l).length<=l.length:=by
 unfold lY
 have:=tL l.reverse
 rw [eu] at this|-
 exact this
theorem xJ{u least:Int}(hu:0<=u):bH (aZ u least):=fun x hx=>by
 have:=fU hu x hx
 omega
theorem PE{l:List Int}(h:bH l):pX (bytesOf l)=bytesOf (lY l):=by
 unfold pX
 rw [cX h]
theorem fS(u least:Int):(aZ u least).length<=20:=by
 have:=u7 20 u least 0 []
 rw [bw,bi] at this
 exact this
def aJh(x:Int):Int:=IntKind.u64.wrap ↑(BitVec.ofInt IntKind.u64.bits x&&&BitVec.ofInt IntKind.u64.bits 4294967295).toNat
def W8(sg:ByteArray)(u:Int)(K:KC):Prop:=
 (fun h p=>If (decide (sg.size+h.size<9223372036854775808)) ((fun d=>Br (decide (d>0)) (If (decide ((⟨#[46]⟩:ByteArray).size+(pX (bytesOf (aZ (IntKind.u64.wrap d) 10))).size<9223372036854775808))
   (If (decide ((sg++h).size+((⟨#[46]⟩:ByteArray)++pX (bytesOf (aZ (IntKind.u64.wrap d) 10))).size<9223372036854775808)) (K (.str ((sg++h)++((⟨#[46]⟩:ByteArray)++pX (bytesOf (aZ (IntKind.u64.wrap d) 10))))) [] [])))
  (K (.str (sg++h)) [] [])) (nY (wv (p/18446744073709551616) (p%18446744073709551616)) 4294967296)))
  (bytesOf (aZ (u.fdiv (2^min (32:Int).toNat IntKind.u64.bits)) 1)) (IntKind.i64.wrap (aJh u)*10000000000)
def uC(u:Int):List Int:=bif bM u==0 then [] else 46::lY (aZ (bM u) 10)
theorem IS {sg:List Int} {u:Int} {K:KC} (h0:0<=u) (h1:u<=9223372036854775808) (hs:sg.length<=1)
  (hK:K (.str (bytesOf (sg++(aZ (u/4294967296) 1++uC u)))) [] []):W8 (bytesOf sg) u K:=by
 have hm:aJh u=u%4294967296:=by
  unfold aJh;rw [dK]
  show (((BitVec.ofInt 64 u&&&BitVec.ofInt 64 4294967295).toNat:Nat):Int)%_=_
  rw [MN u h0 (by omega)];omega
 have hw:IntKind.i64.wrap (u%4294967296)=u%4294967296:=by rw [fK];omega
 have hd:u.fdiv (2^min (32:Int).toNat IntKind.u64.bits)=u/4294967296:=by
  show u.fdiv 4294967296=_
  exact kP _ (by decide)
 have hf:=oC h0
 have hwf:IntKind.u64.wrap (bM u)=bM u:=by rw [dK];omega
 have l1:=fS (u/4294967296) 1
 have l2:=fS (bM u) 10
 have l3:=pG (aZ (bM u) 10)
 unfold W8
 rw [hm,hw,hd]
 show If _ (Br _ _ _)
 rw [tE]
 show If _ (Br (decide (bM u>0)) (If (decide ((⟨#[46]⟩:ByteArray).size+(pX (bytesOf (aZ (IntKind.u64.wrap (bM u)) 10))).size<9223372036854775808))
   (If (decide ((bytesOf sg++bytesOf (aZ (u/4294967296) 1)).size+((⟨#[46]⟩:ByteArray)++pX (bytesOf (aZ (IntKind.u64.wrap (bM u)) 10))).size<9223372036854775808)) (K (.str ((bytesOf sg++bytesOf (aZ (u/4294967296) 1))++((⟨#[46]⟩:ByteArray)++pX (bytesOf (aZ (IntKind.u64.wrap (bM u)) 10))))) [] [])))
  (K (.str (bytesOf sg++bytesOf (aZ (u/4294967296) 1))) [] []))
 rw [hwf,PE (xJ hf.1),show (⟨#[46]⟩:ByteArray)=bytesOf [46] from rfl,bQ,bQ,bQ,aM,aM,aM,aM,aM,aM]
 unfold uC at hK
 refine If.mk (ao (by omega)) (Br.of (fun c=>If.mk (ao ?_) (If.mk (ao ?_) ?_)) fun c=> ?_)
 ·simp only [az,bw];omega
 ·simp only [au,az,bw];omega
 ·have:=aa c
  rw [show (bM u==0)=false by rw [ck];omega] at hK
  rw [bo]
  exact hK
 ·have:=ae c
  rw [show (bM u==0)=true by rw [ci];omega] at hK
  simp only [ar,cm] at hK
  exact hK
end Go.Se
namespace Go.Proofs.YtghnfjfkjhbgdaaGreatDoor
open Go.Se
set_option maxRecDepth 100000
abbrev aIo :FuncId:=63
def HK :List (Nat×eI):=[(0,⟨[0,1,6,5,4],[0],[0],1,[]⟩)]
def NO(u least:Int)(j:Nat)(dl:List SV):St:=
 ⟨[(0,.int .u64 u),(1,.int .i64 least),(6,.int .i64 (20 - (j:Int))),(5,.ptr 0 0),(4,.str ⟨#[]⟩)],[(0,some (.cells 159 (List.replicate (20 - j) (.int .u8 0)++dl)))],1,[0],28⟩
abbrev sX :List Nat:=[1,1,1,0,0]
noncomputable abbrev VA :Env:=fG HK (fun _=>0) k0 1
theorem aBa(K:KC)(u least:Int):cL HK (fun _=>0) k0 2 aIo [.int .u64 u,.int .i64 least] [] K=
  ∃n,aV VA (aA HK 0) Tryz.f63 sX 0 0 K n (NO u least 0 []):=by kernel_rfl
def VK(l:List Int):List SV:=l.map fun n=> .int .u8 n
def aBF(K:Ex->St->Prop)(u least:Int)(j:Nat)(l:List Int):Prop:=
 K .normal (NO (IntKind.u64.wrap (u.tdiv 10)) least (j+1) (VK (IntKind.u8.wrap (IntKind.u64.wrap (48+u.tmod 10))::l)))
theorem Y1(K:Ex->St->Prop)(u least:Int): ∀(j:Nat),j<20-> ∀l:List Int,l.length=j->aF VA (aA HK 0) Tryz.f63 sX 0 K (NO u least j (VK l))=
  Br (decide (u>0)) (aBF K u least j l) (Br (decide ((j:Int)<least)) (aBF K u least j l) (K (.exit 0) (NO u least j (VK l))))
 |0,_,[],_=>by kernel_rfl
 |1,_,[a0],_=>by kernel_rfl
 |2,_,[a0,a1],_=>by kernel_rfl
 |3,_,[a0,a1,a2],_=>by kernel_rfl
 |4,_,[a0,a1,a2,a3],_=>by kernel_rfl
 |5,_,[a0,a1,a2,a3,a4],_=>by kernel_rfl
 |6,_,[a0,a1,a2,a3,a4,a5],_=>by kernel_rfl
 |7,_,[a0,a1,a2,a3,a4,a5,a6],_=>by kernel_rfl
 |8,_,[a0,a1,a2,a3,a4,a5,a6,a7],_=>by kernel_rfl
 |9,_,[a0,a1,a2,a3,a4,a5,a6,a7,a8],_=>by kernel_rfl
 |10,_,[a0,a1,a2,a3,a4,a5,a6,a7,a8,a9],_=>by kernel_rfl
 |11,_,[a0,a1,a2,a3,a4,a5,a6,a7,a8,a9,a10],_=>by kernel_rfl
 |12,_,[a0,a1,a2,a3,a4,a5,a6,a7,a8,a9,a10,a11],_=>by kernel_rfl
 |13,_,[a0,a1,a2,a3,a4,a5,a6,a7,a8,a9,a10,a11,a12],_=>by kernel_rfl
 |14,_,[a0,a1,a2,a3,a4,a5,a6,a7,a8,a9,a10,a11,a12,a13],_=>by kernel_rfl
 |15,_,[a0,a1,a2,a3,a4,a5,a6,a7,a8,a9,a10,a11,a12,a13,a14],_=>by kernel_rfl
 |16,_,[a0,a1,a2,a3,a4,a5,a6,a7,a8,a9,a10,a11,a12,a13,a14,a15],_=>by kernel_rfl
 |17,_,[a0,a1,a2,a3,a4,a5,a6,a7,a8,a9,a10,a11,a12,a13,a14,a15,a16],_=>by kernel_rfl
 |18,_,[a0,a1,a2,a3,a4,a5,a6,a7,a8,a9,a10,a11,a12,a13,a14,a15,a16,a17],_=>by kernel_rfl
 |19,_,[a0,a1,a2,a3,a4,a5,a6,a7,a8,a9,a10,a11,a12,a13,a14,a15,a16,a17,a18],_=>by kernel_rfl
 |j+20,h,_,_=>absurd h (by omega)
theorem QG(K:Ex->St->Prop)(u least:Int): ∀l:List Int,l.length=20->aF VA (aA HK 0) Tryz.f63 sX 0 K (NO u least 20 (VK l))=
  Br (decide (u>0)) False (Br (decide ((20:Int)<least)) False (K (.exit 0) (NO u least 20 (VK l))))
 | [a0,a1,a2,a3,a4,a5,a6,a7,a8,a9,a10,a11,a12,a13,a14,a15,a16,a17,a18,a19],_=>by kernel_rfl
theorem IU(K:KC)(u least:Int): ∀(j:Nat),j<=20-> ∀l:List Int,l.length=j->aB VA (aA HK 0) Tryz.f63 sX 0 K (.exit 0) (NO u least j (VK l))=K (.str (bytesOf l)) [] []
 |0,_,[],_=>by kernel_rfl
 |1,_,[a0],_=>by kernel_rfl
 |2,_,[a0,a1],_=>by kernel_rfl
 |3,_,[a0,a1,a2],_=>by kernel_rfl
 |4,_,[a0,a1,a2,a3],_=>by kernel_rfl
 |5,_,[a0,a1,a2,a3,a4],_=>by kernel_rfl
 |6,_,[a0,a1,a2,a3,a4,a5],_=>by kernel_rfl
 |7,_,[a0,a1,a2,a3,a4,a5,a6],_=>by kernel_rfl
 |8,_,[a0,a1,a2,a3,a4,a5,a6,a7],_=>by kernel_rfl
 |9,_,[a0,a1,a2,a3,a4,a5,a6,a7,a8],_=>by kernel_rfl
 |10,_,[a0,a1,a2,a3,a4,a5,a6,a7,a8,a9],_=>by kernel_rfl
 |11,_,[a0,a1,a2,a3,a4,a5,a6,a7,a8,a9,a10],_=>by kernel_rfl
 |12,_,[a0,a1,a2,a3,a4,a5,a6,a7,a8,a9,a10,a11],_=>by kernel_rfl
 |13,_,[a0,a1,a2,a3,a4,a5,a6,a7,a8,a9,a10,a11,a12],_=>by kernel_rfl
 |14,_,[a0,a1,a2,a3,a4,a5,a6,a7,a8,a9,a10,a11,a12,a13],_=>by kernel_rfl
 |15,_,[a0,a1,a2,a3,a4,a5,a6,a7,a8,a9,a10,a11,a12,a13,a14],_=>by kernel_rfl
 |16,_,[a0,a1,a2,a3,a4,a5,a6,a7,a8,a9,a10,a11,a12,a13,a14,a15],_=>by kernel_rfl
 |17,_,[a0,a1,a2,a3,a4,a5,a6,a7,a8,a9,a10,a11,a12,a13,a14,a15,a16],_=>by kernel_rfl
 |18,_,[a0,a1,a2,a3,a4,a5,a6,a7,a8,a9,a10,a11,a12,a13,a14,a15,a16,a17],_=>by kernel_rfl
 |19,_,[a0,a1,a2,a3,a4,a5,a6,a7,a8,a9,a10,a11,a12,a13,a14,a15,a16,a17,a18],_=>by kernel_rfl
 |20,_,[a0,a1,a2,a3,a4,a5,a6,a7,a8,a9,a10,a11,a12,a13,a14,a15,a16,a17,a18,a19],_=>by kernel_rfl
 |j+21,h,_,_=>absurd h (by omega)
theorem RA(K:KC)(least:Int)(hl:least<=20): ∀(f:Nat) (u:Int) (j:Nat) (l:List Int),j+f=20->l.length=j->0<=u->u<10^f->u<18446744073709551616->K (.str (bytesOf (rB f u least j l))) [] []->
  aV VA (aA HK 0) Tryz.f63 sX 0 0 K (f+1) (NO u least j (VK l))
 |0,u,j,l,hj,hlen,h0,h1,h2,hK=>by
  have:j=20:=by omega
  subst this
  have hu:u=0:=by simp at h1;omega
  subst hu
  rw [dP,QG _ _ _ l hlen]
  refine Br.of (fun c=>absurd (aa c) (by decide)) fun _=>Br.of (fun c=> ?_) fun _=> ?_
  ·have:=aa c;omega
  ·show aB _ _ _ _ _ _ _ _
   rw [IU _ _ _ 20 (av _) l hlen]
   exact hK
 |f+1,u,j,l,hj,hlen,h0,h1,h2,hK=>by
  rw [dP,Y1 _ _ _ j (by omega) l hlen]
  have hp:(10:Int)^(f+1)=10^f*10:=fi 10 f
  rw [gA] at hK
  have next:(decide (u>0)||decide ((j:Int)<least))=true->aBF (fun e s=>match e with
    | .normal=>aV VA (aA HK 0) Tryz.f63 sX 0 0 K (f+1) s
    |e=>aB VA (aA HK 0) Tryz.f63 sX 0 K e s) u least j l:=fun e=>by
   rw [e] at hK
   show aV _ _ _ _ _ _ _ _ _
   have hd:IntKind.u8.wrap (IntKind.u64.wrap (48+u.tmod 10))=48+u%10:=by
    rw [eo h0,dK,wu8];omega
   rw [hd,cz h0,dK,show u/10%18446744073709551616=u/10 by omega]
   exact RA K least hl f (u/10) (j+1) _ (by omega) (by simp [hlen]) (by omega) (by omega) (by omega) (by push_cast;exact hK)
  refine Br.of (fun c=>next ?_) fun c=>Br.of (fun d=>next ?_) fun d=> ?_
  ·rw [c];rfl
  ·rw [c,d];rfl
  ·rw [c,d] at hK
   show aB _ _ _ _ _ _ _ _
   rw [IU _ _ _ j (by omega) l hlen]
   exact hK
theorem bX(u least:Int)(hx:decide (least<=20)=true):aE Tryz.prog aIo [.int .u64 u,.int .i64 least] [] (.str (bytesOf (aZ u least))) [] []:=
 eF HK (fun _=>0) k0 2 (fun _ h=>nomatch h) fun ⟨hu,_⟩ _ K hK=>by
  have hu':0<=u/\u<=18446744073709551615:=hu
  rw [aBa]
  exact ⟨21,RA K least (aa hx) 20 u 0 [] rfl rfl hu'.1 (by omega) (by omega) (hK [] fun _ h=>nomatch h)⟩
abbrev aIm :FuncId:=71
def KR :List (Nat×eI):=[(0,⟨[0,3,2],[],[],0,[]⟩)]
def YJ(u:Int)(s:ByteArray):St:=⟨[(0,.int .u64 u),(3,.str s),(2,.str ⟨#[]⟩)],[],0,[],21⟩
abbrev wM :List Nat:=[1,1,0,0]
noncomputable abbrev aAO :Env:=fG KR (fun _=>0) k0 1
theorem aBp(K:KC)(u:Int):cL KR (fun _=>0) k0 2 aIm [.int .u64 u] [] K= ∃n,aV aAO (aA KR 0) Tryz.f71 wM 0 0 K n (YJ u ⟨#[]⟩):=by kernel_rfl
def XD(K:Ex->St->Prop)(u:Int)(s:ByteArray):Prop:=
 (fun d=>If (decide ((bytesOf [d]).size+s.size<9223372036854775808)) (K .normal (YJ (IntKind.u64.wrap (u.tdiv 10)) (bytesOf [d]++s)))) (IntKind.u8.wrap (IntKind.u64.wrap (48+u.tmod 10)))
theorem JY(K:Ex->St->Prop)(u:Int)(s:ByteArray):aF aAO (aA KR 0) Tryz.f71 wM 0 K (YJ u s)=
  Br (decide (u>0)) (XD K u s) (Br (s==⟨#[]⟩) (XD K u s) (K (.exit 0) (YJ u s))):=by kernel_rfl
theorem JR(K:KC)(u:Int)(s:ByteArray):aB aAO (aA KR 0) Tryz.f71 wM 0 K (.exit 0) (YJ u s)=K (.str s) [] []:=by kernel_rfl
theorem Q0(K:KC): ∀(f:Nat) (u:Int) (j:Nat) (l:List Int),j+f=20->l.length=j->0<=u->u<10^f->u<18446744073709551616->K (.str (bytesOf (rB f u 1 j l))) [] []->
  aV aAO (aA KR 0) Tryz.f71 wM 0 0 K (f+1) (YJ u (bytesOf l))
 |0,u,j,l,hj,hlen,h0,h1,h2,hK=>by
  have hu:u=0:=by simp at h1;omega
  subst hu
  rw [dP,JY,w6]
  refine Br.of (fun c=>absurd (aa c) (by decide)) fun _=>Br.of (fun c=> ?_) fun _=> ?_
  ·have:=aa c;omega
  ·show aB _ _ _ _ _ _ _ _
   rw [JR]
   exact hK
 |f+1,u,j,l,hj,hlen,h0,h1,h2,hK=>by
  rw [dP,JY,w6]
  have hp:(10:Int)^(f+1)=10^f*10:=fi 10 f
  rw [gA] at hK
  have next:(decide (u>0)||decide ((j:Int)<1))=true->XD (fun e s=>match e with
    | .normal=>aV aAO (aA KR 0) Tryz.f71 wM 0 0 K (f+1) s
    |e=>aB aAO (aA KR 0) Tryz.f71 wM 0 K e s) u (bytesOf l):=fun e=>by
   rw [e] at hK
   unfold XD
   have hd:IntKind.u8.wrap (IntKind.u64.wrap (48+u.tmod 10))=48+u%10:=by
    rw [eo h0,dK,wu8];omega
   rw [hd,cz h0,dK,show u/10%18446744073709551616=u/10 by omega]
   refine If.mk (ao (by rw [aM,aM];simp;omega)) ?_
   rw [bQ]
   show aV _ _ _ _ _ _ _ _ _
   exact Q0 K f (u/10) (j+1) _ (by omega) (by simp [hlen]) (by omega) (by omega) (by omega) (by push_cast;exact hK)
  refine Br.of (fun c=>next ?_) fun c=>Br.of (fun d=>next ?_) fun d=> ?_
  ·rw [c];rfl
  ·have:=aa d
   rw [c,ao (show (j:Int)<1 by omega)];rfl
  ·have:=ae d
   rw [c,aj (show¬(j:Int)<1 by omega)] at hK
   show aB _ _ _ _ _ _ _ _
   rw [JR]
   exact hK
theorem gE(u:Int):aE Tryz.prog aIm [.int .u64 u] [] (.str (bytesOf (aZ u 1))) [] []:=
 eF KR (fun _=>0) k0 2 (fun _ h=>nomatch h) fun ⟨hu,_⟩ _ K hK=>by
  have hu':0<=u/\u<=18446744073709551615:=hu
  rw [aBp]
  exact ⟨21,Q0 K 20 u 0 [] rfl rfl hu'.1 (by omega) (by omega) (hK [] fun _ h=>nomatch h)⟩
def UG :List (Nat×eI):=[(0,⟨[0,1,4],[],[],0,[]⟩)]
def VC(s:ByteArray)(c:Int):St:=⟨[(0,.str s),(1,.int .u8 c),(4,.str ⟨#[]⟩)],[],0,[],23⟩
abbrev C2 :List Nat:=[1,0,0]
noncomputable abbrev aHd :Env:=fG UG (fun _=>0) k0 1
theorem aBf(K:KC)(s:ByteArray)(c:Int):cL UG (fun _=>0) k0 2 195 [.str s,.int .u8 c] [] K= ∃n,aV aHd (aA UG 0) Tryz.f195 C2 0 0 K n (VC s c):=by kernel_rfl
def inB(s:ByteArray):Bool:=decide (0<=IntKind.i64.wrap ((s.size:Int) - 1))&&decide (IntKind.i64.wrap ((s.size:Int) - 1)<(s.size:Int))
def inC(s:ByteArray):Bool:=true&&(decide (((0:Nat):Int)<=IntKind.i64.wrap ((s.size:Int) - 1))&&decide (IntKind.i64.wrap ((s.size:Int) - 1)<=(s.size:Int)))
theorem IV(K:Ex->St->Prop)(s:ByteArray)(c:Int):aF aHd (aA UG 0) Tryz.f195 C2 0 K (VC s c)=
  Br (decide ((s.size:Int)>0)) (If (inB s) (Br (WU s==c) (If (inC s) (K .normal (VC (aHH s) c))) (K (.exit 0) (VC s c)))) (K (.exit 0) (VC s c)):=by kernel_rfl
theorem JB(K:KC)(s:ByteArray)(c:Int):aB aHd (aA UG 0) Tryz.f195 C2 0 K (.exit 0) (VC s c)=K (.str s) [] []:=by kernel_rfl
theorem aFe{a:Int}{r:List Int}(h:(a::r).length<9223372036854775808):inB (bytesOf (a::r).reverse)=true:=by
 unfold inB
 rw [w7 h,aM]
 simp only [af,ak,eu,az]
 omega
theorem aER{a:Int}{r:List Int}(h:(a::r).length<9223372036854775808):inC (bytesOf (a::r).reverse)=true:=by
 unfold inC
 rw [w7 h,aM]
 simp only [ch,af,ak,eu,az]
 omega
theorem N4(K:KC): ∀(f:Nat) (r:List Int),r.length=f->bH r->r.length<9223372036854775808->K (.str (bytesOf (pE r).reverse)) [] []->aV aHd (aA UG 0) Tryz.f195 C2 0 0 K (f+1) (VC (bytesOf r.reverse) 48)
 |0,r,hf,_,_,hK=>by
  have:r=[]:=List.length_eq_zero_iff.1 hf
  subst this
  rw [dP,IV]
  refine Br.of (fun c=> ?_) fun _=> ?_
  ·have:=aa c
   rw [aM] at this
   simp at this
  ·show aB _ _ _ _ _ _ _ _
   rw [JB]
   exact hK
 |f+1,r,hf,hb,hl,hK=>by
  obtain ⟨a,r,rfl⟩: ∃a r',r=a::r':=by
   cases r with
   |nil=>simp at hf
   |cons a r=>exact ⟨a,r,rfl⟩
  have ha:=hb a (bq ..)
  have hf':r.length=f:=by simpa using hf
  rw [dP,IV,aFe hl,aER hl,FI hl ha.1 ha.2,IM hl]
  unfold pE at hK
  refine Br.of (fun _=>If.mk rfl (Br.of (fun c=>If.mk rfl ?_) fun c=> ?_)) fun c=> ?_
  ·rw [c] at hK
   show aV _ _ _ _ _ _ _ _ _
   exact N4 K f r hf' (fun x hx=>hb x (bm _ hx)) (by simp only [az] at hl;omega) hK
  ·rw [c] at hK
   show aB _ _ _ _ _ _ _ _
   rw [JB]
   exact hK
  ·have:=ae c
   rw [aM] at this
   simp only [eu,az] at this
   omega
theorem aJG(s:ByteArray):aE Tryz.prog 195 [.str s,.int .u8 48] [] (.str (pX s)) [] []:=
 eF UG (fun _=>0) k0 2 (fun _ h=>nomatch h) fun ⟨hs,_⟩ _ K hK=>by
  have hs':s.size<9223372036854775808:=hs
  have hK:=hK [] fun _ h=>nomatch h
  rw [aBf]
  have hl:=cF s
  refine ⟨s.size+1, ?_⟩
  have:=N4 K s.size (aD s).reverse (by rw [eu,hl]) (fun x hx=>dJ s x (by simpa using hx)) (by rw [eu,hl];exact hs') hK
  rw [List.reverse_reverse,fC] at this
  exact this
def aMj :List SV->List (Option SB)->uI
 | [.str s,.int .u8 c],[]=>some (c==48,.str (pX s),[],[])
 |_,_=>none
theorem d7(s:ByteArray)(c:Int)(h:(c==48)=true):aE Tryz.prog 195 [.str s,.int .u8 c] [] (.str (pX s)) [] []:=by
 have:c=48:=by simpa using h
 subst this;exact aJG s
noncomputable def t1 :bT Tryz.prog:=(((k8).add 195 (iU aMj) (cE fun xs σ v σ' d h=>by
  unfold aMj at h;split at h
  ·simp only [an,bn] at h
   obtain ⟨h1,rfl,rfl,rfl⟩:=h
   first|exact d7 h1|exact d7 _ h1|exact d7 _ _ h1|exact d7 _ _ _ h1|exact d7 _ _ _ _ h1|exact d7 _ _ _ _ _ h1|exact d7 _ _ _ _ _ _ h1|exact d7 _ _ _ _ _ _ _ h1|exact d7 _ _ _ _ _ _ _ _ h1|exact d7 _ _ _ _ _ _ _ _ _ h1|exact d7 _ _ _ _ _ _ _ _ _ _ h1|exact d7 _ _ _ _ _ _ _ _ _ _ _ h1|exact d7 _ _ _ _ _ _ _ _ _ _ _ _ h1|exact d7 (aa h1)|exact d7 _ (aa h1)|exact d7 _ _ (aa h1)|exact d7 _ _ _ (aa h1)|exact d7 _ _ _ _ (aa h1)|exact d7 _ _ _ _ _ (aa h1)|exact d7 _ _ _ _ _ _ (aa h1)|exact d7 _ _ _ _ _ _ _ (aa h1)|exact d7 _ _ _ _ _ _ _ _ (aa h1)|exact d7 _ _ _ _ _ _ _ _ _ (aa h1)|exact d7 _ _ _ _ _ _ _ _ _ _ (aa h1)|exact d7 _ _ _ _ _ _ _ _ _ _ _ (aa h1)|exact d7 _ _ _ _ _ _ _ _ _ _ _ _ (aa h1)
  ·cases h)).add 63 (iU W9) (cE fun xs σ v σ' d h=>by
  unfold W9 at h;split at h
  ·simp only [an,bn] at h
   obtain ⟨h1,rfl,rfl,rfl⟩:=h
   first|exact bX h1|exact bX _ h1|exact bX _ _ h1|exact bX _ _ _ h1|exact bX _ _ _ _ h1|exact bX _ _ _ _ _ h1|exact bX _ _ _ _ _ _ h1|exact bX _ _ _ _ _ _ _ h1|exact bX _ _ _ _ _ _ _ _ h1|exact bX _ _ _ _ _ _ _ _ _ h1|exact bX _ _ _ _ _ _ _ _ _ _ h1|exact bX _ _ _ _ _ _ _ _ _ _ _ h1|exact bX _ _ _ _ _ _ _ _ _ _ _ _ h1|exact bX (aa h1)|exact bX _ (aa h1)|exact bX _ _ (aa h1)|exact bX _ _ _ (aa h1)|exact bX _ _ _ _ (aa h1)|exact bX _ _ _ _ _ (aa h1)|exact bX _ _ _ _ _ _ (aa h1)|exact bX _ _ _ _ _ _ _ (aa h1)|exact bX _ _ _ _ _ _ _ _ (aa h1)|exact bX _ _ _ _ _ _ _ _ _ (aa h1)|exact bX _ _ _ _ _ _ _ _ _ _ (aa h1)|exact bX _ _ _ _ _ _ _ _ _ _ _ (aa h1)|exact bX _ _ _ _ _ _ _ _ _ _ _ _ (aa h1)
  ·cases h)).add 151 (one YC) (aT fun xs σ v σ' d h=>by
  unfold YC at h;split at h<;>cases h;first|exact dE|exact dE _|exact dE _ _|exact dE _ _ _|exact dE _ _ _ _|exact dE _ _ _ _ _|exact dE _ _ _ _ _ _|exact dE _ _ _ _ _ _ _|exact dE _ _ _ _ _ _ _ _|exact dE _ _ _ _ _ _ _ _ _|exact dE _ _ _ _ _ _ _ _ _ _|exact dE _ _ _ _ _ _ _ _ _ _ _)
theorem LZ(s:ByteArray):aE Tryz.prog 152 [.str s,.str ⟨#[48]⟩] [] (.str (pX s)) [] []:=
 aS t1 2 fun _ _ K hK=>by
  have E: ∀K,run t1 2 152 [.str s,.str ⟨#[48]⟩] [] K=Br (s==⟨#[]⟩) (K (.str s) [] []) (K (.str (pX s)) [] []):=fun K=>by kernel_rfl
  rw [E]
  refine Br.of (fun c=> ?_) fun _=>hK
  have:s=⟨#[]⟩:=by
   rw [lO,ci] at c
   exact ep c
  subst this
  exact hK
def E9 :List SV->List (Option SB)->uI
 | [.str s,.str t],[]=>some (t==⟨#[48]⟩,.str (pX s),[],[])
 |_,_=>none
theorem aW(s t:ByteArray)(h:(t==⟨#[48]⟩)=true):aE Tryz.prog 152 [.str s,.str t] [] (.str (pX s)) [] []:=by
 rw [lO,ci] at h
 have:t=⟨#[48]⟩:=ep h
 subst this;exact LZ s
noncomputable def t2 :bT Tryz.prog:=(t1).add 152 (iU E9) (cE fun xs σ v σ' d h=>by
  unfold E9 at h;split at h
  ·simp only [an,bn] at h
   obtain ⟨h1,rfl,rfl,rfl⟩:=h
   first|exact aW h1|exact aW _ h1|exact aW _ _ h1|exact aW _ _ _ h1|exact aW _ _ _ _ h1|exact aW _ _ _ _ _ h1|exact aW _ _ _ _ _ _ h1|exact aW _ _ _ _ _ _ _ h1|exact aW _ _ _ _ _ _ _ _ h1|exact aW _ _ _ _ _ _ _ _ _ h1|exact aW _ _ _ _ _ _ _ _ _ _ h1|exact aW _ _ _ _ _ _ _ _ _ _ _ h1|exact aW _ _ _ _ _ _ _ _ _ _ _ _ h1|exact aW (aa h1)|exact aW _ (aa h1)|exact aW _ _ (aa h1)|exact aW _ _ _ (aa h1)|exact aW _ _ _ _ (aa h1)|exact aW _ _ _ _ _ (aa h1)|exact aW _ _ _ _ _ _ (aa h1)|exact aW _ _ _ _ _ _ _ (aa h1)|exact aW _ _ _ _ _ _ _ _ (aa h1)|exact aW _ _ _ _ _ _ _ _ _ (aa h1)|exact aW _ _ _ _ _ _ _ _ _ _ (aa h1)|exact aW _ _ _ _ _ _ _ _ _ _ _ (aa h1)|exact aW _ _ _ _ _ _ _ _ _ _ _ _ (aa h1)
  ·cases h)
def yC(a b:ByteArray)(K:KC):Prop:=If (decide (a.size+b.size<9223372036854775808)) (K (.str (a++b)) [] [])
theorem Q8(n:Int)(K:KC):run t2 3 19 [.int .i64 n] [] K=
  Br (decide (n<0)) (yC ⟨#[45]⟩ (bytesOf (aZ (IntKind.u64.wrap (0 - IntKind.u64.wrap n)) 1)) K) (yC ⟨#[]⟩ (bytesOf (aZ (IntKind.u64.wrap n) 1)) K):=by kernel_rfl
theorem sQ{a b:List Int}{K:KC}(h:a.length+b.length<9223372036854775808)(hK:K (.str (bytesOf (a++b))) [] []):yC (bytesOf a) (bytesOf b) K:=by
 unfold yC
 rw [bQ]
 exact If.mk (ao (by rw [aM,aM];exact h)) hK
theorem XP(u least:Int):(aZ u least).length<=20:=by
 have:=u7 20 u least 0 []
 rw [bw,bi] at this
 exact this
theorem jQ(n:Int):aE Tryz.prog 19 [.int .i64 n] [] (.str (bytesOf (aH n))) [] []:=
 aS t2 3 fun ⟨hn,_⟩ _ K hK=>by
  have hn': -9223372036854775808<=n/\n<=9223372036854775807:=hn
  rw [Q8]
  unfold aH kS aQ at hK
  refine Br.of (fun c=> ?_) fun c=> ?_<;>rw [c] at hK<;>simp only [dK]
  ·have:=aa c
   rw [show (0 - n%18446744073709551616)%18446744073709551616= -n by omega]
   exact sQ (a:=[45]) (by have:=XP (-n) 1;simp;omega) hK
  ·have:=ae c
   rw [show n%18446744073709551616=n by omega]
   exact sQ (a:=[]) (by have:=XP n 1;simp;omega) hK
theorem UN(n:Int)(K:KC):run t2 3 102 [.int .i64 n] [] K=
  Br (decide (n<0)) (W8 ⟨#[45]⟩ (IntKind.u64.wrap (0 - IntKind.u64.wrap n)) K) (W8 ⟨#[]⟩ (IntKind.u64.wrap n) K):=by kernel_rfl
theorem lH(n:Int):aE Tryz.prog 102 [.int .i64 n] [] (.str (bytesOf (aC n))) [] []:=
 aS t2 3 fun ⟨hn,_⟩ _ K hK=>by
  have hn': -9223372036854775808<=n/\n<=9223372036854775807:=hn
  rw [UN]
  have hK':K (.str (bytesOf (kS n++(aZ (aQ n/4294967296) 1++uC (aQ n))))) [] []:=hK
  unfold kS aQ at hK'
  refine Br.of (fun c=> ?_) fun c=> ?_<;>rw [c] at hK'<;>simp only [dK]
  ·have:=aa c
   rw [show (0 - n%18446744073709551616)%18446744073709551616= -n by omega]
   exact IS (sg:=[45]) (by omega) (by omega) (by simp) hK'
  ·have:=ae c
   rw [show n%18446744073709551616=n by omega]
   exact IS (sg:=[]) (by omega) (by omega) (by simp) hK'
noncomputable def r1 :bT Tryz.prog:=((q6).add 71 (one QX) (aT fun xs σ v σ' d h=>by
  unfold QX at h;split at h<;>cases h;first|exact gE|exact gE _|exact gE _ _|exact gE _ _ _|exact gE _ _ _ _|exact gE _ _ _ _ _|exact gE _ _ _ _ _ _|exact gE _ _ _ _ _ _ _|exact gE _ _ _ _ _ _ _ _|exact gE _ _ _ _ _ _ _ _ _|exact gE _ _ _ _ _ _ _ _ _ _|exact gE _ _ _ _ _ _ _ _ _ _ _)).add 120 (one W2) (aT fun xs σ v σ' d h=>by
  unfold W2 at h;split at h<;>cases h;first|exact eW|exact eW _|exact eW _ _|exact eW _ _ _|exact eW _ _ _ _|exact eW _ _ _ _ _|exact eW _ _ _ _ _ _|exact eW _ _ _ _ _ _ _|exact eW _ _ _ _ _ _ _ _|exact eW _ _ _ _ _ _ _ _ _|exact eW _ _ _ _ _ _ _ _ _ _|exact eW _ _ _ _ _ _ _ _ _ _ _)
theorem MG(n:Int)(K:KC):run r1 3 28 [.int .i64 n] [] K=
  Br (decide (n<0)) (yC ⟨#[45]⟩ (bytesOf (aZ (aQ n) 1)) K) (K (.str (bytesOf (aZ (IntKind.u64.wrap n) 1))) [] []):=by kernel_rfl
theorem iB(n:Int):aE Tryz.prog 28 [.int .i64 n] [] (.str (bytesOf (aH n))) [] []:=
 aS r1 3 fun ⟨hn,_⟩ _ K hK=>by
  have hn': -9223372036854775808<=n/\n<=9223372036854775807:=hn
  rw [MG]
  unfold aH kS at hK
  refine Br.of (fun c=> ?_) fun c=> ?_<;>rw [c] at hK
  ·exact sQ (a:=[45]) (by have:=fS (aQ n) 1;simp only [az,bw];omega) hK
  ·have:=ae c
   rw [dK,show n%18446744073709551616=aQ n by unfold aQ;rw [c];simp only [ap];omega]
   exact hK
end Go.Proofs.YtghnfjfkjhbgdaaGreatDoor
namespace Go.Se
def aKW :List Int:=[0,105403774,210744057,315957395,420980412,525749847,630202589,734275721,837906553,941032661,1043591926,1145522571,1246763195,
 1347252816,1446930903,1545737412,1643612827,1740498191,1836335144,1931065957,2024633568,2116981616,2208054473,2297797281,2386155981,2473077351,
 2558509031,2642399561,2724698408,2805355999,2884323748,2961554089,3037000500,3110617535,3182360851,3252187232,3320054617,3385922125,3449750080,
 3511500034,3571134792,3628618433,3683916329,3736995171,3787822988,3836369162,3882604450,3926501002,3968032378,4007173558,4043900968,4078192482,
 4110027446,4139386683,4166252509,4190608739,4212440704,4231735252,4248480760,4262667143,4274285855,4283329896,4289793820,4293673732,4294967296]
def aF3(k:Int):Int:=bif decide (k<0)||decide (k>64) then 0 else aKW.getD k.toNat 0
def aMW(r:Int):Int:=bif decide (r%16777216>0) then IntKind.i64.wrap (aF3 (r/16777216)+nY (IntKind.i64.wrap (aF3 (r/16777216+1) - aF3 (r/16777216))*(r%16777216)) 16777216) else aF3 (r/16777216)
def aL8(t:Int):Int:=
 (fun s=>bif decide (t/1073741824>=2) then IntKind.i64.wrap (0 - s) else s) (aMW (bif t/1073741824%2==1 then 1073741824 - t%1073741824 else t%1073741824))
def aML(t:Int):Int:=aL8 ((t+1073741824)%4294967296)
def aC2(x y t:Int):Bool:=decide (gB (y*aML t) (x*aL8 t)>=0)
structure aM0 (x y t:Int):Prop where
 lo:0<=t
 hi:t<=1073741824
 at':aC2 x y t=true
 beyond: ∀s,t<s->s<=1073741824->aC2 x y s=false
end Go.Se
namespace Go.Proofs.YtghnfjfkjhbgdaaGreatDoor
open Go.Se
set_option maxRecDepth 100000
def CP :List (Nat×eI):=[(0,⟨[4,7,2],[],[],0,[]⟩),(2,⟨[4,7,2],[],[],0,[]⟩)]
def AE(s f:ByteArray):St:=⟨[(4,.str s),(7,.str f),(2,.str ⟨#[]⟩)],[],0,[],51⟩
abbrev XK :List Nat:=[1,1,1,1,1,1,1,0,0]
abbrev M1 :List Nat:=[1,1,1,1,1,1,1,1,0,0]
noncomputable abbrev MT :Env:=fG CP (fun _=>0) r1 1
def aFP(K:KC)(u:Int)(s:ByteArray):Prop:=
 (fun p=>If (okX p) ((fun d=>Br (d==0) (K (.str s) [] []) (∃n,aV MT (aA CP 0) Tryz.f70 XK 0 0 K n (AE s (bytesOf (aZ (IntKind.u64.wrap d) 1))))) (nY (nvX p) 4294967296)))
  (IntKind.i64.wrap (u.tmod 4294967296)*10000000000)
theorem Y0(K:KC)(n:Int):cL CP (fun _=>0) r1 2 70 [.int .i64 n] [] K=
  (fun h=>Br (decide (n<0)) (If (decide ((⟨#[45]⟩:ByteArray).size+h.size<9223372036854775808)) (aFP K (aQ n) (⟨#[45]⟩++h))) (aFP K (aQ n) h)) (bytesOf (aZ (IntKind.u64.wrap ((aQ n).tdiv 4294967296)) 1)):=by kernel_rfl
theorem F9(K:Ex->St->Prop)(s f:ByteArray):aF MT (aA CP 0) Tryz.f70 XK 0 K (AE s f)=
  Br (decide ((f.size:Int)<10)) (If (decide ((⟨#[48]⟩:ByteArray).size+f.size<9223372036854775808)) (K .normal (AE s (⟨#[48]⟩++f)))) (K (.exit 0) (AE s f)):=by kernel_rfl
theorem TT(K:Ex->St->Prop)(s f:ByteArray):aF MT (aA CP 0) Tryz.f70 M1 2 K (AE s f)=
  If (inB f) (Br (WU f==48) (If (inC f) (K .normal (AE s (aHH f)))) (K (.exit 2) (AE s f))):=by kernel_rfl
theorem S7(K:KC)(s f:ByteArray):aB MT (aA CP 0) Tryz.f70 XK 0 K (.exit 0) (AE s f)= ∃n,aV MT (aA CP 0) Tryz.f70 M1 2 0 K n (AE s f):=by kernel_rfl
theorem UI(K:KC)(s f:ByteArray):aB MT (aA CP 0) Tryz.f70 M1 0 K (.exit 2) (AE s f)=
  If (decide (s.size+(⟨#[46]⟩:ByteArray).size<9223372036854775808)) (yC (s++⟨#[46]⟩) f K):=by kernel_rfl
theorem I9(K:KC)(s:ByteArray): ∀(f:Nat) (r:List Int),r.length=f->bH r->r.length<9223372036854775808->pE r≠[]->
  If (decide (s.size+(⟨#[46]⟩:ByteArray).size<9223372036854775808)) (yC (s++⟨#[46]⟩) (bytesOf (pE r).reverse) K)->aV MT (aA CP 0) Tryz.f70 M1 2 0 K (f+1) (AE s (bytesOf r.reverse))
 |0,r,hf,_,_,hd,_=>by
  have:r=[]:=List.length_eq_zero_iff.1 hf
  subst this
  exact absurd rfl hd
 |f+1,r,hf,hb,hl,hd,hK=>by
  obtain ⟨a,r,rfl⟩: ∃a r',r=a::r':=by
   cases r with
   |nil=>simp at hf
   |cons a r=>exact ⟨a,r,rfl⟩
  have ha:=hb a (bq ..)
  have hf':r.length=f:=by simpa using hf
  rw [dP,TT,aFe hl,aER hl,FI hl ha.1 ha.2,IM hl]
  unfold pE at hK hd
  refine If.mk rfl (Br.of (fun c=>If.mk rfl ?_) fun c=> ?_)
  ·rw [c] at hK hd
   show aV _ _ _ _ _ _ _ _ _
   exact I9 K s f r hf' (fun x hx=>hb x (bm _ hx)) (by simp only [az] at hl;omega) hd hK
  ·rw [c] at hK
   show aB _ _ _ _ _ _ _ _
   rw [UI]
   exact hK
theorem J1(K:KC)(s:ByteArray): ∀(k:Nat) (l:List Int),l.length<1000->10<=l.length+k->(k=0\/l.length+k=10)->(∃n,aV MT (aA CP 0) Tryz.f70 M1 2 0 K n (AE s (bytesOf (rQ l))))->
  aV MT (aA CP 0) Tryz.f70 XK 0 0 K (k+1) (AE s (bytesOf l))
 |0,l,hl,hk,_,hK=>by
  rw [dP,F9]
  refine Br.of (fun c=> ?_) fun _=> ?_
  ·have:=aa c
   rw [aM] at this
   omega
  ·show aB _ _ _ _ _ _ _ _
   rw [S7]
   unfold rQ at hK
   rw [show 10 - l.length=0 by omega] at hK
   exact hK
 |k+1,l,hl,hk,h10,hK=>by
  rw [dP,F9,show (⟨#[48]⟩:ByteArray)=bytesOf [48] from rfl,bQ,aM,aM]
  refine Br.of (fun c=>If.mk (ao (by simp only [az,bw];omega)) ?_) fun c=> ?_
  ·show aV _ _ _ _ _ _ _ _ _
   rw [<- GA l (by omega)] at hK
   exact J1 K s k (48::l) (by simp only [az];omega) (by simp only [az];omega) (by simp only [az];omega) hK
  ·have:=ae c
   omega
theorem PP {K:KC} {sg:List Int} {u:Int} (h0:0<=u) (h1:u<=9223372036854775808) (hs:sg.length<=30)
  (hK:K (.str (bytesOf (sg++uC u))) [] []):aFP K u (bytesOf sg):=by
 have hf:=oC h0
 have hwf:IntKind.u64.wrap (bM u)=bM u:=by rw [dK];omega
 have hw:IntKind.i64.wrap (u.tmod 4294967296)=u%4294967296:=by rw [eo h0,fK];omega
 unfold aFP
 rw [hw]
 refine If.mk (tH _) ?_
 rw [oX (by omega) (by omega)]
 show Br (bM u==0) _ (∃n,aV _ _ _ _ _ _ _ n (AE (bytesOf sg) (bytesOf (aZ (IntKind.u64.wrap (bM u)) 1))))
 rw [hwf]
 unfold uC at hK
 refine Br.of (fun c=> ?_) fun c=> ?_
 ·rw [c] at hK
  simp only [ar,cm] at hK
  exact hK
 ·rw [c] at hK
  simp only [ap] at hK
  have hne:bM u≠0:=by simpa using c
  have hpos:0<bM u:=by omega
  have hlen:=fS (bM u) 1
  have hpad:=EK hpos (show bM u<18446744073709551616 by omega)
  refine ⟨(10 - (aZ (bM u) 1).length)+1,J1 K _ _ _ (by omega) (by omega) (by omega) ?_⟩
  rw [<- hpad]
  have hlen2:=fS (bM u) 10
  refine ⟨(aZ (bM u) 10).length+1, ?_⟩
  have:=I9 K (bytesOf sg) (aZ (bM u) 10).length (aZ (bM u) 10).reverse (eu ..) (fun x hx=>xJ hf.1 x (by simpa using hx)) (by rw [eu];omega)
   (x8 (by
    obtain ⟨x,hx,hx'⟩:=AS 20 (bM u) 10 0 [] hpos (by omega)
    exact ⟨x,by simpa [aZ] using hx,hx'⟩)) ?_
  ·rw [List.reverse_reverse] at this
   exact this
  ·have l3:=pG (aZ (bM u) 10)
   rw [show (⟨#[46]⟩:ByteArray)=bytesOf [46] from rfl,bQ,aM,aM]
   refine If.mk (ao (by simp only [az,bw];omega)) ?_
   refine sQ (b:=lY (aZ (bM u) 10)) (by simp only [au,az,bw];omega) ?_
   rw [bo]
   exact hK
theorem jT(n:Int):aE Tryz.prog 70 [.int .i64 n] [] (.str (bytesOf (aC n))) [] []:=
 eF CP (fun _=>0) r1 2 (fun _ h=>nomatch h) fun ⟨hn,_⟩ _ K hK=>by
  have hn': -9223372036854775808<=n/\n<=9223372036854775807:=hn
  have hK:=hK [] fun _ h=>nomatch h
  have hK':K (.str (bytesOf (kS n++(aZ (aQ n/4294967296) 1++uC (aQ n))))) [] []:=hK
  have h0:=eO n
  have h1:aQ n<9223372036854775809:=qU (by omega) (by omega)
  have hl:=fS (aQ n/4294967296) 1
  rw [Y0,cz h0,dK,show aQ n/4294967296%18446744073709551616=aQ n/4294967296 by omega]
  unfold kS at hK'
  show Br _ _ _
  refine Br.of (fun c=> ?_) fun c=> ?_<;>rw [c] at hK'
  ·rw [show (⟨#[45]⟩:ByteArray)=bytesOf [45] from rfl,bQ,aM,aM]
   refine If.mk (ao (by simp only [az,bw];omega)) (PP h0 (by omega) (by simp only [au,az,bw];omega) ?_)
   rw [bo]
   exact hK'
  ·exact PP h0 (by omega) (by omega) hK'
end Go.Proofs.YtghnfjfkjhbgdaaGreatDoor
namespace Go.Se
variable {P:Program}
def wU(c:Int):Nat->List Int->Int
 |_,[]=> -1
 |i,a::l=>bif a==c then (i:Int) else wU c (i+1) l
def iC(s:ByteArray)(c:Int):Int:=match (List.range s.size).find? fun i=>s[i]! ==c.toNat.toUInt8 with
 |some i=>(i:Int)
 |none=> -1
def WS :List SV->List (Option SB)->Out
 | [.str s,.int .u8 c],[]=>some (.int .i64 (iC s c),[],[])
 |_,_=>none
theorem NV{ρ:aL}{T:Nat->Prop}{w:World}{x y:SV}{vals:Array Value}(h:aX ρ T w [x,y] vals.toList): ∃a b,vals= #[a,b]/\rel ρ T w x a/\rel ρ T w y b:=by
 obtain ⟨a,r,h1,ha,b,s,h2,hb,h4⟩:=h
 cases h4
 subst h2
 exact ⟨a,b,by rw [<- Array.toList_inj,h1],ha,hb⟩
theorem R4(s:ByteArray)(c:Int)(hs:s.size<9223372036854775808): -9223372036854775808<=iC s c/\iC s c<=9223372036854775807:=by
 unfold iC
 cases h:(List.range s.size).find? fun i=>s[i]! ==c.toNat.toUInt8 with
 |none=>simp
 |some i=>
  have:=List.mem_range.1 (List.mem_of_find?_eq_some h)
  show _<=(i:Int)/\(i:Int)<=_
  omega
theorem aEc {k:FuncId} {fn:Func} (hf:P.funcs[k]? =some fn) (hname:(fn.name== "runtime.NumGoroutine")=false) (hb:fn.body.isNone=true)
  (hn:Extern.findNext fn=none) (he:Extern.find fn=some Extern.BytealgIndexByte.indexByte) (xs:List SV) (σ:List (Option SB)):Sat P k xs σ (one WS xs σ):=by
 refine aT (fun xs σ v σ' d h=> ?_) xs σ
 unfold WS at h
 split at h
 ·rename_i s c
  cases h
  refine nT hf hname hb hn he fun T w vals hv=> ?_
  obtain ⟨_,_,rfl,⟨rfl,hs⟩,⟨rfl,hc⟩⟩:=NV hv
  refine ⟨.int .i64 (iC s c), ?_,rfl,R4 s c hs⟩
  unfold iC
  show (do
   let b<- Extern.Bytes.bytesOf (.string s)
   let d<- Extern.Bytes.asByte (.int .u8 c)
   match (List.range b.size).find? fun i=>b[i]! ==d with
   |some i=>pure (goInt i)
   |none=>pure (goInt (-1)):Sem Value).run P w=_
  simp only [Extern.Bytes.bytesOf,Extern.Bytes.asByte,Sem.run_bind,Sem.run_pure,Result.andThen_ok]
  cases h:(List.range s.size).find? fun i=>s[i]! ==c.toNat.toUInt8 with
  |none=>rfl
  |some i=>rfl
 ·cases h
def qZ(s:ByteArray)(c:Int):Nat:=s.data.toList.countP (· ==c.toNat.toUInt8)
def WH :List SV->List (Option SB)->Out
 | [.str s,.int .u8 c],[]=>some (.int .i64 (qZ s c),[],[])
 |_,_=>none
theorem aB2 {k:FuncId} {fn:Func} (hf:P.funcs[k]? =some fn) (hname:(fn.name== "runtime.NumGoroutine")=false) (hb:fn.body.isNone=true)
  (hn:Extern.findNext fn=none) (he:Extern.find fn=some Extern.BytealgCount.count) (xs:List SV) (σ:List (Option SB)):Sat P k xs σ (one WH xs σ):=by
 refine aT (fun xs σ v σ' d h=> ?_) xs σ
 unfold WH at h
 split at h
 ·rename_i s c
  cases h
  refine nT hf hname hb hn he fun T w vals hv=> ?_
  obtain ⟨_,_,rfl,⟨rfl,hs⟩,⟨rfl,hc⟩⟩:=NV hv
  refine ⟨.int .i64 (qZ s c),Lib.run_countString s c w,rfl, ?_⟩
  have h1:qZ s c<=s.size:=fu (List.countP_le_length) (by rw [fe];exact av _)
  show (-9223372036854775808:Int)<=_/\_<=(9223372036854775807:Int);omega
 ·cases h
end Go.Se
namespace Go.Proofs.YtghnfjfkjhbgdaaGreatDoor
open Go.Se
set_option maxRecDepth 100000
theorem aHg(xs:List SV)(σ:List (Option SB)):Sat Tryz.prog 242 xs σ (one WS xs σ):=
 aEc Tryz.func242 (by kernel_rfl) (by kernel_rfl) (by kernel_rfl) (by kernel_rfl) xs σ
def VT :List SV->List (Option SB)->Out
 | [.int .i64 n],[]=>some (.str (bytesOf (aC n)),[],[])
 |_,_=>none
def MU :List SV->List (Option SB)->Out
 | [.int .i64 n],[]=>some (.str (bytesOf (aH n)),[],[])
 |_,_=>none
noncomputable def t3 :bT Tryz.prog:=(((((t2).add 242 (one WS) aHg).add 102 (one VT) (aT fun xs σ v σ' d h=>by
  unfold VT at h;split at h<;>cases h;first|exact lH|exact lH _|exact lH _ _|exact lH _ _ _|exact lH _ _ _ _|exact lH _ _ _ _ _|exact lH _ _ _ _ _ _|exact lH _ _ _ _ _ _ _|exact lH _ _ _ _ _ _ _ _|exact lH _ _ _ _ _ _ _ _ _|exact lH _ _ _ _ _ _ _ _ _ _|exact lH _ _ _ _ _ _ _ _ _ _ _)).add 19 (one MU) (aT fun xs σ v σ' d h=>by
  unfold MU at h;split at h<;>cases h;first|exact jQ|exact jQ _|exact jQ _ _|exact jQ _ _ _|exact jQ _ _ _ _|exact jQ _ _ _ _ _|exact jQ _ _ _ _ _ _|exact jQ _ _ _ _ _ _ _|exact jQ _ _ _ _ _ _ _ _|exact jQ _ _ _ _ _ _ _ _ _|exact jQ _ _ _ _ _ _ _ _ _ _|exact jQ _ _ _ _ _ _ _ _ _ _ _)).add 169 (one X6) (aT fun xs σ v σ' d h=>by
  unfold X6 at h;split at h<;>cases h;first|exact dD|exact dD _|exact dD _ _|exact dD _ _ _|exact dD _ _ _ _|exact dD _ _ _ _ _|exact dD _ _ _ _ _ _|exact dD _ _ _ _ _ _ _|exact dD _ _ _ _ _ _ _ _|exact dD _ _ _ _ _ _ _ _ _|exact dD _ _ _ _ _ _ _ _ _ _|exact dD _ _ _ _ _ _ _ _ _ _ _)).add 171 (one ZZ) (aT fun xs σ v σ' d h=>by
  unfold ZZ at h;split at h<;>cases h;first|exact dC|exact dC _|exact dC _ _|exact dC _ _ _|exact dC _ _ _ _|exact dC _ _ _ _ _|exact dC _ _ _ _ _ _|exact dC _ _ _ _ _ _ _|exact dC _ _ _ _ _ _ _ _|exact dC _ _ _ _ _ _ _ _ _|exact dC _ _ _ _ _ _ _ _ _ _|exact dC _ _ _ _ _ _ _ _ _ _ _)
noncomputable def t4 :bT Tryz.prog:=((t3).add 70 (one VT) (aT fun xs σ v σ' d h=>by
  unfold VT at h;split at h<;>cases h;first|exact jT|exact jT _|exact jT _ _|exact jT _ _ _|exact jT _ _ _ _|exact jT _ _ _ _ _|exact jT _ _ _ _ _ _|exact jT _ _ _ _ _ _ _|exact jT _ _ _ _ _ _ _ _|exact jT _ _ _ _ _ _ _ _ _|exact jT _ _ _ _ _ _ _ _ _ _|exact jT _ _ _ _ _ _ _ _ _ _ _)).add 28 (one MU) (aT fun xs σ v σ' d h=>by
  unfold MU at h;split at h<;>cases h;first|exact iB|exact iB _|exact iB _ _|exact iB _ _ _|exact iB _ _ _ _|exact iB _ _ _ _ _|exact iB _ _ _ _ _ _|exact iB _ _ _ _ _ _ _|exact iB _ _ _ _ _ _ _ _|exact iB _ _ _ _ _ _ _ _ _|exact iB _ _ _ _ _ _ _ _ _ _|exact iB _ _ _ _ _ _ _ _ _ _ _)
end Go.Proofs.YtghnfjfkjhbgdaaGreatDoor
namespace Go.Se
theorem eE(l:List Int)(i j:Nat):(bytesOf l).extract i j=bytesOf ((l.drop i).take (j - i)):=by
 apply ep
 simp only [bytesOf,ByteArray.data_extract,List.extract_toArray,List.map_take,List.map_drop]
theorem CC{l:List Int}(h:bH l)(i:Nat):(((bytesOf l).data.getD i 0).toNat:Int)=l.getD i 0:=by
 simp only [bytesOf,bv,List.getElem?_toArray,fm,bc]
 cases hl:l[i]? with
 |none=>simp
 |some x=>
  have:=h x (ef hl)
  simp
  omega
theorem I8{a b:List Int}(ha:bH a)(hb:bH b):(bytesOf a==bytesOf b)=decide (a=b):=by
 rw [fv,lO,ci,ak]
 constructor
 ·intro h
  rw [<- cX ha,<- cX hb,show bytesOf a=bytesOf b from ep h]
 ·rintro rfl;rfl
theorem R2{l:List Int}(_h:bH l){i:Nat}(hi:i<l.length):(bytesOf l)[i]! =(l.getD i 0).toNat.toUInt8:=by
 have hs:i<(bytesOf l).size:=by rw [aM];exact hi
 rw [getElem!_pos (bytesOf l) i hs]
 show (bytesOf l).data[i]=_
 simp only [bytesOf,List.getElem_toArray,List.getElem_map,bc,be hi,Option.getD_some]
theorem E6{α:Type}{p q:α->Bool}: ∀l:List α,(∀x,x∈l->p x=q x)->l.find? p=l.find? q
 | [],_=>rfl
 |a::l,h=>by
  rw [List.find?_cons,List.find?_cons,h a (bq ..),E6 l fun x hx=>h x (bm _ hx)]
theorem AG(c:Int)(hc:0<=c)(hc':c<=255): ∀(l:List Int) (o:Nat),bH l->wU c o l=match (List.range l.length).find? fun i=>(l.getD i 0).toNat.toUInt8==c.toNat.toUInt8 with
  |some i=>((o+i:Nat):Int)
  |none=> -1
 | [],o,_=>rfl
 |a::l,o,h=>by
  have ha:=h a (bq ..)
  have hb:(a.toNat.toUInt8==c.toNat.toUInt8)=(a==c):=by
   rw [fv,ci,ci]
   constructor
   ·intro e
    have:=congrArg UInt8.toNat e
    simp at this
    omega
   ·rintro rfl;rfl
  unfold wU
  rw [az,List.range_succ_eq_map,List.find?_cons]
  simp only [List.getD_cons_zero,hb]
  cases hac:a==c
  ·simp only [ap]
   rw [AG c hc hc' l (o+1) (fun x hx=>h x (bm _ hx)),List.find?_map]
   simp only [Function.comp_def,List.getD_cons_succ]
   cases (List.range l.length).find? fun i=>(l.getD i 0).toNat.toUInt8==c.toNat.toUInt8 with
   |none=>rfl
   |some i=>simp only [dq];congr 1;omega
  ·simp
theorem yG{l:List Int}(h:bH l){c:Int}(hc:0<=c)(hc':c<=255):iC (bytesOf l) c=wU c 0 l:=by
 rw [AG c hc hc' l 0 h]
 unfold iC
 rw [aM]
 have:(List.range l.length).find? (fun i=>(bytesOf l)[i]! ==c.toNat.toUInt8)=(List.range l.length).find? fun i=>(l.getD i 0).toNat.toUInt8==c.toNat.toUInt8:=by
  refine E6 _ fun i hi=> ?_
  rw [R2 h (List.mem_range.1 hi)]
 rw [this]
 cases (List.range l.length).find? fun i=>(l.getD i 0).toNat.toUInt8==c.toNat.toUInt8 with
 |none=>rfl
 |some i=>simp
def mG :List Int->Bool
 |a::_=>a==45
 | []=>false
def dN(l:List Int):List Int:=bif mG l then l.tail else l
def eM(c:Int):List Int->List Int
 | []=>[]
 |a::l=>bif a==c then [] else a::eM c l
def kF(c:Int):List Int->List Int
 | []=>[]
 |a::l=>bif a==c then l else kF c l
def iN(c:Int):List Int->Bool
 | []=>false
 |a::l=>a==c||iN c l
theorem qR(c:Int): ∀(l:List Int) (o:Nat),wU c o l=bif iN c l then ((o+(eM c l).length:Nat):Int) else -1
 | [],o=>rfl
 |a::l,o=>by
  unfold wU iN eM
  cases h:a==c
  ·simp only [ap,gx]
   rw [qR c l (o+1)]
   cases iN c l
   ·rfl
   ·simp only [ar,az];congr 1;omega
  ·simp
theorem JE(c:Int): ∀l:List Int,iN c l=true->l=eM c l++c::kF c l
 | [],h=>by cases h
 |a::l,h=>by
  unfold iN at h
  unfold eM kF
  cases e:a==c
  ·rw [e,gx] at h
   simp only [ap,gk]
   rw [<- JE c l h]
  ·have:a=c:=by simpa using e
   subst this
   rfl
theorem rY(c:Int): ∀l:List Int,iN c l=false->eM c l=l
 | [],_=>rfl
 |a::l,h=>by
  unfold iN at h
  rw [dh] at h
  unfold eM
  rw [h.1]
  simp only [ap]
  rw [rY c l h.2]
def QZ(a:Int):Int:=IntKind.u8.wrap (a - 48)
def HA :Int->List Int->Option Int
 |n,[]=>some n
 |n,a::l=>bif decide (QZ a>9) then none else HA (IntKind.i64.wrap (IntKind.i64.wrap (10*n)+IntKind.i64.wrap (QZ a))) l
def N8(l:List Int)(most:Int):Bool:=decide (l.length<1)||decide ((l.length:Int)>most)
def qL(l:List Int)(most:Int):Int:=bif N8 l most then 0 else (HA 0 l).getD 0
def nK(l:List Int)(most:Int):Bool:=bif N8 l most then false else (HA 0 l).isSome
def uM :Int->List Int->Int
 |n,[]=>n
 |n,a::l=>uM (10*n+(a - 48)) l
def zE(l:List Int):Prop:= ∀x,x∈l->48<=x/\x<=57
theorem XA(k:Nat):(1:Int)<=10^k:=by
 have:(0:Int)<10^k:=ic (by decide)
 omega
theorem CH : ∀(l:List Int) (n:Int),zE l->0<=n->n<10^(18 - l.length)->l.length<=18->HA n l=some (uM n l)/\0<=uM n l/\uM n l<1000000000000000000
 | [],n,_,h0,h1,_=>⟨rfl,h0,h1⟩
 |a::l,n,hd,h0,h1,hl=>by
  have ha:=hd a (bq ..)
  simp only [az] at h1 hl
  have hc:QZ a=a - 48:=by unfold QZ;rw [wu8];omega
  have hp:(10:Int)^(18 - l.length)=10^(18 - (l.length+1))*10:=by
   rw [show 18 - l.length=(18 - (l.length+1))+1 by omega,fi]
  have hb:(10:Int)^(18 - l.length)<=1000000000000000000:=by
   have:(10:Int)^(18 - l.length)*10^l.length=10^18:=by rw [<- Int.pow_add];congr 1;omega
   have h1':(1:Int)<=10^l.length:=XA l.length
   have hq:(0:Int)<10^(18 - l.length):=ic (by decide)
   have:=Int.mul_le_mul_of_nonneg_left h1' (ed hq)
   omega
  unfold HA uM
  rw [hc,aj (show¬a - 48>9 by omega)]
  simp only [ap,fK]
  rw [show ((10*n+9223372036854775808)%18446744073709551616 - 9223372036854775808+((a - 48+9223372036854775808)%18446744073709551616 - 9223372036854775808)+9223372036854775808)%18446744073709551616 - 9223372036854775808=10*n+(a - 48) by omega]
  exact CH l (10*n+(a - 48)) (fun x hx=>hd x (bm _ hx)) (by omega) (by omega) (by omega)
theorem GD : ∀(l:List Int) (n:Int),uM n l=n*10^l.length+uM 0 l
 | [],n=>by simp [uM]
 |a::l,n=>by
  unfold uM
  rw [GD l,GD l (10*0+(a - 48)),az,fi]
  grind
theorem I3 : ∀(f:Nat) (u least j:Int) (l:List Int),0<=u->u<10^f->uM 0 (rB f u least j l)=u*10^l.length+uM 0 l
 |0,u,_,_,l,h0,h1=>by
  have:u=0:=by simp at h1;omega
  subst this
  simp [rB]
 |f+1,u,least,j,l,h0,h1=>by
  have hp:(10:Int)^(f+1)=10^f*10:=fi 10 f
  rw [gA]
  cases h:decide (u>0)||decide (j<least)
  ·simp only [ap]
   have:u=0:=by
    rw [dh] at h
    have:=ae h.1
    omega
   subst this
   simp
  ·simp only [ar]
   rw [I3 f (u/10) least (j+1) _ (by omega) (by omega),az,fi,uM,GD]
   have e:u=u/10*10+u%10:=by omega
   generalize u/10=q at*
   generalize u%10=r at*
   subst e
   grind
theorem wF{u least:Int}(h0:0<=u)(h1:u<18446744073709551616):uM 0 (aZ u least)=u:=by
 have:=I3 20 u least 0 [] h0 (by omega)
 simpa [aZ,uM] using this
theorem Q2 : ∀(f k:Nat) (u:Int) (j:Nat) (l:List Int),l.length=j->0<=u->u<10^k->j+k<=j+f->(rB f u 1 j l).length<=max 1 (j+k)
 |0,k,u,j,l,hl,h0,h1,hk=>by
  show l.length<=_
  omega
 |f+1,k,u,j,l,hl,h0,h1,hk=>by
  rw [gA]
  by_cases hu:0<u
  ·rw [ao (show u>0 from hu)]
   simp only [gw,ar]
   cases k with
   |zero=>simp at h1;omega
   |succ k=>
    have hp:(10:Int)^(k+1)=10^k*10:=fi 10 k
    have:=Q2 f k (u/10) (j+1) ((48+u%10)::l) (by simp [hl]) (by omega) (by omega) (by omega)
    push_cast at this
    omega
  ·have:u=0:=by omega
   subst this
   rw [show decide ((0:Int)>0)=false from rfl,gx]
   by_cases hj:(j:Int)<1
   ·rw [ao hj]
    simp only [ar]
    have hj0:j=0:=by omega
    subst hj0
    have hl0:l=[]:=List.length_eq_zero_iff.1 hl
    subst hl0
    cases f with
    |zero=>simp [rB];omega
    |succ f=>
     rw [gA]
     simp
     omega
   ·rw [aj hj]
    simp only [ap]
    omega
theorem HS : ∀r:List Int,r=List.replicate (r.length - (pE r).length) 48++pE r
 | []=>rfl
 |a::r=>by
  unfold pE
  by_cases h:a=48
  ·subst h
   simp only [BEq.rfl,ar,az]
   have hl:=tL r
   rw [show r.length+1 - (pE r).length=(r.length - (pE r).length)+1 by omega,List.replicate_succ,gk,<- HS r]
  ·rw [show (a==48)=false by simpa using h]
   simp
theorem HW(l:List Int):lY l++List.replicate (l.length - (lY l).length) 48=l:=by
 have h:=congrArg List.reverse (HS l.reverse)
 rw [List.reverse_reverse,List.reverse_append,List.reverse_replicate,eu] at h
 unfold lY
 rw [eu]
 exact h.symm
theorem IX{l:List Int}{x:Int}(h:x∈lY l):x∈l:=by
 rw [<- HW l]
 exact List.mem_append_left _ h
theorem aEI : ∀(f:Nat) (u:Int) (j:Nat) (l:List Int),l.length=j->1<=(rB (f+1) u 1 j l).length
 |f,u,j,l,hl=>by
  rw [gA]
  cases h:decide (u>0)||decide ((j:Int)<1)
  ·simp only [ap]
   rw [dh] at h
   have:=ae h.2
   omega
  ·simp only [ar]
   have: ∀(f:Nat) (u least j:Int) (l:List Int),l.length<=(rB f u least j l).length:=fun f=>by
    induction f with
    |zero=>intro _ _ _ l;exact av _
    |succ f ih=>
     intro u least j l
     rw [gA]
     cases decide (u>0)||decide (j<least)
     ·exact av _
     ·have:=ih (u/10) least (j+1) ((48+u%10)::l)
      simp only [ar,az] at this|-
      omega
   have:=this f (u/10) 1 (j+1) ((48+u%10)::l)
   simp only [az] at this
   omega
theorem tT(u:Int):1<=(aZ u 1).length:=aEI 19 u 0 [] rfl
theorem sU{k:Nat}{u:Int}(h0:0<=u)(h1:u<10^k)(hk:k<=20):(aZ u 1).length<=max 1 k:=by
 have:=Q2 20 k u 0 [] rfl h0 h1 (by omega)
 rw [bi] at this
 exact this
theorem X0{l:List Int}(h:l.length<=10):(rQ l).length=10:=by
 unfold rQ
 rw [au,List.length_replicate]
 omega
theorem AP{l:List Int}{most:Int}(hd:zE l)(h1:1<=l.length)(h2:(l.length:Int)<=most)(h3:l.length<=18):nK l most=true/\qL l most=uM 0 l:=by
 have hg:N8 l most=false:=by
  unfold N8
  rw [aj (show¬l.length<1 by omega),aj (show¬(l.length:Int)>most by omega)];rfl
 obtain ⟨h,_,_⟩:=CH l 0 hd (Int.le_refl 0) (by have:=XA (18 - l.length);omega) h3
 unfold nK qL
 rw [hg,h]
 exact ⟨rfl,rfl⟩
theorem wD{c:Int}(hc:c<48): ∀l:List Int,zE l->iN c l=false
 | [],_=>rfl
 |a::l,h=>by
  have:=h a (bq ..)
  unfold iN
  rw [wD hc l fun x hx=>h x (bm _ hx),show (a==c)=false by rw [ck];omega];rfl
theorem F3{c:Int}(hc:c<48): ∀(l m:List Int),zE l->iN c (l++c::m)=true/\eM c (l++c::m)=l/\kF c (l++c::m)=m
 | [],m,_=>by unfold iN eM kF;simp
 |a::l,m,h=>by
  have ha:=h a (bq ..)
  obtain ⟨h1,h2,h3⟩:=F3 hc l m fun x hx=>h x (bm _ hx)
  rw [gk]
  unfold iN eM kF
  rw [show (a==c)=false by rw [ck];omega,h1,h2,h3]
  exact ⟨rfl,rfl,rfl⟩
theorem KP{l m:List Int}(hd:zE l)(h1:1<=l.length):mG (l++m)=false/\dN (l++m)=l++m:=by
 cases l with
 |nil=>simp at h1
 |cons a l=>
  have:=hd a (bq ..)
  have hb:mG (a::l++m)=false:=by
   show (a==45)=false
   rw [ck];omega
  exact ⟨hb,by unfold dN;rw [hb];rfl⟩
theorem OB{u:Int}(hu:0<=u):bM u<=9999999998/\2*(bM u*4294967296) - 2*(u%4294967296*10000000000)<=4294967296/\2*(u%4294967296*10000000000) - 2*(bM u*4294967296)<=4294967296:=by
 unfold bM nY i4 yE iY
 have h0:0<=u%4294967296*10000000000:=by omega
 have h1:u%4294967296*10000000000<=4294967295*10000000000:=by omega
 rw [show aQ (u%4294967296*10000000000)=u%4294967296*10000000000 by unfold aQ;rw [aj (show¬u%4294967296*10000000000<0 by omega)];rfl]
 rw [show aQ 4294967296=4294967296 by decide,aj (show¬u%4294967296*10000000000<0 by omega)]
 generalize u%4294967296*10000000000=p at*
 rw [show (false !=decide ((4294967296:Int)<0))=false by decide]
 simp only [ap]
 cases hc:(decide (p%4294967296>4294967296 - p%4294967296)||(p%4294967296==4294967296 - p%4294967296&&p/4294967296%2==1))&&decide (p%4294967296>0)
 ·simp only [ap]
  have hn: ¬p%4294967296>4294967296 - p%4294967296:=fun h=>by
   rw [ao h,gw,ch] at hc
   have:=ae hc;omega
  rw [show ((4294967296:Int) !=0&&oL (p/4294967296))=true by rw [(kM _).2 (by omega)];rfl]
  simp only [ar];omega
 ·simp only [ar]
  simp only [af,Bool.or_eq_true,ak,ci] at hc
  rw [show ((4294967296:Int) !=0&&oL (p/4294967296+1))=true by rw [(kM _).2 (by omega)];rfl]
  simp only [ar];omega
theorem IK(n:Int)(h:0<=n):2*n - 10000000000<=20000000000*iY n 10000000000/\20000000000*iY n 10000000000<=2*n+10000000000/\0<=iY n 10000000000:=by
 unfold iY
 cases hc:(decide (n%10000000000>10000000000 - n%10000000000)||(n%10000000000==10000000000 - n%10000000000&&n/10000000000%2==1))&&decide (n%10000000000>0)
 ·simp only [ap]
  have: ¬n%10000000000>10000000000 - n%10000000000:=fun h1=>by
   rw [ao h1,gw,ch] at hc
   have:=ae hc;omega
  omega
 ·simp only [ar]
  simp only [af,Bool.or_eq_true,ak,ci] at hc
  omega
theorem YR{u:Int}(hu:0<=u):nY (bM u*4294967296) 10000000000=u%4294967296:=by
 have h:=OB hu
 have h0:=(oC hu).1
 have hp:0<=bM u*4294967296:=by omega
 have hr:=IK _ hp
 have hn:yE (bM u*4294967296) 10000000000=iY (bM u*4294967296) 10000000000:=by
  unfold yE
  rw [show aQ (bM u*4294967296)=bM u*4294967296 by unfold aQ;rw [aj (show¬bM u*4294967296<0 by omega)];rfl,show aQ 10000000000=10000000000 by decide,
   aj (show¬bM u*4294967296<0 by omega)];rfl
 unfold nY i4
 rw [hn,show ((10000000000:Int) !=0&&oL (iY (bM u*4294967296) 10000000000))=true by rw [(kM _).2 (by omega)];rfl]
 simp only [ar]
 omega
theorem AV(c:Int): ∀l:List Int,iN c l=false->kF c l=[]
 | [],_=>rfl
 |a::l,h=>by
  unfold iN at h
  rw [dh] at h
  unfold kF
  rw [h.1]
  exact AV c l h.2
theorem sB(c:Int): ∀l:List Int,l.take (eM c l).length=eM c l
 | []=>rfl
 |a::l=>by
  unfold eM
  cases a==c
  ·simp only [ap,az,List.take_succ_cons,sB c l]
  ·rfl
theorem yN(c:Int): ∀l:List Int,iN c l=true->l.drop ((eM c l).length+1)=kF c l/\(eM c l).length+1<=l.length
 | [],h=>by cases h
 |a::l,h=>by
  unfold iN at h
  unfold eM kF
  cases e:a==c
  ·rw [e,gx] at h
   have:=yN c l h
   simp only [ap,az,List.drop_succ_cons]
   exact ⟨this.1,by omega⟩
  ·simp
def ET :List SV->List (Option SB)->Option (Bool×SV×List (Option SB)×List Nat)
 | [.str s,.str t],[]=>some (t==⟨#[45]⟩,.tup [.str (bytesOf (dN (aD s))),.bool (mG (aD s))],[],[])
 |_,_=>none
def aMx :List SV->List (Option SB)->Option (Bool×SV×List (Option SB)×List Nat)
 | [.str s,.str t],[]=>some (t==⟨#[46]⟩,.tup [.str (bytesOf (eM 46 (aD s))),.str (bytesOf (kF 46 (aD s))),.bool (iN 46 (aD s))],[],[])
 |_,_=>none
def W6 :List SV->List (Option SB)->Out
 | [.str s,.int .i64 m],[]=>some (.tup [.int .i64 (qL (aD s) m),.bool (nK (aD s) m)],[],[])
 |_,_=>none
def XI :List SV->List (Option SB)->Option (Bool×SV×List (Option SB)×List Nat)
 | [.str s,.int .i64 k],[]=>some (s==⟨#[48]⟩&&(decide (0<=k)&&decide (k<=9)),.str (bytesOf (List.replicate k.toNat 48)),[],[])
 |_,_=>none
theorem G3{l:List Int}{K:KC}(hb:bH l)(hK:K (.tup [.str (bytesOf (dN l)),.bool (mG l)]) [] []):
  Br (decide (((bytesOf l).size:Int)>=1)) (If (true&&(true&&decide ((1:Int)<=((bytesOf l).size:Int)))) (Br (!((bytesOf l).extract 0 1==⟨#[45]⟩)) (K (.tup [.str (bytesOf l),.bool false]) [] [])
   (If (true&&(decide ((1:Int)<=((bytesOf l).size:Int))&&decide (((bytesOf l).size:Int)<=((bytesOf l).size:Int)))) (K (.tup [.str ((bytesOf l).extract 1 ((bytesOf l).size:Int).toNat),.bool true]) [] []))))
   (K (.tup [.str (bytesOf l),.bool false]) [] []):=by
 rw [aM]
 cases l with
 |nil=>exact Br.of (fun c=>by have:=aa c;simp at this) fun _=>hK
 |cons a l=>
  have ha:bH [a]:=fun x hx=>hb x (by rcases aq.1 hx with rfl;exact bq ..)
  rw [eE,eE,show (⟨#[45]⟩:ByteArray)=bytesOf [45] from rfl]
  simp only [gq,List.take_succ_cons,List.take_zero,List.drop_succ_cons,dk]
  rw [I8 ha (fun x hx=>by rcases aq.1 hx with rfl;omega),am,az,Nat.add_sub_cancel,gz]
  refine Br.of (fun c=>If.mk (by simpa using c) (Br.of (fun e=> ?_) fun e=>If.mk (by simpa using c) ?_)) fun c=> ?_
  ·have: ¬a=45:=by simpa using e
   have hm:mG (a::l)=false:=by
    show (a==45)=false
    simpa using this
   unfold dN at hK
   rw [hm] at hK
   exact hK
  ·have:a=45:=by simpa using e
   subst this
   exact hK
  ·have:=ae c
   simp at this
   omega
theorem aHp{l:List Int}{K:KC}(hb:bH l)(hl:l.length<9223372036854775808)(hK:K (.tup [.str (bytesOf (eM 46 l)),.str (bytesOf (kF 46 l)),.bool (iN 46 l)]) [] []):
  Br ((⟨#[46]⟩:ByteArray)==bytesOf l) (If (true&&(decide ((1:Int)<=((bytesOf l).size:Int))&&decide (((bytesOf l).size:Int)<=((bytesOf l).size:Int)))) (K (.tup [.str ((bytesOf l).extract 0 0),.str ((bytesOf l).extract 1 ((bytesOf l).size:Int).toNat),.bool true]) [] []))
   (Br (decide (iC (bytesOf l) 46>=0)) (If (true&&(decide ((0:Int)<=iC (bytesOf l) 46)&&decide (iC (bytesOf l) 46<=((bytesOf l).size:Int))))
    (If (decide (0<=IntKind.i64.wrap (iC (bytesOf l) 46+1))&&(decide (IntKind.i64.wrap (iC (bytesOf l) 46+1)<=((bytesOf l).size:Int))&&decide (((bytesOf l).size:Int)<=((bytesOf l).size:Int))))
     (K (.tup [.str ((bytesOf l).extract 0 (iC (bytesOf l) 46).toNat),.str ((bytesOf l).extract (IntKind.i64.wrap (iC (bytesOf l) 46+1)).toNat ((bytesOf l).size:Int).toNat),.bool true]) [] [])))
    (K (.tup [.str (bytesOf l),.str ⟨#[]⟩,.bool false]) [] [])):=by
 rw [yG hb (by decide) (by decide),qR,aM]
 refine Br.of (fun c=> ?_) fun _=> ?_
 ·have hl1:l=[46]:=by
   rw [lO,ci] at c
   have c:bytesOf [46]=bytesOf l:=ep c
   have:=congrArg aD c
   rw [cX hb,cX (fun x hx=>by rcases aq.1 hx with rfl;omega)] at this
   exact this.symm
  subst hl1
  exact If.mk rfl hK
 ·cases hh:iN 46 l with
  |false=>
   rw [hh,rY _ _ hh,AV _ _ hh] at hK
   refine Br.of (fun c=> ?_) fun _=>hK
   have:=aa c
   simp at this
  |true=>
   obtain ⟨h1,h2⟩:=yN 46 l hh
   have h3:=sB 46 l
   rw [hh] at hK
   simp only [ar,bi]
   have hw:IntKind.i64.wrap ((((eM 46 l).length:Nat):Int)+1)=(((eM 46 l).length+1:Nat):Int):=by rw [fK];omega
   rw [hw,eE,eE]
   simp only [am,gq,dk]
   rw [h3,h1,show (kF 46 l).take (l.length - ((eM 46 l).length+1))=kF 46 l by rw [<- h1,<- dc,gz]]
   refine Br.of (fun _=>If.mk ?_ (If.mk ?_ hK)) fun c=> ?_
   ·simp only [ch,af,ak];omega
   ·simp only [af,ak];omega
   ·have:=ae c
    omega
def G2(l:List Int):List Int:=l++List.replicate (10 - l.length) 48
def xG(l:List Int):Int:=bif nK l 10 then qL (G2 l) 10 else 0
def E1(l:List Int):Bool:=bif nK l 10 then nK (G2 l) 10 else false
def aHW :List SV->List (Option SB)->Out
 | [.str s],[]=>some (.tup [.int .i64 (xG (aD s)),.bool (E1 (aD s))],[],[])
 |_,_=>none
theorem vY{l:List Int}{m:Int}(h:nK l m=true):1<=l.length/\(l.length:Int)<=m:=by
 unfold nK at h
 cases hg:N8 l m with
 |true=>rw [hg] at h;cases h
 |false=>
  unfold N8 at hg
  rw [dh] at hg
  have a:=ae hg.1
  have b:=ae hg.2
  omega
theorem VM{l:List Int}(h:bH l)(n:Nat):bH (l++List.replicate n 48):=fun x hx=>by
 rcases ct.1 hx with hx|hx
 ·exact h x hx
 ·rw [List.eq_of_mem_replicate hx];omega
def rdF(Z:Int)(K:KC):Prop:=
 Br (Z/18446744073709551616 !=(IntKind.i64.wrap (Z%18446744073709551616)).fdiv (2^min (63:Int).toNat IntKind.i64.bits)) (K (.tup [.int .i64 0,.int .i64 2]) [] []) (K (.tup [.int .i64 (IntKind.i64.wrap (Z%18446744073709551616)),.int .i64 0]) [] [])
def rdA(a b:Int):Int:=bif dG (wv (a/18446744073709551616) (a%18446744073709551616)+wv (b/18446744073709551616) (b%18446744073709551616)) then wv (a/18446744073709551616) (a%18446744073709551616)+wv (b/18446744073709551616) (b%18446744073709551616) else 0
def rdM(a:Int):Int:=bif dG (-wv (a/18446744073709551616) (a%18446744073709551616)) then -wv (a/18446744073709551616) (a%18446744073709551616) else 0
def rdW(neg:Bool)(n f:Int)(K:KC):Prop:=
 (fun X=>Br neg (rdF (rdM X) K) (rdF X K)) (rdA (n*4294967296) (nY (wv (f*4294967296/18446744073709551616) (f*4294967296%18446744073709551616)) 10000000000))
def rdQ(neg ok:Bool)(n f:Int)(K:KC):Prop:=Br (!ok) (K (.tup [.int .i64 0,.int .i64 24]) [] []) (rdW neg n f K)
def rdR(neg ok pt rb:Bool)(n f:Int)(K:KC):Prop:=Br ok (Br pt (rdQ neg rb n f K) (rdQ neg ok n 0 K)) (rdQ neg ok n 0 K)
def lsB(l:List Int):List Int:=aD (bytesOf l)
def rdP(s:ByteArray)(K:KC):Prop:=
 (fun l=>rdR (mG (aD s)) (nK (lsB (eM 46 l)) 10) (iN 46 l) (E1 (lsB (kF 46 l))) (qL (lsB (eM 46 l)) 10) (xG (lsB (kF 46 l))) K) (lsB (dN (aD s)))
theorem NN(n:Int):aC n=kS n++(aZ (aQ n/4294967296) 1++uC (aQ n)):=rfl
theorem D5{n:Int}{l m:List Int}(hd:zE l)(h1:1<=l.length):mG (kS n++(l++m))=decide (n<0)/\dN (kS n++(l++m))=l++m:=by
 unfold kS
 cases h:decide (n<0)
 ·simp only [ap,dj]
  exact KP hd h1
 ·exact ⟨rfl,rfl⟩
theorem UR{l:List Int}(h:bH l):lsB l=l:=cX h
end Go.Se
