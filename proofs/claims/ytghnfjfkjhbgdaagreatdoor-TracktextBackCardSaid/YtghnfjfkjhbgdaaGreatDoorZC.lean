import Derived.Test.YtghnfjfkjhbgdaaGreatDoorZB
import Derived.Test.YtghnfjfkjhbgdaaGreatDoorChecked
import Derived.Eval
import Derived.KernelRfl
import Derived.Laws.BitsLemmas
import Derived.Lib.Bytealg
import Derived.Laws.RangeAny
namespace Go.Proofs.YtghnfjfkjhbgdaaGreatDoor
open Go.Se
set_option maxRecDepth 100000
noncomputable def fns :List (FuncId×Func):=[(2,Tryz.f2),(3,Tryz.f3),(4,Tryz.f4),(5,Tryz.f5),(6,Tryz.f6),(7,Tryz.f7),(8,Tryz.f8),(9,Tryz.f9),(10,Tryz.f10),(11,Tryz.f11),(12,Tryz.f12),(13,Tryz.f13),(14,Tryz.f14),(15,Tryz.f15),(16,Tryz.f16),(17,Tryz.f17),(18,Tryz.f18),(19,Tryz.f19),(20,Tryz.f20),(21,Tryz.f21),(22,Tryz.f22),(23,Tryz.f23),(24,Tryz.f24),(25,Tryz.f25),(26,Tryz.f26),(27,Tryz.f27),(28,Tryz.f28),(29,Tryz.f29),(30,Tryz.f30),(31,Tryz.f31),(32,Tryz.f32),(33,Tryz.f33),(34,Tryz.f34),(35,Tryz.f35),(36,Tryz.f36),(37,Tryz.f37),(38,Tryz.f38),(39,Tryz.f39),(40,Tryz.f40),(41,Tryz.f41),(42,Tryz.f42),(43,Tryz.f43),(44,Tryz.f44),(45,Tryz.f45),(46,Tryz.f46),(47,Tryz.f47),(48,Tryz.f48),(49,Tryz.f49),(50,Tryz.f50),(51,Tryz.f51),(52,Tryz.f52),(53,Tryz.f53),(54,Tryz.f54),(55,Tryz.f55),(56,Tryz.f56),(57,Tryz.f57),(58,Tryz.f58),(59,Tryz.f59),(60,Tryz.f60),(61,Tryz.f61),(62,Tryz.f62),(63,Tryz.f63),(64,Tryz.f64),(65,Tryz.f65),(66,Tryz.f66),(67,Tryz.f67),(68,Tryz.f68),(69,Tryz.f69),(70,Tryz.f70),(71,Tryz.f71),(72,Tryz.f72),(73,Tryz.f73),(74,Tryz.f74),(75,Tryz.f75),(76,Tryz.f76),(77,Tryz.f77),(78,Tryz.f78),(79,Tryz.f79),(80,Tryz.f80),(81,Tryz.f81),(82,Tryz.f82),(83,Tryz.f83),(84,Tryz.f84),(85,Tryz.f85),(86,Tryz.f86),(87,Tryz.f87),(88,Tryz.f88),(89,Tryz.f89),(90,Tryz.f90),(91,Tryz.f91),(92,Tryz.f92),(93,Tryz.f93),(97,Tryz.f97),(98,Tryz.f98),(99,Tryz.f99),(100,Tryz.f100),(101,Tryz.f101),(102,Tryz.f102),(103,Tryz.f103),(104,Tryz.f104),(105,Tryz.f105),(106,Tryz.f106),(107,Tryz.f107),(108,Tryz.f108),(109,Tryz.f109),(110,Tryz.f110),(111,Tryz.f111),(112,Tryz.f112),(113,Tryz.f113),(114,Tryz.f114),(115,Tryz.f115),(116,Tryz.f116),(117,Tryz.f117),(118,Tryz.f118),(119,Tryz.f119),(120,Tryz.f120),(121,Tryz.f121),(122,Tryz.f122),(123,Tryz.f123),(124,Tryz.f124),(125,Tryz.f125),(126,Tryz.f126),(127,Tryz.f127),(128,Tryz.f128),(129,Tryz.f129),(130,Tryz.f130),(131,Tryz.f131),(132,Tryz.f132),(133,Tryz.f133),(134,Tryz.f134),(135,Tryz.f135),(136,Tryz.f136),(140,Tryz.f140),(141,Tryz.f141),(142,Tryz.f142),(143,Tryz.f143),(144,Tryz.f144),(145,Tryz.f145),(146,Tryz.f146),(147,Tryz.f147),(148,Tryz.f148),(149,Tryz.f149),(150,Tryz.f150),(151,Tryz.f151),(152,Tryz.f152),(154,Tryz.f154),(155,Tryz.f155),(156,Tryz.f156),(157,Tryz.f157),(158,Tryz.f158),(159,Tryz.f159),(160,Tryz.f160),(161,Tryz.f161),(162,Tryz.f162),(163,Tryz.f163),(164,Tryz.f164),(165,Tryz.f165),(166,Tryz.f166),(167,Tryz.f167),(168,Tryz.f168),(169,Tryz.f169),(170,Tryz.f170),(171,Tryz.f171),(172,Tryz.f172),(173,Tryz.f173),(174,Tryz.f174),(175,Tryz.f175),(176,Tryz.f176),(177,Tryz.f177),(178,Tryz.f178),(179,Tryz.f179),(180,Tryz.f180),(181,Tryz.f181),(182,Tryz.f182),(183,Tryz.f183),(184,Tryz.f184),(185,Tryz.f185),(186,Tryz.f186),(187,Tryz.f187),(188,Tryz.f188),(189,Tryz.f189),(190,Tryz.f190),(191,Tryz.f191),(192,Tryz.f192),(193,Tryz.f193),(194,Tryz.f194),(195,Tryz.f195),(196,Tryz.f196),(197,Tryz.f197),(198,Tryz.f198),(200,Tryz.f200),(201,Tryz.f201),(202,Tryz.f202),(203,Tryz.f203),(204,Tryz.f204),(205,Tryz.f205),(206,Tryz.f206),(209,Tryz.f209),(210,Tryz.f210),(211,Tryz.f211),(212,Tryz.f212),(213,Tryz.f213),(214,Tryz.f214),(215,Tryz.f215),(216,Tryz.f216),(217,Tryz.f217),(218,Tryz.f218),(219,Tryz.f219),(220,Tryz.f220),(221,Tryz.f221),(222,Tryz.f222),(223,Tryz.f223),(224,Tryz.f224),(225,Tryz.f225),(227,Tryz.f227),(229,Tryz.f229),(230,Tryz.f230),(231,Tryz.f231),(232,Tryz.f232),(233,Tryz.f233),(234,Tryz.f234),(235,Tryz.f235),(236,Tryz.f236),(237,Tryz.f237),(238,Tryz.f238),(239,Tryz.f239),(240,Tryz.f240),(241,Tryz.f241),(243,Tryz.f243),(244,Tryz.f244),(245,Tryz.f245),(246,Tryz.f246),(281,Tryz.f281),(282,Tryz.f282),(283,Tryz.f283),(284,Tryz.f284),(292,Tryz.f292)]
theorem aFF : ∀p∈fns,Tryz.prog.funcs[p.1]? =some p.2:=List.forall_mem_cons.2 ⟨Tryz.func2,List.forall_mem_cons.2 ⟨Tryz.func3,List.forall_mem_cons.2 ⟨Tryz.func4,List.forall_mem_cons.2 ⟨Tryz.func5,List.forall_mem_cons.2 ⟨Tryz.func6,List.forall_mem_cons.2 ⟨Tryz.func7,List.forall_mem_cons.2 ⟨Tryz.func8,List.forall_mem_cons.2 ⟨Tryz.func9,List.forall_mem_cons.2 ⟨Tryz.func10,List.forall_mem_cons.2 ⟨Tryz.func11,List.forall_mem_cons.2 ⟨Tryz.func12,List.forall_mem_cons.2 ⟨Tryz.func13,List.forall_mem_cons.2 ⟨Tryz.func14,List.forall_mem_cons.2 ⟨Tryz.func15,List.forall_mem_cons.2 ⟨Tryz.func16,List.forall_mem_cons.2 ⟨Tryz.func17,List.forall_mem_cons.2 ⟨Tryz.func18,List.forall_mem_cons.2 ⟨Tryz.func19,List.forall_mem_cons.2 ⟨Tryz.func20,List.forall_mem_cons.2 ⟨Tryz.func21,List.forall_mem_cons.2 ⟨Tryz.func22,List.forall_mem_cons.2 ⟨Tryz.func23,List.forall_mem_cons.2 ⟨Tryz.func24,List.forall_mem_cons.2 ⟨Tryz.func25,List.forall_mem_cons.2 ⟨Tryz.func26,List.forall_mem_cons.2 ⟨Tryz.func27,List.forall_mem_cons.2 ⟨Tryz.func28,List.forall_mem_cons.2 ⟨Tryz.func29,List.forall_mem_cons.2 ⟨Tryz.func30,List.forall_mem_cons.2 ⟨Tryz.func31,List.forall_mem_cons.2 ⟨Tryz.func32,List.forall_mem_cons.2 ⟨Tryz.func33,List.forall_mem_cons.2 ⟨Tryz.func34,List.forall_mem_cons.2 ⟨Tryz.func35,List.forall_mem_cons.2 ⟨Tryz.func36,List.forall_mem_cons.2 ⟨Tryz.func37,List.forall_mem_cons.2 ⟨Tryz.func38,List.forall_mem_cons.2 ⟨Tryz.func39,List.forall_mem_cons.2 ⟨Tryz.func40,List.forall_mem_cons.2 ⟨Tryz.func41,List.forall_mem_cons.2 ⟨Tryz.func42,List.forall_mem_cons.2 ⟨Tryz.func43,List.forall_mem_cons.2 ⟨Tryz.func44,List.forall_mem_cons.2 ⟨Tryz.func45,List.forall_mem_cons.2 ⟨Tryz.func46,List.forall_mem_cons.2 ⟨Tryz.func47,List.forall_mem_cons.2 ⟨Tryz.func48,List.forall_mem_cons.2 ⟨Tryz.func49,List.forall_mem_cons.2 ⟨Tryz.func50,List.forall_mem_cons.2 ⟨Tryz.func51,List.forall_mem_cons.2 ⟨Tryz.func52,List.forall_mem_cons.2 ⟨Tryz.func53,List.forall_mem_cons.2 ⟨Tryz.func54,List.forall_mem_cons.2 ⟨Tryz.func55,List.forall_mem_cons.2 ⟨Tryz.func56,List.forall_mem_cons.2 ⟨Tryz.func57,List.forall_mem_cons.2 ⟨Tryz.func58,List.forall_mem_cons.2 ⟨Tryz.func59,List.forall_mem_cons.2 ⟨Tryz.func60,List.forall_mem_cons.2 ⟨Tryz.func61,List.forall_mem_cons.2 ⟨Tryz.func62,List.forall_mem_cons.2 ⟨Tryz.func63,List.forall_mem_cons.2 ⟨Tryz.func64,List.forall_mem_cons.2 ⟨Tryz.func65,List.forall_mem_cons.2 ⟨Tryz.func66,List.forall_mem_cons.2 ⟨Tryz.func67,List.forall_mem_cons.2 ⟨Tryz.func68,List.forall_mem_cons.2 ⟨Tryz.func69,List.forall_mem_cons.2 ⟨Tryz.func70,List.forall_mem_cons.2 ⟨Tryz.func71,List.forall_mem_cons.2 ⟨Tryz.func72,List.forall_mem_cons.2 ⟨Tryz.func73,List.forall_mem_cons.2 ⟨Tryz.func74,List.forall_mem_cons.2 ⟨Tryz.func75,List.forall_mem_cons.2 ⟨Tryz.func76,List.forall_mem_cons.2 ⟨Tryz.func77,List.forall_mem_cons.2 ⟨Tryz.func78,List.forall_mem_cons.2 ⟨Tryz.func79,List.forall_mem_cons.2 ⟨Tryz.func80,List.forall_mem_cons.2 ⟨Tryz.func81,List.forall_mem_cons.2 ⟨Tryz.func82,List.forall_mem_cons.2 ⟨Tryz.func83,List.forall_mem_cons.2 ⟨Tryz.func84,List.forall_mem_cons.2 ⟨Tryz.func85,List.forall_mem_cons.2 ⟨Tryz.func86,List.forall_mem_cons.2 ⟨Tryz.func87,List.forall_mem_cons.2 ⟨Tryz.func88,List.forall_mem_cons.2 ⟨Tryz.func89,List.forall_mem_cons.2 ⟨Tryz.func90,List.forall_mem_cons.2 ⟨Tryz.func91,List.forall_mem_cons.2 ⟨Tryz.func92,List.forall_mem_cons.2 ⟨Tryz.func93,List.forall_mem_cons.2 ⟨Tryz.func97,List.forall_mem_cons.2 ⟨Tryz.func98,List.forall_mem_cons.2 ⟨Tryz.func99,List.forall_mem_cons.2 ⟨Tryz.func100,List.forall_mem_cons.2 ⟨Tryz.func101,List.forall_mem_cons.2 ⟨Tryz.func102,List.forall_mem_cons.2 ⟨Tryz.func103,List.forall_mem_cons.2 ⟨Tryz.func104,List.forall_mem_cons.2 ⟨Tryz.func105,List.forall_mem_cons.2 ⟨Tryz.func106,List.forall_mem_cons.2 ⟨Tryz.func107,List.forall_mem_cons.2 ⟨Tryz.func108,List.forall_mem_cons.2 ⟨Tryz.func109,List.forall_mem_cons.2 ⟨Tryz.func110,List.forall_mem_cons.2 ⟨Tryz.func111,List.forall_mem_cons.2 ⟨Tryz.func112,List.forall_mem_cons.2 ⟨Tryz.func113,List.forall_mem_cons.2 ⟨Tryz.func114,List.forall_mem_cons.2 ⟨Tryz.func115,List.forall_mem_cons.2 ⟨Tryz.func116,List.forall_mem_cons.2 ⟨Tryz.func117,List.forall_mem_cons.2 ⟨Tryz.func118,List.forall_mem_cons.2 ⟨Tryz.func119,List.forall_mem_cons.2 ⟨Tryz.func120,List.forall_mem_cons.2 ⟨Tryz.func121,List.forall_mem_cons.2 ⟨Tryz.func122,List.forall_mem_cons.2 ⟨Tryz.func123,List.forall_mem_cons.2 ⟨Tryz.func124,List.forall_mem_cons.2 ⟨Tryz.func125,List.forall_mem_cons.2 ⟨Tryz.func126,List.forall_mem_cons.2 ⟨Tryz.func127,List.forall_mem_cons.2 ⟨Tryz.func128,List.forall_mem_cons.2 ⟨Tryz.func129,List.forall_mem_cons.2 ⟨Tryz.func130,List.forall_mem_cons.2 ⟨Tryz.func131,List.forall_mem_cons.2 ⟨Tryz.func132,List.forall_mem_cons.2 ⟨Tryz.func133,List.forall_mem_cons.2 ⟨Tryz.func134,List.forall_mem_cons.2 ⟨Tryz.func135,List.forall_mem_cons.2 ⟨Tryz.func136,List.forall_mem_cons.2 ⟨Tryz.func140,List.forall_mem_cons.2 ⟨Tryz.func141,List.forall_mem_cons.2 ⟨Tryz.func142,List.forall_mem_cons.2 ⟨Tryz.func143,List.forall_mem_cons.2 ⟨Tryz.func144,List.forall_mem_cons.2 ⟨Tryz.func145,List.forall_mem_cons.2 ⟨Tryz.func146,List.forall_mem_cons.2 ⟨Tryz.func147,List.forall_mem_cons.2 ⟨Tryz.func148,List.forall_mem_cons.2 ⟨Tryz.func149,List.forall_mem_cons.2 ⟨Tryz.func150,List.forall_mem_cons.2 ⟨Tryz.func151,List.forall_mem_cons.2 ⟨Tryz.func152,List.forall_mem_cons.2 ⟨Tryz.func154,List.forall_mem_cons.2 ⟨Tryz.func155,List.forall_mem_cons.2 ⟨Tryz.func156,List.forall_mem_cons.2 ⟨Tryz.func157,List.forall_mem_cons.2 ⟨Tryz.func158,List.forall_mem_cons.2 ⟨Tryz.func159,List.forall_mem_cons.2 ⟨Tryz.func160,List.forall_mem_cons.2 ⟨Tryz.func161,List.forall_mem_cons.2 ⟨Tryz.func162,List.forall_mem_cons.2 ⟨Tryz.func163,List.forall_mem_cons.2 ⟨Tryz.func164,List.forall_mem_cons.2 ⟨Tryz.func165,List.forall_mem_cons.2 ⟨Tryz.func166,List.forall_mem_cons.2 ⟨Tryz.func167,List.forall_mem_cons.2 ⟨Tryz.func168,List.forall_mem_cons.2 ⟨Tryz.func169,List.forall_mem_cons.2 ⟨Tryz.func170,List.forall_mem_cons.2 ⟨Tryz.func171,List.forall_mem_cons.2 ⟨Tryz.func172,List.forall_mem_cons.2 ⟨Tryz.func173,List.forall_mem_cons.2 ⟨Tryz.func174,List.forall_mem_cons.2 ⟨Tryz.func175,List.forall_mem_cons.2 ⟨Tryz.func176,List.forall_mem_cons.2 ⟨Tryz.func177,List.forall_mem_cons.2 ⟨Tryz.func178,List.forall_mem_cons.2 ⟨Tryz.func179,List.forall_mem_cons.2 ⟨Tryz.func180,List.forall_mem_cons.2 ⟨Tryz.func181,List.forall_mem_cons.2 ⟨Tryz.func182,List.forall_mem_cons.2 ⟨Tryz.func183,List.forall_mem_cons.2 ⟨Tryz.func184,List.forall_mem_cons.2 ⟨Tryz.func185,List.forall_mem_cons.2 ⟨Tryz.func186,List.forall_mem_cons.2 ⟨Tryz.func187,List.forall_mem_cons.2 ⟨Tryz.func188,List.forall_mem_cons.2 ⟨Tryz.func189,List.forall_mem_cons.2 ⟨Tryz.func190,List.forall_mem_cons.2 ⟨Tryz.func191,List.forall_mem_cons.2 ⟨Tryz.func192,List.forall_mem_cons.2 ⟨Tryz.func193,List.forall_mem_cons.2 ⟨Tryz.func194,List.forall_mem_cons.2 ⟨Tryz.func195,List.forall_mem_cons.2 ⟨Tryz.func196,List.forall_mem_cons.2 ⟨Tryz.func197,List.forall_mem_cons.2 ⟨Tryz.func198,List.forall_mem_cons.2 ⟨Tryz.func200,List.forall_mem_cons.2 ⟨Tryz.func201,List.forall_mem_cons.2 ⟨Tryz.func202,List.forall_mem_cons.2 ⟨Tryz.func203,List.forall_mem_cons.2 ⟨Tryz.func204,List.forall_mem_cons.2 ⟨Tryz.func205,List.forall_mem_cons.2 ⟨Tryz.func206,List.forall_mem_cons.2 ⟨Tryz.func209,List.forall_mem_cons.2 ⟨Tryz.func210,List.forall_mem_cons.2 ⟨Tryz.func211,List.forall_mem_cons.2 ⟨Tryz.func212,List.forall_mem_cons.2 ⟨Tryz.func213,List.forall_mem_cons.2 ⟨Tryz.func214,List.forall_mem_cons.2 ⟨Tryz.func215,List.forall_mem_cons.2 ⟨Tryz.func216,List.forall_mem_cons.2 ⟨Tryz.func217,List.forall_mem_cons.2 ⟨Tryz.func218,List.forall_mem_cons.2 ⟨Tryz.func219,List.forall_mem_cons.2 ⟨Tryz.func220,List.forall_mem_cons.2 ⟨Tryz.func221,List.forall_mem_cons.2 ⟨Tryz.func222,List.forall_mem_cons.2 ⟨Tryz.func223,List.forall_mem_cons.2 ⟨Tryz.func224,List.forall_mem_cons.2 ⟨Tryz.func225,List.forall_mem_cons.2 ⟨Tryz.func227,List.forall_mem_cons.2 ⟨Tryz.func229,List.forall_mem_cons.2 ⟨Tryz.func230,List.forall_mem_cons.2 ⟨Tryz.func231,List.forall_mem_cons.2 ⟨Tryz.func232,List.forall_mem_cons.2 ⟨Tryz.func233,List.forall_mem_cons.2 ⟨Tryz.func234,List.forall_mem_cons.2 ⟨Tryz.func235,List.forall_mem_cons.2 ⟨Tryz.func236,List.forall_mem_cons.2 ⟨Tryz.func237,List.forall_mem_cons.2 ⟨Tryz.func238,List.forall_mem_cons.2 ⟨Tryz.func239,List.forall_mem_cons.2 ⟨Tryz.func240,List.forall_mem_cons.2 ⟨Tryz.func241,List.forall_mem_cons.2 ⟨Tryz.func243,List.forall_mem_cons.2 ⟨Tryz.func244,List.forall_mem_cons.2 ⟨Tryz.func245,List.forall_mem_cons.2 ⟨Tryz.func246,List.forall_mem_cons.2 ⟨Tryz.func281,List.forall_mem_cons.2 ⟨Tryz.func282,List.forall_mem_cons.2 ⟨Tryz.func283,List.forall_mem_cons.2 ⟨Tryz.func284,List.forall_mem_cons.2 ⟨Tryz.func292,fun _ h=>nomatch h⟩⟩⟩⟩⟩⟩⟩⟩⟩⟩⟩⟩⟩⟩⟩⟩⟩⟩⟩⟩⟩⟩⟩⟩⟩⟩⟩⟩⟩⟩⟩⟩⟩⟩⟩⟩⟩⟩⟩⟩⟩⟩⟩⟩⟩⟩⟩⟩⟩⟩⟩⟩⟩⟩⟩⟩⟩⟩⟩⟩⟩⟩⟩⟩⟩⟩⟩⟩⟩⟩⟩⟩⟩⟩⟩⟩⟩⟩⟩⟩⟩⟩⟩⟩⟩⟩⟩⟩⟩⟩⟩⟩⟩⟩⟩⟩⟩⟩⟩⟩⟩⟩⟩⟩⟩⟩⟩⟩⟩⟩⟩⟩⟩⟩⟩⟩⟩⟩⟩⟩⟩⟩⟩⟩⟩⟩⟩⟩⟩⟩⟩⟩⟩⟩⟩⟩⟩⟩⟩⟩⟩⟩⟩⟩⟩⟩⟩⟩⟩⟩⟩⟩⟩⟩⟩⟩⟩⟩⟩⟩⟩⟩⟩⟩⟩⟩⟩⟩⟩⟩⟩⟩⟩⟩⟩⟩⟩⟩⟩⟩⟩⟩⟩⟩⟩⟩⟩⟩⟩⟩⟩⟩⟩⟩⟩⟩⟩⟩⟩⟩⟩⟩⟩⟩⟩⟩⟩⟩⟩⟩⟩⟩⟩⟩⟩⟩⟩⟩⟩⟩⟩⟩⟩⟩⟩⟩⟩⟩⟩⟩⟩⟩⟩⟩⟩⟩⟩
theorem ZY :fns.all (fun p=> !(p.2.name== "runtime.NumGoroutine"))=true:=by kernel_rfl
theorem UD{k:FuncId}{fn:Func}(h:G7 fns k=some fn):(fn.name== "runtime.NumGoroutine")=false:=by
 have hin: ∀l:List (FuncId×Func),G7 l k=some fn->(k,fn)∈l:=by
  intro l
  induction l with
  |nil=>intro h;simp [G7] at h
  |cons p l ih=>
   intro h
   obtain ⟨u,j⟩:=p
   simp only [G7] at h
   cases e:Nat.beq u k with
   |true=>rw [e] at h;simp only [cond_true,Option.some.injEq] at h;rw [<- h,<- Nat.eq_of_beq_eq_true e];exact List.mem_cons_self ..
   |false=>rw [e] at h;exact List.mem_cons_of_mem _ (ih h)
 have:=List.all_eq_true.1 ZY _ (hin _ h)
 simpa using this
noncomputable def tab :Tab Tryz.prog where
 tt:=aDz Tryz.prog
 ft:=G7 fns
 htt:=fun _ _ h=>eL.of h
 hft:=fun _ _ h=>⟨aBL aFF h,UD h⟩
 mixed:=Tryz.checked.mixed
end Go.Proofs.YtghnfjfkjhbgdaaGreatDoor
namespace Go.Se
theorem fB(n:Int):IntKind.u64.wrap n=n%18446744073709551616:=by simp [IntKind.wrap,IntKind.bits,IntKind.signed]
theorem wu8(n:Int):IntKind.u8.wrap n=n%256:=by simp [IntKind.wrap,IntKind.bits,IntKind.signed]
theorem gY(n:Int):IntKind.i64.wrap n=(n+9223372036854775808)%18446744073709551616 - 9223372036854775808:=IntKind.wrap_i64 n
theorem iV(a:Int){b:Int}(h:0<=b):a.fdiv b=a/b:=Int.fdiv_eq_ediv_of_nonneg a h
theorem Br.of{c:Bool}{A B:Prop}(t:c=true->A)(f:c=false->B):Br c A B:=Br.mk t f
theorem HO(a:Int)(ha:0<=a)(ha':a<=18446744073709551615):(((BitVec.ofInt 64 a&&&BitVec.ofInt 64 4294967295).toNat:Nat):Int)=a%4294967296:=by
 have h:(BitVec.ofInt 64 4294967295)=BitVec.ofNat 64 (2^32 - 1):=by decide
 obtain ⟨n,rfl⟩:=Int.eq_ofNat_of_zero_le ha
 have hn:n<2^64:=by omega
 rw [h,BitVec.toNat_and]
 have h1:(BitVec.ofInt 64 (n:Int)).toNat=n:=by
  simp
  omega
 have h2:(BitVec.ofNat 64 (2^32 - 1)).toNat=2^32 - 1:=by decide
 rw [h1,h2,Nat.and_two_pow_sub_one_eq_mod]
 omega
def wv(hi lo:Int):Int:=hi*18446744073709551616+lo
def gE(x:Int):SV:= .agg [.int .i64 (x/18446744073709551616),.int .u64 (x%18446744073709551616)]
def fN(x:Int):Bool:=decide (-170141183460469231731687303715884105728<=x)&&decide (x<170141183460469231731687303715884105728)
def mJ(x y:Int):Int:=bif decide (x<y) then -1 else bif decide (y<x) then 1 else 0
def bG(x:Int):Int:=bif decide (x<0) then -x else x
def aAH :List SV->List (Option SB)->Out
 | [.int .u64 a,.int .u64 b],[]=>some (.tup [.int .u64 (a*b/18446744073709551616),.int .u64 (a*b%18446744073709551616)],[],[])
 |_,_=>none
def cOf :List SV->List (Option SB)->Out
 | [.int .i64 a],[]=>some (gE a,[],[])
 |_,_=>none
def VV :List SV->List (Option SB)->Out
 | [.int .i64 a,.int .i64 b],[]=>some (gE (a*b),[],[])
 |_,_=>none
def SF :List SV->List (Option SB)->Out
 | [.agg [.int .i64 a,.int .u64 b],.agg [.int .i64 c,.int .u64 d]],[]=>
  some (.tup [gE (bif fN (wv a b+wv c d) then wv a b+wv c d else 0),.bool (fN (wv a b+wv c d))],[],[])
 |_,_=>none
def SJ :List SV->List (Option SB)->Out
 | [.agg [.int .i64 a,.int .u64 b]],[]=>some (.tup [gE (bif fN (-wv a b) then -wv a b else 0),.bool (fN (-wv a b))],[],[])
 |_,_=>none
def aF7 :List SV->List (Option SB)->Out
 | [.agg [.int .i64 a,.int .u64 b],.agg [.int .i64 c,.int .u64 d]],[]=>some (.int .i64 (mJ (wv a b) (wv c d)),[],[])
 |_,_=>none
def ZA :List SV->List (Option SB)->Out
 | [.agg [.int .i64 a,.int .u64 b]],[]=>
  some (.tup [.agg [.int .u64 (bG (wv a b)/18446744073709551616),.int .u64 (bG (wv a b)%18446744073709551616)],.bool (decide (wv a b<0))],[],[])
 |_,_=>none
def YH :List SV->List (Option SB)->Out
 | [.agg [.int .u64 a,.int .u64 b],.agg [.int .u64 c,.int .u64 d]],[]=>some (.bool (decide (wv a b<wv c d)),[],[])
 |_,_=>none
def oV(k:IntKind):List SV->List (Option SB)->Out
 | [.int j a,.int l b],[]=>bif decide (j=k)&&decide (l=k) then some (.int .i64 (mJ a b),[],[]) else none
 |_,_=>none
theorem nO{hi lo x:Int}(h:hi*18446744073709551616+lo=x)(h0:0<=lo)(h1:lo<18446744073709551616):
  (SV.agg [.int .i64 hi,.int .u64 lo])=gE x:=by
 unfold gE
 rw [show hi=x/18446744073709551616 by omega,show lo=x%18446744073709551616 by omega]
theorem qA(x:Int):wv (x/18446744073709551616) (x%18446744073709551616)=x:=by unfold wv;omega
theorem aE5 {a b:Int} (ha:0<=a) (ha':a<=18446744073709551615) (hb:0<=b) (hb':b<=18446744073709551615)
  {p q r s:Int} (hp:p=a/4294967296*(b/4294967296)) (hq:q=a/4294967296*(b%4294967296)) (hr:r=a%4294967296*(b/4294967296)) (hs:s=a%4294967296*(b%4294967296)):
  a*b=p*18446744073709551616+(q+r)*4294967296+s/\0<=p/\p<=4294967295*4294967295/\0<=q/\q<=4294967295*4294967295/\0<=r/\r<=4294967295*4294967295/\0<=s/\s<=4294967295*4294967295:=by
 have hA:a=a/4294967296*4294967296+a%4294967296:=by omega
 have hB:b=b/4294967296*4294967296+b%4294967296:=by omega
 have hx:0<=a/4294967296/\a/4294967296<=4294967295:=by omega
 have hy:0<=a%4294967296/\a%4294967296<=4294967295:=by omega
 have hz:0<=b/4294967296/\b/4294967296<=4294967295:=by omega
 have ht:0<=b%4294967296/\b%4294967296<=4294967295:=by omega
 generalize a/4294967296=x at*
 generalize a%4294967296=y at*
 generalize b/4294967296=z at*
 generalize b%4294967296=t at*
 refine ⟨?_, ?_⟩
 ·rw [hA,hB,hp,hq,hr,hs]
  grind
 ·subst hp;subst hq;subst hr;subst hs
  exact ⟨Int.mul_nonneg hx.1 hz.1,Int.mul_le_mul hx.2 hz.2 hz.1 (by omega),Int.mul_nonneg hx.1 ht.1,Int.mul_le_mul hx.2 ht.2 ht.1 (by omega),
   Int.mul_nonneg hy.1 hz.1,Int.mul_le_mul hy.2 hz.2 hz.1 (by omega),Int.mul_nonneg hy.1 ht.1,Int.mul_le_mul hy.2 ht.2 ht.1 (by omega)⟩
theorem R3{a b:Int}(ha: -9223372036854775808<=a)(ha':a<=9223372036854775807)(hb: -9223372036854775808<=b)(hb':b<=9223372036854775807):
  -85070591730234615865843651857942052864<=a*b/\a*b<=85070591730234615865843651857942052864:=by
 have h:(a*b).natAbs<=9223372036854775808*9223372036854775808:=by
  rw [Int.natAbs_mul]
  exact Nat.mul_le_mul (by omega) (by omega)
 omega
end Go.Se
namespace Go.Proofs.YtghnfjfkjhbgdaaGreatDoor
open Go.Se
noncomputable def k0 :bT Tryz.prog:=((bT.none Tryz.prog).add 207 XQ (UO Tryz.func207 (by kernel_rfl) (by kernel_rfl) (by kernel_rfl) (by kernel_rfl))).add 208 YG (VQ Tryz.func208 (by kernel_rfl) (by kernel_rfl) (by kernel_rfl) (by kernel_rfl))
end Go.Proofs.YtghnfjfkjhbgdaaGreatDoor
namespace Go.Proofs.YtghnfjfkjhbgdaaGreatDoor
open Go.Se
set_option maxRecDepth 100000
noncomputable abbrev run(B:bT Tryz.prog)(n:Nat)(k:FuncId)(xs:List SV)(σ:List (Option SB))(K:KC):Prop:=
 calls (tab.env B (fun _=>0) (fun _=>false)) (aB []) B.dom n k xs σ K
theorem aV (B:bT Tryz.prog) (n:Nat) {k:FuncId} {xs:List SV} {σ:List (Option SB)} {v:SV} {σ':List (Option SB)} {d:List Nat}
  (h:okL xs->okS σ-> ∀K:KC,K v σ' d->run B n k xs σ K):aD Tryz.prog k xs σ v σ' d:=qY (R:=[]) tab B fun h1 h2=>h h1 h2 _ ⟨rfl,rfl,rfl⟩
noncomputable abbrev n9(u:Nat)(B:bT Tryz.prog)(n:Nat)(k:FuncId)(xs:List SV)(σ:List (Option SB))(K:KC):Prop:=
 calls (tab.env B (fun _=>u) (fun _=>false)) (aB []) B.dom n k xs σ K
theorem jU (u:Nat) (B:bT Tryz.prog) (n:Nat) {k:FuncId} {xs:List SV} {σ:List (Option SB)} {v:SV} {σ':List (Option SB)} {d:List Nat}
  (h:okL xs->okS σ-> ∀K:KC,K v σ' d->n9 u B n k xs σ K):aD Tryz.prog k xs σ v σ' d:=qY (R:=[]) tab B fun h1 h2=>h h1 h2 _ ⟨rfl,rfl,rfl⟩
theorem fin{K:KC}{v v':SV}{σ:List (Option SB)}{d:List Nat}(h:K v σ d)(e:v'=v):K v' σ d:=e▸h
def m32(x:Int):Int:=IntKind.u64.wrap ↑(BitVec.ofInt IntKind.u64.bits x&&&BitVec.ofInt IntKind.u64.bits 4294967295).toNat
def WR(a b:Int):Int:=IntKind.u64.wrap (IntKind.u64.wrap (a.fdiv 4294967296*m32 b)+(IntKind.u64.wrap (m32 a*m32 b)).fdiv 4294967296)
def ZL(a b:Int):Int:=IntKind.u64.wrap (IntKind.u64.wrap (IntKind.u64.wrap (a.fdiv 4294967296*b.fdiv 4294967296)+(WR a b).fdiv 4294967296)+(IntKind.u64.wrap (m32 (WR a b)+IntKind.u64.wrap (m32 a*b.fdiv 4294967296))).fdiv 4294967296)
theorem X3{a b:Int}(ha:0<=a)(ha':a<=18446744073709551615)(hb:0<=b)(hb':b<=18446744073709551615):ZL a b=a*b/18446744073709551616:=by
 have hm: ∀x:Int,0<=x->x<=18446744073709551615->m32 x=x%4294967296:=fun x h h'=>by
  unfold m32;rw [fB];show (((BitVec.ofInt 64 x&&&BitVec.ofInt 64 4294967295).toNat:Nat):Int)%_=_
  rw [HO x h h'];omega
 obtain ⟨h0,h1,h2,h3,h4,h5,h6,h7,h8⟩:=aE5 ha ha' hb hb' rfl rfl rfl rfl
 have hf: ∀x:Int,x.fdiv 4294967296=x/4294967296:=fun x=>iV x (by decide)
 have hT:WR a b=a/4294967296*(b%4294967296)+(a%4294967296*(b%4294967296))/4294967296:=by
  unfold WR
  rw [hm a ha ha',hm b hb hb']
  simp only [fB,hf]
  omega
 unfold ZL
 rw [hm a ha ha',hm (WR a b) (by rw [hT];omega) (by rw [hT];omega)]
 simp only [fB,hf]
 rw [hT]
 generalize a/4294967296*(b/4294967296)=p at*
 generalize a/4294967296*(b%4294967296)=q at*
 generalize a%4294967296*(b/4294967296)=r at*
 generalize a%4294967296*(b%4294967296)=s at*
 omega
theorem gO(a b:Int):aD Tryz.prog 194 [.int .u64 a,.int .u64 b] [] (.tup [.int .u64 (a*b/18446744073709551616),.int .u64 (a*b%18446744073709551616)]) [] []:=
 aV k0 2 fun ⟨ha,hb,_⟩ _ K hK=>by
  have e: ∀K,run k0 2 194 [.int .u64 a,.int .u64 b] [] K=K (.tup [.int .u64 (ZL a b),.int .u64 (IntKind.u64.wrap (a*b))]) [] []:=fun K=>by kernel_rfl
  rw [e,X3 ha.1 ha.2 hb.1 hb.2,fB]
  exact hK
theorem rC(a:Int):aD Tryz.prog 170 [.int .i64 a] [] (gE a) [] []:=
 aV k0 2 fun ⟨ha,_⟩ _ K hK=>by
  have e: ∀K,run k0 2 170 [.int .i64 a] [] K=K (.agg [.int .i64 (a.fdiv 9223372036854775808),.int .u64 (IntKind.u64.wrap a)]) [] []:=fun K=>by kernel_rfl
  have ha': -9223372036854775808<=a/\a<=9223372036854775807:=ha
  rw [e,fB,iV _ (by decide)]
  exact fin hK (nO (by omega) (by omega) (by omega))
end Go.Proofs.YtghnfjfkjhbgdaaGreatDoor
namespace Go.Proofs.YtghnfjfkjhbgdaaGreatDoor
open Go.Se
set_option maxRecDepth 100000
noncomputable def k1 :bT Tryz.prog:=((k0).add 194 (one aAH) (bD fun xs σ v σ' d h=>by
  unfold aAH at h;split at h<;>cases h;first|exact gO|exact gO _|exact gO _ _|exact gO _ _ _|exact gO _ _ _ _|exact gO _ _ _ _ _|exact gO _ _ _ _ _ _|exact gO _ _ _ _ _ _ _|exact gO _ _ _ _ _ _ _ _|exact gO _ _ _ _ _ _ _ _ _|exact gO _ _ _ _ _ _ _ _ _ _|exact gO _ _ _ _ _ _ _ _ _ _ _)).add 170 (one cOf) (bD fun xs σ v σ' d h=>by
  unfold cOf at h;split at h<;>cases h;first|exact rC|exact rC _|exact rC _ _|exact rC _ _ _|exact rC _ _ _ _|exact rC _ _ _ _ _|exact rC _ _ _ _ _ _|exact rC _ _ _ _ _ _ _|exact rC _ _ _ _ _ _ _ _|exact rC _ _ _ _ _ _ _ _ _|exact rC _ _ _ _ _ _ _ _ _ _|exact rC _ _ _ _ _ _ _ _ _ _ _)
theorem cO(a b:Int):aD Tryz.prog 151 [.int .i64 a,.int .i64 b] [] (gE (a*b)) [] []:=
 aV k1 2 fun ⟨ha,hb,_⟩ _ K hK=>by
  have ha': -9223372036854775808<=a/\a<=9223372036854775807:=ha
  have hb': -9223372036854775808<=b/\b<=9223372036854775807:=hb
  have e: ∀K,run k1 2 151 [.int .i64 a,.int .i64 b] [] K=
   Br (decide (a<0))
    (Br (decide (b<0))
     (K (.agg [.int .i64 (IntKind.i64.wrap (IntKind.u64.wrap (IntKind.u64.wrap (IntKind.u64.wrap a*IntKind.u64.wrap b/18446744073709551616 - IntKind.u64.wrap b) - IntKind.u64.wrap a))),.int .u64 (IntKind.u64.wrap a*IntKind.u64.wrap b%18446744073709551616)]) [] [])
     (K (.agg [.int .i64 (IntKind.i64.wrap (IntKind.u64.wrap (IntKind.u64.wrap a*IntKind.u64.wrap b/18446744073709551616 - IntKind.u64.wrap b))),.int .u64 (IntKind.u64.wrap a*IntKind.u64.wrap b%18446744073709551616)]) [] []))
    (Br (decide (b<0))
     (K (.agg [.int .i64 (IntKind.i64.wrap (IntKind.u64.wrap (IntKind.u64.wrap a*IntKind.u64.wrap b/18446744073709551616 - IntKind.u64.wrap a))),.int .u64 (IntKind.u64.wrap a*IntKind.u64.wrap b%18446744073709551616)]) [] [])
     (K (.agg [.int .i64 (IntKind.i64.wrap (IntKind.u64.wrap a*IntKind.u64.wrap b/18446744073709551616)),.int .u64 (IntKind.u64.wrap a*IntKind.u64.wrap b%18446744073709551616)]) [] [])):=fun K=>by kernel_rfl
  rw [e]
  simp only [fB,gY]
  have hp1:(a+18446744073709551616)*(b+18446744073709551616)=a*b+(a+b)*18446744073709551616+340282366920938463463374607431768211456:=by grind
  have hp2:(a+18446744073709551616)*b=a*b+b*18446744073709551616:=by grind
  have hp3:a*(b+18446744073709551616)=a*b+a*18446744073709551616:=by grind
  have hr: -85070591730234615865843651857942052864<=a*b/\a*b<=85070591730234615865843651857942052864:=R3 ha'.1 ha'.2 hb'.1 hb'.2
  have hn: ∀x:Int,-9223372036854775808<=x->x<=9223372036854775807->x<0->x%18446744073709551616=x+18446744073709551616:=fun x _ _ _=>by omega
  have hq: ∀x:Int,-9223372036854775808<=x->x<=9223372036854775807-> ¬x<0->x%18446744073709551616=x:=fun x _ _ _=>by omega
  refine Br.of (fun h1=>Br.of (fun h2=> ?_) fun h2=> ?_) fun h1=>Br.of (fun h2=> ?_) fun h2=> ?_
  ·have h1':=of_decide_eq_true h1
   have h2':=of_decide_eq_true h2
   rw [hn a ha'.1 ha'.2 h1',hn b hb'.1 hb'.2 h2',hp1]
   exact fin hK (nO (by omega) (by omega) (by omega))
  ·have h1':=of_decide_eq_true h1
   have h2':=of_decide_eq_false h2
   rw [hn a ha'.1 ha'.2 h1',hq b hb'.1 hb'.2 h2',hp2]
   exact fin hK (nO (by omega) (by omega) (by omega))
  ·have h1':=of_decide_eq_false h1
   have h2':=of_decide_eq_true h2
   rw [hq a ha'.1 ha'.2 h1',hn b hb'.1 hb'.2 h2',hp3]
   exact fin hK (nO (by omega) (by omega) (by omega))
  ·have h1':=of_decide_eq_false h1
   have h2':=of_decide_eq_false h2
   rw [hq a ha'.1 ha'.2 h1',hq b hb'.1 hb'.2 h2']
   exact fin hK (nO (by omega) (by omega) (by omega))
theorem cN(a b c d:Int):aD Tryz.prog 169 [.agg [.int .i64 a,.int .u64 b],.agg [.int .i64 c,.int .u64 d]] []
  (.tup [gE (bif fN (wv a b+wv c d) then wv a b+wv c d else 0),.bool (fN (wv a b+wv c d))]) [] []:=
 aV k1 2 fun ⟨⟨ha,hb,_⟩,⟨hc,hd,_⟩,_⟩ _ K hK=>by
  have ha': -9223372036854775808<=a/\a<=9223372036854775807:=ha
  have hb':0<=b/\b<=18446744073709551615:=hb
  have hc': -9223372036854775808<=c/\c<=9223372036854775807:=hc
  have hd':0<=d/\d<=18446744073709551615:=hd
  have e: ∀K,run k1 2 169 [.agg [.int .i64 a,.int .u64 b],.agg [.int .i64 c,.int .u64 d]] [] K=
   If (decide (0<=(b+d+0)/18446744073709551616)&&decide ((b+d+0)/18446744073709551616<=1))
    (Br (decide (a<0)==decide (c<0))
     (Br (!(decide (IntKind.i64.wrap ((IntKind.u64.wrap a+IntKind.u64.wrap c+(b+d+0)/18446744073709551616)%18446744073709551616)<0)==decide (a<0)))
      (K (.tup [.agg [.int .i64 0,.int .u64 0],.bool false]) [] [])
      (K (.tup [.agg [.int .i64 (IntKind.i64.wrap ((IntKind.u64.wrap a+IntKind.u64.wrap c+(b+d+0)/18446744073709551616)%18446744073709551616)),.int .u64 ((b+d+0)%18446744073709551616)],.bool true]) [] []))
     (K (.tup [.agg [.int .i64 (IntKind.i64.wrap ((IntKind.u64.wrap a+IntKind.u64.wrap c+(b+d+0)/18446744073709551616)%18446744073709551616)),.int .u64 ((b+d+0)%18446744073709551616)],.bool true]) [] [])):=fun K=>by kernel_rfl
  rw [e]
  have hcar:(decide (0<=(b+d+0)/18446744073709551616)&&decide ((b+d+0)/18446744073709551616<=1))=true:=by
   simp only [Bool.and_eq_true,decide_eq_true_eq];omega
  refine If.mk hcar ?_
  simp only [fB,gY]
  have hin:fN (wv a b+wv c d)=true↔ -170141183460469231731687303715884105728<=wv a b+wv c d/\wv a b+wv c d<170141183460469231731687303715884105728:=by
   unfold fN;simp only [Bool.and_eq_true,decide_eq_true_eq]
  unfold wv at*
  refine Br.of (fun h1=>Br.of (fun h2=> ?_) fun h2=> ?_) fun h1=> ?_
  ·have hno:fN (a*18446744073709551616+b+(c*18446744073709551616+d))=false:=by
    cases hh:fN (a*18446744073709551616+b+(c*18446744073709551616+d)) with
    |false=>rfl
    |true=>
     exfalso
     have h3:=hin.1 hh
     simp only [beq_iff_eq,decide_eq_decide] at h1
     simp only [Bool.not_eq_true',beq_eq_false_iff_ne,ne_eq,decide_eq_decide] at h2
     omega
   rw [hno] at hK
   exact hK
  ·have hyes:fN (a*18446744073709551616+b+(c*18446744073709551616+d))=true:=by
    refine hin.2 ?_
    simp only [beq_iff_eq,decide_eq_decide] at h1
    simp only [Bool.not_eq_false',beq_iff_eq,decide_eq_decide] at h2
    omega
   have h3:=hin.1 hyes
   rw [hyes] at hK
   refine fin hK ?_
   rw [nO (x:=a*18446744073709551616+b+(c*18446744073709551616+d)) (by omega) (by omega) (by omega)];rfl
  ·have hyes:fN (a*18446744073709551616+b+(c*18446744073709551616+d))=true:=by
    refine hin.2 ?_
    simp only [beq_eq_false_iff_ne,ne_eq,decide_eq_decide] at h1
    omega
   have h3:=hin.1 hyes
   rw [hyes] at hK
   refine fin hK ?_
   rw [nO (x:=a*18446744073709551616+b+(c*18446744073709551616+d)) (by omega) (by omega) (by omega)];rfl
end Go.Proofs.YtghnfjfkjhbgdaaGreatDoor
namespace Go.Proofs.YtghnfjfkjhbgdaaGreatDoor
open Go.Se
set_option maxRecDepth 100000
theorem cL(a b:Int):aD Tryz.prog 171 [.agg [.int .i64 a,.int .u64 b]] []
  (.tup [gE (bif fN (-wv a b) then -wv a b else 0),.bool (fN (-wv a b))]) [] []:=
 aV k1 2 fun ⟨⟨ha,hb,_⟩,_⟩ _ K hK=>by
  have ha': -9223372036854775808<=a/\a<=9223372036854775807:=ha
  have hb':0<=b/\b<=18446744073709551615:=hb
  have e: ∀K,run k1 2 171 [.agg [.int .i64 a,.int .u64 b]] [] K=
   If (decide ((0:Int)<=bif decide (0<b+0) then 1 else 0)&&decide ((bif decide (0<b+0) then 1 else 0)<=(1:Int)))
    (Br (decide (a<0))
     (Br (decide (IntKind.i64.wrap ((0 - IntKind.u64.wrap a - bif decide (0<b+0) then 1 else 0)%18446744073709551616)<0))
      (K (.tup [.agg [.int .i64 0,.int .u64 0],.bool false]) [] [])
      (K (.tup [.agg [.int .i64 (IntKind.i64.wrap ((0 - IntKind.u64.wrap a - bif decide (0<b+0) then 1 else 0)%18446744073709551616)),.int .u64 ((0 - b - 0)%18446744073709551616)],.bool true]) [] []))
     (K (.tup [.agg [.int .i64 (IntKind.i64.wrap ((0 - IntKind.u64.wrap a - bif decide (0<b+0) then 1 else 0)%18446744073709551616)),.int .u64 ((0 - b - 0)%18446744073709551616)],.bool true]) [] [])):=fun K=>by kernel_rfl
  rw [e]
  simp only [fB,gY]
  have hin:fN (-wv a b)=true↔ -170141183460469231731687303715884105728<=  -wv a b/\  -wv a b<170141183460469231731687303715884105728:=by
   unfold fN;simp only [Bool.and_eq_true,decide_eq_true_eq]
  unfold wv at*
  obtain ⟨c,hc,hcb⟩: ∃c:Int,(bif decide (0<b+0) then 1 else 0)=c/\((b=0/\c=0)\/(0<b/\c=1)):=by
   by_cases h:0<b+0
   ·exact ⟨1,by rw [decide_eq_true h];rfl,.inr ⟨by omega,rfl⟩⟩
   ·exact ⟨0,by rw [decide_eq_false h];rfl,.inl ⟨by omega,rfl⟩⟩
  rw [hc]
  refine If.mk (by simp only [Bool.and_eq_true,decide_eq_true_eq];omega) ?_
  have hfin:fN (-(a*18446744073709551616+b))=true->K (.tup [.agg [.int .i64 (((0 - a%18446744073709551616 - c)%18446744073709551616+9223372036854775808)%18446744073709551616 - 9223372036854775808),.int .u64 ((0 - b - 0)%18446744073709551616)],.bool true]) [] []:=by
   intro hyes
   have h3:=hin.1 hyes
   rw [hyes] at hK
   refine fin hK ?_
   rw [nO (x:= -(a*18446744073709551616+b)) (by omega) (by omega) (by omega)];rfl
  refine Br.of (fun h1=>Br.of (fun h2=> ?_) fun h2=> ?_) fun h1=> ?_
  ·have hno:fN (-(a*18446744073709551616+b))=false:=by
    cases hh:fN (-(a*18446744073709551616+b)) with
    |false=>rfl
    |true=>
     exfalso
     have h3:=hin.1 hh
     simp only [decide_eq_true_eq] at h1 h2
     omega
   rw [hno] at hK
   exact hK
  ·simp only [decide_eq_true_eq,decide_eq_false_iff_not] at h1 h2
   exact hfin (hin.2 (by omega))
  ·simp only [decide_eq_false_iff_not] at h1
   exact hfin (hin.2 (by omega))
theorem gR(a b:Int):aD Tryz.prog 192 [.agg [.int .i64 a,.int .u64 b]] []
  (.tup [.agg [.int .u64 (bG (wv a b)/18446744073709551616),.int .u64 (bG (wv a b)%18446744073709551616)],.bool (decide (wv a b<0))]) [] []:=
 aV k1 2 fun ⟨⟨ha,hb,_⟩,_⟩ _ K hK=>by
  have ha': -9223372036854775808<=a/\a<=9223372036854775807:=ha
  have hb':0<=b/\b<=18446744073709551615:=hb
  have e: ∀K,run k1 2 192 [.agg [.int .i64 a,.int .u64 b]] [] K=
   Br (decide (a>=0))
    (K (.tup [.agg [.int .u64 (IntKind.u64.wrap a),.int .u64 b],.bool false]) [] [])
    (If (decide ((0:Int)<=bif decide (0<b+0) then 1 else 0)&&decide ((bif decide (0<b+0) then 1 else 0)<=(1:Int)))
     (K (.tup [.agg [.int .u64 ((0 - IntKind.u64.wrap a - bif decide (0<b+0) then 1 else 0)%18446744073709551616),.int .u64 ((0 - b - 0)%18446744073709551616)],.bool true]) [] [])):=fun K=>by kernel_rfl
  rw [e]
  simp only [fB]
  obtain ⟨c,hc,hcb⟩: ∃c:Int,(bif decide (0<b+0) then 1 else 0)=c/\((b=0/\c=0)\/(0<b/\c=1)):=by
   by_cases h:0<b+0
   ·exact ⟨1,by rw [decide_eq_true h];rfl,.inr ⟨by omega,rfl⟩⟩
   ·exact ⟨0,by rw [decide_eq_false h];rfl,.inl ⟨by omega,rfl⟩⟩
  rw [hc]
  refine Br.of (fun h1=> ?_) fun h1=>If.mk (by simp only [Bool.and_eq_true,decide_eq_true_eq];omega) ?_
  ·simp only [decide_eq_true_eq] at h1
   have hn:decide (wv a b<0)=false:=decide_eq_false (by unfold wv;omega)
   unfold bG at hK
   rw [hn] at hK
   simp only [cond_false] at hK
   unfold wv at hK
   refine fin hK ?_
   rw [show a%18446744073709551616=(a*18446744073709551616+b)/18446744073709551616 by omega,show b=(a*18446744073709551616+b)%18446744073709551616 by omega]
   congr 6<;>omega
  ·simp only [decide_eq_false_iff_not] at h1
   have hn:decide (wv a b<0)=true:=decide_eq_true (by unfold wv;omega)
   unfold bG at hK
   rw [hn] at hK
   simp only [cond_true] at hK
   unfold wv at hK
   refine fin hK ?_
   rw [show (0 - a%18446744073709551616 - c)%18446744073709551616=(-(a*18446744073709551616+b))/18446744073709551616 by omega,show (0 - b - 0)%18446744073709551616=(-(a*18446744073709551616+b))%18446744073709551616 by omega]
theorem gL(a b c d:Int):aD Tryz.prog 217 [.agg [.int .u64 a,.int .u64 b],.agg [.int .u64 c,.int .u64 d]] []
  (.bool (decide (wv a b<wv c d))) [] []:=
 aV k1 2 fun ⟨⟨ha,hb,_⟩,⟨hc,hd,_⟩,_⟩ _ K hK=>by
  have ha':0<=a/\a<=18446744073709551615:=ha
  have hb':0<=b/\b<=18446744073709551615:=hb
  have hc':0<=c/\c<=18446744073709551615:=hc
  have hd':0<=d/\d<=18446744073709551615:=hd
  have e: ∀K,run k1 2 217 [.agg [.int .u64 a,.int .u64 b],.agg [.int .u64 c,.int .u64 d]] [] K=
   Br (decide (a<c)) (K (.bool true) [] []) (Br (a==c) (K (.bool (decide (b<d))) [] []) (K (.bool false) [] [])):=fun K=>by kernel_rfl
  rw [e]
  unfold wv at hK
  refine Br.of (fun h1=> ?_) fun h1=>Br.of (fun h2=> ?_) fun h2=> ?_<;>simp only [decide_eq_true_eq,decide_eq_false_iff_not,beq_iff_eq,beq_eq_false_iff_ne,ne_eq] at h1<;>(try simp only [beq_iff_eq,beq_eq_false_iff_ne,ne_eq] at h2)<;>refine fin hK (congrArg SV.bool ?_)
  ·exact (decide_eq_true (by omega)).symm
  ·exact decide_eq_decide.2 (by omega)
  ·exact (decide_eq_false (by omega)).symm
theorem I5(a b:Int):aD Tryz.prog 216 [.int .i64 a,.int .i64 b] [] (.int .i64 (mJ a b)) [] []:=
 aV k1 3 fun _ _ K hK=>by
  have e: ∀K,run k1 3 216 [.int .i64 a,.int .i64 b] [] K=
   Br (a !=a) (Br (b !=b) (K (.int .i64 0) [] []) (K (.int .i64 (-1)) [] [])) (Br (b !=b) (K (.int .i64 1) [] [])
    (Br (decide (a<b)) (K (.int .i64 (-1)) [] []) (Br (decide (a>b)) (K (.int .i64 1) [] []) (K (.int .i64 0) [] [])))):=fun K=>by kernel_rfl
  rw [e]
  unfold mJ at hK
  refine Br.of (fun h=>by simp at h) fun _=>Br.of (fun h=>by simp at h) fun _=>Br.of (fun h=> ?_) fun h=>Br.of (fun h2=> ?_) fun h2=> ?_
  ·rw [h] at hK;exact hK
  ·rw [h,show decide (b<a)=true from h2] at hK;exact hK
  ·rw [h,show decide (b<a)=false from h2] at hK;exact hK
theorem JW(a b:Int):aD Tryz.prog 219 [.int .u64 a,.int .u64 b] [] (.int .i64 (mJ a b)) [] []:=
 aV k1 3 fun _ _ K hK=>by
  have e: ∀K,run k1 3 219 [.int .u64 a,.int .u64 b] [] K=
   Br (a !=a) (Br (b !=b) (K (.int .i64 0) [] []) (K (.int .i64 (-1)) [] [])) (Br (b !=b) (K (.int .i64 1) [] [])
    (Br (decide (a<b)) (K (.int .i64 (-1)) [] []) (Br (decide (a>b)) (K (.int .i64 1) [] []) (K (.int .i64 0) [] [])))):=fun K=>by kernel_rfl
  rw [e]
  unfold mJ at hK
  refine Br.of (fun h=>by simp at h) fun _=>Br.of (fun h=>by simp at h) fun _=>Br.of (fun h=> ?_) fun h=>Br.of (fun h2=> ?_) fun h2=> ?_
  ·rw [h] at hK;exact hK
  ·rw [h,show decide (b<a)=true from h2] at hK;exact hK
  ·rw [h,show decide (b<a)=false from h2] at hK;exact hK
theorem G2(xs:List SV)(σ:List (Option SB)):Sat Tryz.prog 216 xs σ (one (oV .i64) xs σ):=
 bD (fun xs σ v σ' d h=>by
  unfold oV at h;split at h
  ·rename_i j a l b
   cases hj:decide (j= .i64)<;>cases hl:decide (l= .i64)<;>rw [hj,hl] at h<;>simp at h
   obtain ⟨rfl,rfl,rfl⟩:=h
   rw [of_decide_eq_true hj,of_decide_eq_true hl];exact I5 _ _
  ·cases h) xs σ
theorem HI(xs:List SV)(σ:List (Option SB)):Sat Tryz.prog 219 xs σ (one (oV .u64) xs σ):=
 bD (fun xs σ v σ' d h=>by
  unfold oV at h;split at h
  ·rename_i j a l b
   cases hj:decide (j= .u64)<;>cases hl:decide (l= .u64)<;>rw [hj,hl] at h<;>simp at h
   obtain ⟨rfl,rfl,rfl⟩:=h
   rw [of_decide_eq_true hj,of_decide_eq_true hl];exact JW _ _
  ·cases h) xs σ
noncomputable def k2 :bT Tryz.prog:=((k1).add 216 (one (oV .i64)) G2).add 219 (one (oV .u64)) HI
end Go.Proofs.YtghnfjfkjhbgdaaGreatDoor
namespace Go.Proofs.YtghnfjfkjhbgdaaGreatDoor
open Go.Se
set_option maxRecDepth 100000
def cOr :List SV->List (Option SB)->Out
 | [.arr 0 0 2 2],[some (.cells t [.int .i64 a,.int .i64 b])]=>some (.int .i64 (bif a !=0 then a else b),[some (.cells t [.int .i64 a,.int .i64 b])],[])
 |_,_=>none
theorem rB(t:TypeId)(a b:Int):aD Tryz.prog 218 [.arr 0 0 2 2] [some (.cells t [.int .i64 a,.int .i64 b])] (.int .i64 (bif a !=0 then a else b)) [some (.cells t [.int .i64 a,.int .i64 b])] []:=
 jU 3 k2 2 fun _ _ K hK=>by
  have e: ∀K,n9 3 k2 2 218 [.arr 0 0 2 2] [some (.cells t [.int .i64 a,.int .i64 b])] K=
   Br (a !=0) (K (.int .i64 a) [some (.cells t [.int .i64 a,.int .i64 b])] [])
    (Br (b !=0) (K (.int .i64 b) [some (.cells t [.int .i64 a,.int .i64 b])] []) (K (.int .i64 0) [some (.cells t [.int .i64 a,.int .i64 b])] [])):=fun K=>by kernel_rfl
  rw [e]
  refine Br.of (fun h=> ?_) fun h=>Br.of (fun h2=> ?_) fun h2=> ?_<;>rw [h] at hK
  ·exact hK
  ·exact hK
  ·have:b=0:=by simpa using h2
   subst this;exact hK
noncomputable def k3 :bT Tryz.prog:=((((((k2).add 218 (one cOr) (bD fun xs σ v σ' d h=>by
  unfold cOr at h;split at h<;>cases h;first|exact rB|exact rB _|exact rB _ _|exact rB _ _ _|exact rB _ _ _ _|exact rB _ _ _ _ _|exact rB _ _ _ _ _ _|exact rB _ _ _ _ _ _ _|exact rB _ _ _ _ _ _ _ _|exact rB _ _ _ _ _ _ _ _ _|exact rB _ _ _ _ _ _ _ _ _ _|exact rB _ _ _ _ _ _ _ _ _ _ _)).add 151 (one VV) (bD fun xs σ v σ' d h=>by
  unfold VV at h;split at h<;>cases h;first|exact cO|exact cO _|exact cO _ _|exact cO _ _ _|exact cO _ _ _ _|exact cO _ _ _ _ _|exact cO _ _ _ _ _ _|exact cO _ _ _ _ _ _ _|exact cO _ _ _ _ _ _ _ _|exact cO _ _ _ _ _ _ _ _ _|exact cO _ _ _ _ _ _ _ _ _ _|exact cO _ _ _ _ _ _ _ _ _ _ _)).add 169 (one SF) (bD fun xs σ v σ' d h=>by
  unfold SF at h;split at h<;>cases h;first|exact cN|exact cN _|exact cN _ _|exact cN _ _ _|exact cN _ _ _ _|exact cN _ _ _ _ _|exact cN _ _ _ _ _ _|exact cN _ _ _ _ _ _ _|exact cN _ _ _ _ _ _ _ _|exact cN _ _ _ _ _ _ _ _ _|exact cN _ _ _ _ _ _ _ _ _ _|exact cN _ _ _ _ _ _ _ _ _ _ _)).add 171 (one SJ) (bD fun xs σ v σ' d h=>by
  unfold SJ at h;split at h<;>cases h;first|exact cL|exact cL _|exact cL _ _|exact cL _ _ _|exact cL _ _ _ _|exact cL _ _ _ _ _|exact cL _ _ _ _ _ _|exact cL _ _ _ _ _ _ _|exact cL _ _ _ _ _ _ _ _|exact cL _ _ _ _ _ _ _ _ _|exact cL _ _ _ _ _ _ _ _ _ _|exact cL _ _ _ _ _ _ _ _ _ _ _)).add 192 (one ZA) (bD fun xs σ v σ' d h=>by
  unfold ZA at h;split at h<;>cases h;first|exact gR|exact gR _|exact gR _ _|exact gR _ _ _|exact gR _ _ _ _|exact gR _ _ _ _ _|exact gR _ _ _ _ _ _|exact gR _ _ _ _ _ _ _|exact gR _ _ _ _ _ _ _ _|exact gR _ _ _ _ _ _ _ _ _|exact gR _ _ _ _ _ _ _ _ _ _|exact gR _ _ _ _ _ _ _ _ _ _ _)).add 217 (one YH) (bD fun xs σ v σ' d h=>by
  unfold YH at h;split at h<;>cases h;first|exact gL|exact gL _|exact gL _ _|exact gL _ _ _|exact gL _ _ _ _|exact gL _ _ _ _ _|exact gL _ _ _ _ _ _|exact gL _ _ _ _ _ _ _|exact gL _ _ _ _ _ _ _ _|exact gL _ _ _ _ _ _ _ _ _|exact gL _ _ _ _ _ _ _ _ _ _|exact gL _ _ _ _ _ _ _ _ _ _ _)
theorem lP(a b c d:Int):aD Tryz.prog 191 [.agg [.int .i64 a,.int .u64 b],.agg [.int .i64 c,.int .u64 d]] [] (.int .i64 (mJ (wv a b) (wv c d))) [] []:=
 aV k3 2 fun ⟨⟨ha,hb,_⟩,⟨hc,hd,_⟩,_⟩ _ K hK=>by
  have hb':0<=b/\b<=18446744073709551615:=hb
  have hd':0<=d/\d<=18446744073709551615:=hd
  have e: ∀K,run k3 2 191 [.agg [.int .i64 a,.int .u64 b],.agg [.int .i64 c,.int .u64 d]] [] K=
   K (.int .i64 (bif mJ a c !=0 then mJ a c else mJ b d)) [] []:=fun K=>by kernel_rfl
  rw [e]
  refine fin hK (congrArg (SV.int .i64) ?_)
  unfold mJ wv
  by_cases h1:a<c
  ·rw [decide_eq_true h1,decide_eq_true (show a*18446744073709551616+b<c*18446744073709551616+d by omega)];rfl
  ·by_cases h2:c<a
   ·rw [decide_eq_false h1,decide_eq_true h2,decide_eq_false (show¬a*18446744073709551616+b<c*18446744073709551616+d by omega),decide_eq_true (show c*18446744073709551616+d<a*18446744073709551616+b by omega)];rfl
   ·have:a=c:=by omega
    subst this
    rw [decide_eq_false h1,decide_eq_decide.2 (show a*18446744073709551616+b<a*18446744073709551616+d↔b<d by omega),decide_eq_decide.2 (show a*18446744073709551616+d<a*18446744073709551616+b↔d<b by omega)];rfl
noncomputable def k4 :bT Tryz.prog:=(k3).add 191 (one aF7) (bD fun xs σ v σ' d h=>by
  unfold aF7 at h;split at h<;>cases h;first|exact lP|exact lP _|exact lP _ _|exact lP _ _ _|exact lP _ _ _ _|exact lP _ _ _ _ _|exact lP _ _ _ _ _ _|exact lP _ _ _ _ _ _ _|exact lP _ _ _ _ _ _ _ _|exact lP _ _ _ _ _ _ _ _ _|exact lP _ _ _ _ _ _ _ _ _ _|exact lP _ _ _ _ _ _ _ _ _ _ _)
end Go.Proofs.YtghnfjfkjhbgdaaGreatDoor
namespace Go.Se
theorem pV {P:Program} {k:FuncId} {xs:List SV} {σ:List (Option SB)} {v:SV} {σ':List (Option SB)} {d d':List Nat}
  (h:aD P k xs σ v σ' d) (hd: ∀p,p∈d->p∈d') (hl: ∀p,p∈d'->p<σ.length):aD P k xs σ v σ' d':=by
 intro ρ T w vals h1 h2 h3 h4
 have conv: ∀(x:Value) (w':World),(∃ρ' T',iH ρ T w σ v σ' d ρ' T' w' x)-> ∃ρ' T',iH ρ T w σ v σ' d' ρ' T' w' x:=by
  rintro x w' ⟨ρ',T',c⟩
  exact ⟨ρ',T',{
   names:=c.names
   only:=c.only
   len:=c.len
   val:=c.val
   store:=c.store
   fresh:=fun p b hp hb=>(c.fresh p b hp hb).imp id fun ⟨q,q1,q2⟩=>⟨q,hd q q1,q2⟩
   inj:=c.inj
   dirty:=hl
   grow:=c.grow.mono fun b _ ⟨p,p1,p2⟩=>⟨p,hd p p1,p2⟩
   tback:=c.tback
   below:=c.below
   tkeep:=fun b hb ht=>(c.tkeep b hb ht).imp id fun ⟨q,q1,q2⟩=>⟨q,hd q q1,q2⟩}⟩
 rcases h ρ T w vals h1 h2 h3 h4 with ⟨fn,f1,f2,f3,hc⟩|⟨x,w',hx,hr⟩
 ·exact .inl ⟨fn,f1,f2,f3,hc.mono fun e w' ⟨x,hx,hr⟩=>⟨x,hx,conv x w' hr⟩⟩
 ·exact .inr ⟨x,w',hx,conv x w' hr⟩
theorem pK {P:Program} (A:Tab P) (B:bT P) {R:List (Nat×eR)} {unroll:Nat->Nat} {cut:Nat->Bool} {known:FuncId->Bool} {n:Nat} {k:FuncId} {xs:List SV} {σ:List (Option SB)} {v:SV} {σ':List (Option SB)} {d:List Nat}
  (hl: ∀p,p∈d->p<σ.length)
  (h:okL xs->okS σ->calls (A.env B unroll cut) (aB R) known n k xs σ fun v' σ'' d'=>v'=v/\σ''=σ'/\ ∀p,p∈d'->p∈d):aD P k xs σ v σ' d:=by
 refine mH fun h1 h2=> ?_
 obtain ⟨v',σ'',d',⟨rfl,rfl,hd⟩,hc⟩:=bX (env:=A.env B unroll cut) ⟨A.htt,B.ok⟩ A.mixed (fun n=>bC n R) A.hft n k xs σ _ (h h1 h2)
 exact pV hc hd hl
theorem aBJ{x:Int}(hx:0<=x)(hx':x<18446744073709551616):(((BitVec.ofInt 64 x&&&BitVec.ofInt 64 1).toNat:Nat):Int)=x%2:=by
 obtain ⟨a,rfl⟩:=Int.eq_ofNat_of_zero_le hx
 have e1:(BitVec.ofInt 64 (a:Int)).toNat=a:=by
  rw [BitVec.toNat_ofInt];omega
 have e2:(BitVec.ofInt 64 1).toNat=1:=by decide
 rw [BitVec.toNat_and,e1,e2,Nat.and_one_is_mod]
 omega
theorem xI {P:Program} (A:Tab P) (B:bT P) {R:List (Nat×eR×List ((Nat×List Nat)×Nat))} {unroll:Nat->Nat} {cut:Nat->Bool} {known:FuncId->Bool} {n:Nat} {k:FuncId} {xs:List SV} {σ:List (Option SB)} {v:SV} {σ':List (Option SB)} {d:List Nat}
  (hl: ∀p,p∈d->p<σ.length)
  (h:okL xs->okS σ->calls (A.env B unroll cut) (bZ R) known n k xs σ fun v' σ'' d'=>v'=v/\σ''=σ'/\ ∀p,p∈d'->p∈d):aD P k xs σ v σ' d:=by
 refine mH fun h1 h2=> ?_
 obtain ⟨v',σ'',d',⟨rfl,rfl,hd⟩,hc⟩:=bX (env:=A.env B unroll cut) ⟨A.htt,B.ok⟩ A.mixed (fun n=>qS n R) A.hft n k xs σ _ (h h1 h2)
 exact pV hc hd hl
end Go.Se
namespace Go.Proofs.YtghnfjfkjhbgdaaGreatDoor
open Go.Se
set_option maxRecDepth 100000
theorem RG (u:Nat) (B:bT Tryz.prog) (n:Nat) {k:FuncId} {xs:List SV} {σ:List (Option SB)} {v:SV} {σ':List (Option SB)} {d:List Nat}
  (hl: ∀p,p∈d->p<σ.length)
  (h:okL xs->okS σ-> ∀K:KC,(∀d',(∀p,p∈d'->p∈d)->K v σ' d')->n9 u B n k xs σ K):aD Tryz.prog k xs σ v σ' d:=
 pK (R:=[]) tab B hl fun h1 h2=>h h1 h2 _ fun _ hd=>⟨rfl,rfl,hd⟩
end Go.Proofs.YtghnfjfkjhbgdaaGreatDoor
namespace Go.Se
def pH :Nat->Int->Int->Int->Int
 |0,lo,_,_=>lo
 |f+1,lo,hi,N=>bif decide (lo<hi) then (bif decide (N<(lo+(hi - lo+1)/2)*(lo+(hi - lo+1)/2)) then pH f lo (lo+(hi - lo+1)/2 - 1) N else pH f (lo+(hi - lo+1)/2) hi N) else lo
def hJ(N:Int):Int:=bif decide (N<=0) then 0 else pH 64 1 13835058055282163712 N
theorem AW{N:Int}: ∀(f:Nat) (lo hi:Int),0<lo->lo<=hi->hi - lo<2^f->lo*lo<=N->N<(hi+1)*(hi+1)->
  lo<=pH f lo hi N/\pH f lo hi N<=hi/\pH f lo hi N*pH f lo hi N<=N/\N<(pH f lo hi N+1)*(pH f lo hi N+1)
 |0,lo,hi,h0,h1,h2,h3,h4=>by
  have:hi=lo:=by simp at h2;omega
  subst this
  exact ⟨Int.le_refl _,Int.le_refl _,h3,h4⟩
 |f+1,lo,hi,h0,h1,h2,h3,h4=>by
  have hp:(2:Int)^(f+1)=2^f*2:=Int.pow_succ 2 f
  rw [hp] at h2
  unfold pH
  by_cases hlt:lo<hi
  ·rw [decide_eq_true hlt]
   simp only [cond_true]
   generalize hm:lo+(hi - lo+1)/2=m
   by_cases hN:N<m*m
   ·rw [decide_eq_true hN]
    simp only [cond_true]
    obtain ⟨a,b,c,d⟩:=AW (N:=N) f lo (m - 1) h0 (by omega) (by omega) h3 (by rw [show m - 1+1=m by omega];exact hN)
    exact ⟨a,by omega,c,d⟩
   ·rw [decide_eq_false hN]
    simp only [cond_false]
    obtain ⟨a,b,c,d⟩:=AW (N:=N) f m hi (by omega) (by omega) (by omega) (by omega) h4
    exact ⟨by omega,b,c,d⟩
  ·rw [decide_eq_false hlt]
   have:hi=lo:=by omega
   subst this
   exact ⟨Int.le_refl _,Int.le_refl _,h3,h4⟩
theorem YE{N:Int}(h0:0<=N)(h1:N<170141183460469231731687303715884105728):0<=hJ N/\hJ N<=13835058055282163712/\hJ N*hJ N<=N/\N<(hJ N+1)*(hJ N+1):=by
 unfold hJ
 by_cases h:N<=0
 ·rw [decide_eq_true h]
  simp only [cond_true]
  omega
 ·rw [decide_eq_false h]
  simp only [cond_false]
  obtain ⟨a,b,c,d⟩:=AW (N:=N) 64 1 13835058055282163712 (by omega) (by omega) (by decide) (by omega) (by omega)
  exact ⟨by omega,b,c,d⟩
end Go.Se
namespace Go.Proofs.YtghnfjfkjhbgdaaGreatDoor
open Go.Se
set_option maxRecDepth 100000
noncomputable abbrev eA(R:List (Nat×eR))(u:Nat->Nat)(B:bT Tryz.prog)(n:Nat)(k:FuncId)(xs:List SV)(σ:List (Option SB))(K:KC):Prop:=
 calls (tab.env B u (fun _=>false)) (aB R) B.dom n k xs σ K
theorem iC (R:List (Nat×eR)) (u:Nat->Nat) (B:bT Tryz.prog) (n:Nat) {k:FuncId} {xs:List SV} {σ:List (Option SB)} {v:SV} {σ':List (Option SB)} {d:List Nat}
  (hl: ∀p,p∈d->p<σ.length)
  (h:okL xs->okS σ-> ∀K:KC,(∀d',(∀p,p∈d'->p∈d)->K v σ' d')->eA R u B n k xs σ K):aD Tryz.prog k xs σ v σ' d:=
 pK (R:=R) tab B hl fun h1 h2=>h h1 h2 _ fun _ hd=>⟨rfl,rfl,hd⟩
noncomputable abbrev fW(R:List (Nat×eR))(u:Nat->Nat)(B:bT Tryz.prog)(n:Nat):Env:=
 {tab.env B u (fun _=>false) with callee:=calls (tab.env B u (fun _=>false)) (aB R) B.dom n,round:=fun xs σ K=>calls.roundsN (tab.env B u (fun _=>false)) (aB R) B.dom n xs σ K}
def BA :List (Nat×eR):=[(0,⟨[4,5,3,2],[1],[1],2,[]⟩)]
def C6(a b lo hi:Int):St:=⟨[(4,.int .u64 lo),(5,.int .u64 hi),(3,.ptr 1 0),(2,.int .u64 0)],[(1,some (.cells 263 [.int .u64 a,.int .u64 b]))],2,[1],48⟩
def JD(lo hi:Int):Int:=IntKind.u64.wrap (lo+IntKind.u64.wrap ((IntKind.u64.wrap (IntKind.u64.wrap (hi - lo)+1)).tdiv 2))
abbrev vT :List Nat:=[1,1,1,1,0,0]
noncomputable abbrev QR :Env:=fW BA (fun _=>0) k4 1
theorem P1(K:KC)(a b:Int):eA BA (fun _=>0) k4 2 189 [.agg [.int .i64 a,.int .u64 b]] [] K=
  Br (decide (a<0)) (K (.int .u64 0) [] []) (Br (a==0&&b==0) (K (.int .u64 0) [] [])
   (∃n,bO QR (aB BA 0) Tryz.f189 vT 0 0 K n (C6 (IntKind.u64.wrap a) b 1 13835058055282163712))):=by kernel_rfl
theorem MZ(K:Ex->St->Prop)(a b lo hi:Int):aF QR (aB BA 0) Tryz.f189 vT 0 K (C6 a b lo hi)=
  Br (decide (lo<hi)) (Br (decide (wv a b<wv (JD lo hi*JD lo hi/18446744073709551616) (JD lo hi*JD lo hi%18446744073709551616)))
   (K .normal (C6 a b lo (IntKind.u64.wrap (JD lo hi - 1)))) (K .normal (C6 a b (JD lo hi) hi))) (K (.exit 0) (C6 a b lo hi)):=by kernel_rfl
theorem MT(K:KC)(a b lo hi:Int):aE QR (aB BA 0) Tryz.f189 vT 0 K (.exit 0) (C6 a b lo hi)=K (.int .u64 lo) [] []:=by kernel_rfl
theorem w6(K:KC)(a b:Int): ∀(f:Nat) (lo hi:Int),0<lo->lo<=hi->hi<=13835058055282163712->hi - lo<2^f->K (.int .u64 (pH f lo hi (wv a b))) [] []->
  bO QR (aB BA 0) Tryz.f189 vT 0 0 K (f+1) (C6 a b lo hi)
 |f,lo,hi,h0,h1,h2,h3,hK=>by
  rw [jB,MZ]
  refine Br.of (fun c1=> ?_) fun c1=> ?_
  ·have c1':=of_decide_eq_true c1
   cases f with
   |zero=>simp at h3;omega
   |succ f=>
    have hp:(2:Int)^(f+1)=2^f*2:=Int.pow_succ 2 f
    rw [hp] at h3
    have hm:JD lo hi=lo+(hi - lo+1)/2:=by
     unfold JD
     simp only [fB]
     rw [show (hi - lo)%18446744073709551616=hi - lo by omega,show (hi - lo+1)%18446744073709551616=hi - lo+1 by omega,Int.tdiv_eq_ediv_of_nonneg (by omega)]
     omega
    rw [hm,qA,fB]
    unfold pH at hK
    rw [c1] at hK
    simp only [cond_true] at hK
    refine Br.of (fun c2=> ?_) fun c2=> ?_
    ·rw [c2] at hK
     rw [show (lo+(hi - lo+1)/2 - 1)%18446744073709551616=lo+(hi - lo+1)/2 - 1 by omega]
     exact w6 K a b f lo _ h0 (by omega) (by omega) (by omega) hK
    ·rw [c2] at hK
     exact w6 K a b f _ hi (by omega) (by omega) h2 (by omega) hK
  ·show aE _ _ _ _ _ _ _ _
   rw [MT]
   cases f with
   |zero=>exact hK
   |succ f=>
    unfold pH at hK
    rw [c1] at hK
    exact hK
theorem i7(a b:Int):aD Tryz.prog 189 [.agg [.int .i64 a,.int .u64 b]] [] (.int .u64 (hJ (wv a b))) [] []:=
 iC BA (fun _=>0) k4 2 (fun _ h=>nomatch h) fun ⟨⟨ha,hb,_⟩,_⟩ _ K hK=>by
  have hK:=hK [] fun _ h=>nomatch h
  have ha': -9223372036854775808<=a/\a<=9223372036854775807:=ha
  have hb':0<=b/\b<=18446744073709551615:=hb
  rw [P1]
  unfold hJ at hK
  refine Br.of (fun c1=> ?_) fun c1=>Br.of (fun c2=> ?_) fun c2=>⟨65, ?_⟩
  ·have c1':=of_decide_eq_true c1
   rw [decide_eq_true (show wv a b<=0 by unfold wv;omega)] at hK
   exact hK
  ·simp only [Bool.and_eq_true,beq_iff_eq] at c2
   rw [decide_eq_true (show wv a b<=0 by unfold wv;omega)] at hK
   exact hK
  ·have c1':=of_decide_eq_false c1
   have c2': ¬(a=0/\b=0):=by
    rintro ⟨rfl,rfl⟩
    simp at c2
   rw [decide_eq_false (show¬wv a b<=0 by unfold wv;omega)] at hK
   rw [fB,show a%18446744073709551616=a by omega]
   exact w6 K a b 64 1 13835058055282163712 (by omega) (by omega) (by omega) (by decide) hK
def aDp :List SV->List (Option SB)->Out
 | [.agg [.int .i64 a,.int .u64 b]],[]=>some (.int .u64 (hJ (wv a b)),[],[])
 |_,_=>none
noncomputable def k5 :bT Tryz.prog:=(k4).add 189 (one aDp) (bD fun xs σ v σ' d h=>by
  unfold aDp at h;split at h<;>cases h;first|exact i7|exact i7 _|exact i7 _ _|exact i7 _ _ _|exact i7 _ _ _ _|exact i7 _ _ _ _ _|exact i7 _ _ _ _ _ _|exact i7 _ _ _ _ _ _ _|exact i7 _ _ _ _ _ _ _ _|exact i7 _ _ _ _ _ _ _ _ _|exact i7 _ _ _ _ _ _ _ _ _ _|exact i7 _ _ _ _ _ _ _ _ _ _ _)
end Go.Proofs.YtghnfjfkjhbgdaaGreatDoor
namespace Go.Proofs.YtghnfjfkjhbgdaaGreatDoor
open Go.Se
set_option maxRecDepth 100000
end Go.Proofs.YtghnfjfkjhbgdaaGreatDoor
namespace Go.Se
def QQ :ByteArray:=⟨(([0,1,2,2,3,3,3,3]++List.replicate 8 4++List.replicate 16 5++List.replicate 32 6++List.replicate 64 7++List.replicate 128 8:List UInt8)).toArray⟩
def kJ(b:Int):Int:=((QQ.data.getD b.toNat 0).toNat:Int)
def wZ(n:Nat):Nat:=(QQ.data.getD n 0).toNat
theorem IK : ∀n:Fin 256,n.val=0\/(1<=wZ n.val/\wZ n.val<=8/\2^(wZ n.val - 1)<=n.val/\n.val<2^wZ n.val):=by decide+kernel
theorem NL :QQ.size=256:=by decide+kernel
theorem MH(n:Nat):kJ (n:Int)=(wZ n:Int):=rfl
theorem X8{a:Nat}(k:Nat)(h1:2^k<=a)(h2:a<2^(k+8)): ∃L:Nat,kJ ((a/2^k:Nat):Int)+k=(L:Int)/\1<=L/\L<=k+8/\2^(L - 1)<=a/\a<2^L:=by
 have hlt:a/2^k<256:=by
  rw [Nat.div_lt_iff_lt_mul (Nat.two_pow_pos k),show (256:Nat)=2^8 from rfl,<- Nat.pow_add,Nat.add_comm 8 k];exact h2
 have hpos:0<a/2^k:=Nat.div_pos h1 (Nat.two_pow_pos k)
 rcases IK ⟨a/2^k,hlt⟩ with h|⟨p,q,r,s⟩
 ·simp only at h;omega
 ·simp only at p q r s
  refine ⟨wZ (a/2^k)+k,by rw [MH];omega,by omega,by omega, ?_, ?_⟩
  ·rw [show wZ (a/2^k)+k - 1=(wZ (a/2^k) - 1)+k by omega,Nat.pow_add]
   exact (Nat.le_div_iff_mul_le (Nat.two_pow_pos k)).1 r
  ·rw [Nat.pow_add]
   exact (Nat.div_lt_iff_lt_mul (Nat.two_pow_pos k)).1 s
def yM(a:Int):Int:=
 bif decide (a>=72057594037927936) then kJ (a/72057594037927936)+56 else
 bif decide (a>=281474976710656) then kJ (a/281474976710656)+48 else
 bif decide (a>=1099511627776) then kJ (a/1099511627776)+40 else
 bif decide (a>=4294967296) then kJ (a/4294967296)+32 else
 bif decide (a>=16777216) then kJ (a/16777216)+24 else
 bif decide (a>=65536) then kJ (a/65536)+16 else
 bif decide (a>=256) then kJ (a/256)+8 else kJ a
theorem ZH{a:Int}(h0:0<a)(h1:a<18446744073709551616): ∃L:Nat,yM a=(L:Int)/\1<=L/\L<=64/\(2:Int)^(L - 1)<=a/\a<(2:Int)^L:=by
 obtain ⟨n,rfl⟩:=Int.eq_ofNat_of_zero_le (Int.le_of_lt h0)
 have fin: ∀k:Nat,k<=56->2^k<=n->n<2^(k+8)->yM n=kJ ((n/2^k:Nat):Int)+k-> ∃L:Nat,yM n=(L:Int)/\1<=L/\L<=64/\(2:Int)^(L - 1)<=n/\(n:Int)<(2:Int)^L:=by
  intro k hk a1 a2 a3
  obtain ⟨L,b1,b2,b3,b4,b5⟩:=X8 k a1 a2
  exact ⟨L,by rw [a3,b1],b2,by omega,by exact_mod_cast b4,by exact_mod_cast b5⟩
 unfold yM at fin|-
 by_cases c1:(n:Int)>=72057594037927936
 ·exact fin 56 (by omega) (by omega) (by omega) (by rw [decide_eq_true c1];rfl)
 by_cases c2:(n:Int)>=281474976710656
 ·exact fin 48 (by omega) (by omega) (by omega) (by rw [decide_eq_false c1,decide_eq_true c2];rfl)
 by_cases c3:(n:Int)>=1099511627776
 ·exact fin 40 (by omega) (by omega) (by omega) (by rw [decide_eq_false c1,decide_eq_false c2,decide_eq_true c3];rfl)
 by_cases c4:(n:Int)>=4294967296
 ·exact fin 32 (by omega) (by omega) (by omega) (by rw [decide_eq_false c1,decide_eq_false c2,decide_eq_false c3,decide_eq_true c4];rfl)
 by_cases c5:(n:Int)>=16777216
 ·exact fin 24 (by omega) (by omega) (by omega) (by rw [decide_eq_false c1,decide_eq_false c2,decide_eq_false c3,decide_eq_false c4,decide_eq_true c5];rfl)
 by_cases c6:(n:Int)>=65536
 ·exact fin 16 (by omega) (by omega) (by omega) (by rw [decide_eq_false c1,decide_eq_false c2,decide_eq_false c3,decide_eq_false c4,decide_eq_false c5,decide_eq_true c6];rfl)
 by_cases c7:(n:Int)>=256
 ·exact fin 8 (by omega) (by omega) (by omega) (by rw [decide_eq_false c1,decide_eq_false c2,decide_eq_false c3,decide_eq_false c4,decide_eq_false c5,decide_eq_false c6,decide_eq_true c7];rfl)
 ·exact fin 0 (by omega) (by omega) (by omega) (by rw [decide_eq_false c1,decide_eq_false c2,decide_eq_false c3,decide_eq_false c4,decide_eq_false c5,decide_eq_false c6,decide_eq_false c7];show kJ n=kJ ((n/1:Nat):Int)+0;simp)
theorem IM{b:Int}(h0:0<=b)(h1:b<=255):0<=kJ b/\kJ b<=8:=by
 obtain ⟨n,rfl⟩:=Int.eq_ofNat_of_zero_le h0
 rw [MH]
 rcases IK ⟨n,by omega⟩ with h|⟨_,q,_⟩
 ·simp only at h;subst h;rw [show wZ 0=0 by decide+kernel];omega
 ·simp only at q;omega
end Go.Se
namespace Go.Proofs.YtghnfjfkjhbgdaaGreatDoor
open Go.Se
set_option maxRecDepth 100000
def aCK(b x:Int)(K:KC):Prop:=If (decide (0<=IntKind.u8.wrap x)&&decide (IntKind.u8.wrap x<(QQ.size:Int))) (K (.int .i64 (IntKind.i64.wrap (b+IntKind.i64.wrap (kJ (IntKind.u8.wrap x))))) [] [])
def X5(b x:Int)(K:KC):Prop:=Br (decide (x>=256)) (aCK (b+8) (x.fdiv 256) K) (aCK b x K)
def M6(b x:Int)(K:KC):Prop:=Br (decide (x>=65536)) (X5 (b+16) (x.fdiv 65536) K) (X5 b x K)
def aAF(x:Int)(K:KC):Prop:=Br (decide (x>=4294967296)) (M6 32 (x.fdiv 4294967296) K) (M6 0 x K)
theorem lM{b x v:Int}{K:KC}(hx:0<=x)(hx':x<=255)(hb:0<=b)(hb':b<=56)(hv:v=kJ x+b)(hK:K (.int .i64 v) [] []):aCK b x K:=by
 unfold aCK
 have hl:=IM hx hx'
 rw [wu8,show x%256=x by omega,gY,gY,show (b+((kJ x+9223372036854775808)%18446744073709551616 - 9223372036854775808)+9223372036854775808)%18446744073709551616 - 9223372036854775808=v by omega]
 exact If.mk (by rw [NL];simp only [Bool.and_eq_true,decide_eq_true_eq];omega) hK
theorem fC(a:Int):aD Tryz.prog 238 [.int .u64 a] [] (.int .i64 (yM a)) [] []:=
 aV k5 2 fun ⟨ha,_⟩ _ K hK=>by
  have ha':0<=a/\a<=18446744073709551615:=ha
  have e: ∀K,run k5 2 238 [.int .u64 a] [] K=aAF a K:=fun K=>by kernel_rfl
  rw [e]
  unfold aAF M6 X5
  simp only [iV _ (show (0:Int)<=4294967296 by decide),iV _ (show (0:Int)<=65536 by decide),iV _ (show (0:Int)<=256 by decide)]
  unfold yM at hK
  refine Br.of (fun c1=>Br.of (fun c2=>Br.of (fun c3=> ?_) fun c3=> ?_) fun c2=>Br.of (fun c3=> ?_) fun c3=> ?_) fun c1=>Br.of (fun c2=>Br.of (fun c3=> ?_) fun c3=> ?_) fun c2=>Br.of (fun c3=> ?_) fun c3=> ?_<;>
   simp only [decide_eq_true_eq,decide_eq_false_iff_not] at c1 c2 c3
  ·rw [decide_eq_true (show a>=72057594037927936 by omega)] at hK
   exact lM (by omega) (by omega) (by omega) (by omega) (by rw [show a/4294967296/65536/256=a/72057594037927936 by omega];rfl) hK
  ·rw [decide_eq_false (show¬a>=72057594037927936 by omega),decide_eq_true (show a>=281474976710656 by omega)] at hK
   exact lM (by omega) (by omega) (by omega) (by omega) (by rw [show a/4294967296/65536=a/281474976710656 by omega];rfl) hK
  ·rw [decide_eq_false (show¬a>=72057594037927936 by omega),decide_eq_false (show¬a>=281474976710656 by omega),decide_eq_true (show a>=1099511627776 by omega)] at hK
   exact lM (by omega) (by omega) (by omega) (by omega) (by rw [show a/4294967296/256=a/1099511627776 by omega];rfl) hK
  ·rw [decide_eq_false (show¬a>=72057594037927936 by omega),decide_eq_false (show¬a>=281474976710656 by omega),decide_eq_false (show¬a>=1099511627776 by omega),decide_eq_true (show a>=4294967296 by omega)] at hK
   exact lM (by omega) (by omega) (by omega) (by omega) rfl hK
  ·rw [decide_eq_false (show¬a>=72057594037927936 by omega),decide_eq_false (show¬a>=281474976710656 by omega),decide_eq_false (show¬a>=1099511627776 by omega),decide_eq_false (show¬a>=4294967296 by omega),decide_eq_true (show a>=16777216 by omega)] at hK
   exact lM (by omega) (by omega) (by omega) (by omega) (by rw [show a/65536/256=a/16777216 by omega];rfl) hK
  ·rw [decide_eq_false (show¬a>=72057594037927936 by omega),decide_eq_false (show¬a>=281474976710656 by omega),decide_eq_false (show¬a>=1099511627776 by omega),decide_eq_false (show¬a>=4294967296 by omega),decide_eq_false (show¬a>=16777216 by omega),decide_eq_true (show a>=65536 by omega)] at hK
   exact lM (by omega) (by omega) (by omega) (by omega) rfl hK
  ·rw [decide_eq_false (show¬a>=72057594037927936 by omega),decide_eq_false (show¬a>=281474976710656 by omega),decide_eq_false (show¬a>=1099511627776 by omega),decide_eq_false (show¬a>=4294967296 by omega),decide_eq_false (show¬a>=16777216 by omega),decide_eq_false (show¬a>=65536 by omega),decide_eq_true (show a>=256 by omega)] at hK
   exact lM (by omega) (by omega) (by omega) (by omega) rfl hK
  ·rw [decide_eq_false (show¬a>=72057594037927936 by omega),decide_eq_false (show¬a>=281474976710656 by omega),decide_eq_false (show¬a>=1099511627776 by omega),decide_eq_false (show¬a>=4294967296 by omega),decide_eq_false (show¬a>=16777216 by omega),decide_eq_false (show¬a>=65536 by omega),decide_eq_false (show¬a>=256 by omega)] at hK
   exact lM (by omega) (by omega) (by omega) (by omega) (by simp only [cond_false];omega) hK
def ZQ :List SV->List (Option SB)->Out
 | [.int .u64 a],[]=>some (.int .i64 (yM a),[],[])
 |_,_=>none
noncomputable def k6 :bT Tryz.prog:=(k5).add 238 (one ZQ) (bD fun xs σ v σ' d h=>by
  unfold ZQ at h;split at h<;>cases h;first|exact fC|exact fC _|exact fC _ _|exact fC _ _ _|exact fC _ _ _ _|exact fC _ _ _ _ _|exact fC _ _ _ _ _ _|exact fC _ _ _ _ _ _ _|exact fC _ _ _ _ _ _ _ _|exact fC _ _ _ _ _ _ _ _ _|exact fC _ _ _ _ _ _ _ _ _ _|exact fC _ _ _ _ _ _ _ _ _ _ _)
end Go.Proofs.YtghnfjfkjhbgdaaGreatDoor
namespace Go.Se
def EW(v1 v0 u:Int):Nat->Int->Int->(Int->Prop)->Prop
 |0,_,_,_=>False
 |n+1,q,r,F=>
  Br (decide (q>=4294967296))
   (Br (decide (IntKind.u64.wrap (r+v1)>=4294967296)) (F (IntKind.u64.wrap (q - 1))) (EW v1 v0 u n (IntKind.u64.wrap (q - 1)) (IntKind.u64.wrap (r+v1)) F))
   (Br (decide (IntKind.u64.wrap (q*v0)>IntKind.u64.wrap (IntKind.u64.wrap (4294967296*r)+u)))
    (Br (decide (IntKind.u64.wrap (r+v1)>=4294967296)) (F (IntKind.u64.wrap (q - 1))) (EW v1 v0 u n (IntKind.u64.wrap (q - 1)) (IntKind.u64.wrap (r+v1)) F))
    (F q))
theorem JM {v1 v0 u Uh:Int} {F:Int->Prop} (h1:2147483648<=v1) (h1':v1<4294967296) (h0:0<=v0) (h0':v0<4294967296) (hu:0<=u) (hu':u<4294967296)
  (hU:0<=Uh) (hU':Uh<v1*4294967296+v0) (hF:F ((Uh*4294967296+u)/(v1*4294967296+v0))):
  ∀(n:Nat) (q r:Int),n<=2->q*v1+r=Uh->(2 - (n:Int))*v1<=r->r<4294967296->(Uh*4294967296+u)/(v1*4294967296+v0)<=q->q<=4294967297->EW v1 v0 u n q r F
 |0,q,r,_,_,h3,h4,_,_=>by simp at h3;omega
 |n+1,q,r,hn,hq,h3,h4,h5,h6=>by
  have hV:0<v1*4294967296+v0:=by omega
  have hr:0<=r:=by
   have:0<=(2 - ((n+1:Nat):Int))*v1:=Int.mul_nonneg (by omega) (by omega)
   omega
  have hQ0:0<=(Uh*4294967296+u)/(v1*4294967296+v0):=Int.ediv_nonneg (by omega) (by omega)
  have hQB:(Uh*4294967296+u)/(v1*4294967296+v0)<4294967296:=by
   rw [Int.ediv_lt_iff_lt_mul hV];omega
  have dec:(Uh*4294967296+u)/(v1*4294967296+v0)<q->
    Br (decide (IntKind.u64.wrap (r+v1)>=4294967296)) (F (IntKind.u64.wrap (q - 1))) (EW v1 v0 u n (IntKind.u64.wrap (q - 1)) (IntKind.u64.wrap (r+v1)) F):=by
   intro hlt
   rw [fB,fB,show (r+v1)%18446744073709551616=r+v1 by omega,show (q - 1)%18446744073709551616=q - 1 by omega]
   have hq':(q - 1)*v1+(r+v1)=Uh:=by rw [Int.sub_mul];omega
   refine Br.of (fun c=> ?_) fun c=> ?_
   ·have c':=of_decide_eq_true c
    have hle:(q - 1)<=(Uh*4294967296+u)/(v1*4294967296+v0):=by
     rw [Int.le_ediv_iff_mul_le hV]
     have e:(q - 1)*(v1*4294967296+v0)=(q - 1)*v1*4294967296+(q - 1)*v0:=by rw [Int.mul_add,Int.mul_assoc]
     have hb:(q - 1)*v0<=4294967296*4294967295:=Int.mul_le_mul (by omega) (by omega) h0 (by omega)
     rw [e]
     omega
    rw [show q - 1=(Uh*4294967296+u)/(v1*4294967296+v0) by omega]
    exact hF
   ·have c':=of_decide_eq_false c
    refine JM h1 h1' h0 h0' hu hu' hU hU' hF n (q - 1) (r+v1) (by omega) hq' ?_ (by omega) (by omega) (by omega)
    have e:(2 - ((n+1:Nat):Int))*v1=(2 - (n:Int))*v1 - v1:=by
     rw [show (2 - ((n+1:Nat):Int))=(2 - (n:Int)) - 1 by omega,Int.sub_mul,Int.one_mul]
    rw [e] at h3
    omega
  unfold EW
  refine Br.of (fun c=>dec ?_) fun c=>Br.of (fun c2=>dec ?_) fun c2=> ?_
  ·have:=of_decide_eq_true c
   omega
  ·have c1:=of_decide_eq_false c
   have c2':=of_decide_eq_true c2
   have hb:q*v0<=4294967295*4294967295:=Int.mul_le_mul (by omega) (by omega) h0 (by omega)
   have hb0:0<=q*v0:=Int.mul_nonneg (by omega) h0
   rw [fB,fB,fB] at c2'
   rw [Int.ediv_lt_iff_lt_mul hV,Int.mul_add,<- Int.mul_assoc]
   omega
  ·have c1:=of_decide_eq_false c
   have c2':=of_decide_eq_false c2
   have hb:q*v0<=4294967295*4294967295:=Int.mul_le_mul (by omega) (by omega) h0 (by omega)
   have hb0:0<=q*v0:=Int.mul_nonneg (by omega) h0
   rw [fB,fB,fB] at c2'
   have:q<=(Uh*4294967296+u)/(v1*4294967296+v0):=by
    rw [Int.le_ediv_iff_mul_le hV,Int.mul_add,<- Int.mul_assoc]
    omega
   rw [show q=(Uh*4294967296+u)/(v1*4294967296+v0) by omega]
   exact hF
def HY(v1 v0 Uh u:Int)(F:Int->Prop):Prop:=
 If (v1 !=0) (EW v1 v0 u 2 (IntKind.u64.wrap (Uh.tdiv v1)) (IntKind.u64.wrap (Uh - IntKind.u64.wrap (IntKind.u64.wrap (Uh.tdiv v1)*v1))) F)
theorem F7 {v1 v0 u Uh:Int} {F:Int->Prop} (h1:2147483648<=v1) (h1':v1<4294967296) (h0:0<=v0) (h0':v0<4294967296) (hu:0<=u) (hu':u<4294967296)
  (hU:0<=Uh) (hU':Uh<v1*4294967296+v0) (hF:F ((Uh*4294967296+u)/(v1*4294967296+v0))):HY v1 v0 Uh u F:=by
 unfold HY
 refine If.mk (by rw [bne_iff_ne];omega) ?_
 have hd:=Int.emod_add_mul_ediv Uh v1
 have hm0:=Int.emod_nonneg Uh (show v1≠0 by omega)
 have hm1:=Int.emod_lt_of_pos Uh (show 0<v1 by omega)
 have hq0:0<=Uh/v1:=Int.ediv_nonneg hU (by omega)
 have hq1:Uh/v1<4294967298:=by
  rw [Int.ediv_lt_iff_lt_mul (by omega)];omega
 rw [Int.tdiv_eq_ediv_of_nonneg hU,fB,fB,fB,show Uh/v1%18446744073709551616=Uh/v1 by omega]
 have hc:Uh/v1*v1=v1*(Uh/v1):=Int.mul_comm _ _
 have hc0:0<=Uh/v1*v1:=Int.mul_nonneg hq0 (by omega)
 rw [show Uh/v1*v1%18446744073709551616=Uh/v1*v1 by omega,show (Uh - Uh/v1*v1)%18446744073709551616=Uh%v1 by omega]
 refine JM h1 h1' h0 h0' hu hu' hU hU' hF 2 _ _ (Nat.le_refl _) (by omega) (by simp;omega) (by omega) ?_ (by omega)
 have hV:0<v1*4294967296+v0:=by omega
 have:(Uh*4294967296+u)/(v1*4294967296+v0)<Uh/v1+1:=by
  rw [Int.ediv_lt_iff_lt_mul hV]
  have e:(Uh/v1+1)*(v1*4294967296+v0)=(v1*(Uh/v1)+v1)*4294967296+(Uh/v1+1)*v0:=by
   rw [Int.mul_add,<- Int.mul_assoc,Int.add_mul,Int.one_mul,hc]
  have hnn:0<=(Uh/v1+1)*v0:=Int.mul_nonneg (by omega) h0
  rw [e]
  omega
 omega
def shU(x s:Int):Int:=IntKind.u64.wrap (x*2^min s.toNat IntKind.u64.bits)
def lzU(y:Int):Int:=IntKind.u64.wrap (IntKind.i64.wrap (64 - yM y))
def aBN(hi lo y:Int):Int:=IntKind.u64.wrap ↑(BitVec.ofInt IntKind.u64.bits (shU hi (lzU y))|||BitVec.ofInt IntKind.u64.bits (lo.fdiv (2^min (IntKind.u64.wrap (64 - lzU y)).toNat IntKind.u64.bits))).toNat
def UM(x:Int):Int:=IntKind.u64.wrap ↑(BitVec.ofInt IntKind.u64.bits x&&&BitVec.ofInt IntKind.u64.bits 4294967295).toNat
def QW(Uh u q Y:Int):Int:=IntKind.u64.wrap (IntKind.u64.wrap (IntKind.u64.wrap (Uh*4294967296)+u) - IntKind.u64.wrap (q*Y))
def aEa(hi lo y:Int)(K:KC):Prop:=
 let Y:=shU y (lzU y)
 let L:=shU lo (lzU y)
 If (decide (0<=lzU y))<|If (decide (0<=lzU y))<|If (decide (0<=IntKind.u64.wrap (64 - lzU y)))<|If (decide (0<=lzU y))<|
 HY (Y.fdiv 4294967296) (UM Y) (aBN hi lo y) (L.fdiv 4294967296) fun q1=>
  let M:=QW (aBN hi lo y) (L.fdiv 4294967296) q1 Y
  HY (Y.fdiv 4294967296) (UM Y) M (UM L) fun q0=>
   If (decide (0<=lzU y))<|K (.tup [.int .u64 (IntKind.u64.wrap (IntKind.u64.wrap (q1*4294967296)+q0)),.int .u64 ((QW M (UM L) q0 Y).fdiv (2^min (lzU y).toNat IntKind.u64.bits))]) [] []
theorem Q8{x:Int}(h:0<=x)(h':x<18446744073709551616):UM x=x%4294967296:=by
 unfold UM;rw [fB];show (((BitVec.ofInt 64 x&&&BitVec.ofInt 64 4294967295).toNat:Nat):Int)%_=_
 rw [HO x h (by omega)];omega
theorem P5{Uh u Y:Int}(_hU:0<=Uh)(_hu:0<=u)(hY:0<Y)(hY':Y<18446744073709551616):QW Uh u ((Uh*4294967296+u)/Y) Y=(Uh*4294967296+u)%Y:=by
 unfold QW
 simp only [fB]
 have h1:=Int.emod_add_mul_ediv (Uh*4294967296+u) Y
 have h2:=Int.emod_nonneg (Uh*4294967296+u) (show Y≠0 by omega)
 have h3:=Int.emod_lt_of_pos (Uh*4294967296+u) hY
 rw [Int.mul_comm ((Uh*4294967296+u)/Y) Y]
 omega
theorem aAQ{x y:Int}{s:Nat}(hx:0<=x)(hx':x*2^s<18446744073709551616)(hy:0<=y)(hy':y<2^s)(hs:s<=64):
  (((BitVec.ofInt 64 (x*2^s)|||BitVec.ofInt 64 y).toNat:Nat):Int)=x*2^s+y:=by
 obtain ⟨a,rfl⟩:=Int.eq_ofNat_of_zero_le hx
 obtain ⟨b,rfl⟩:=Int.eq_ofNat_of_zero_le hy
 have hb:b<2^s:=Int.ofNat_lt.1 (by rw [Int.natCast_pow];exact hy')
 have ha:a*2^s<18446744073709551616:=Int.ofNat_lt.1 (by rw [Int.natCast_mul,Int.natCast_pow];exact hx')
 have hb':b<2^64:=Nat.lt_of_lt_of_le hb (Nat.pow_le_pow_right (by decide) hs)
 have e1:(BitVec.ofInt 64 ((a:Int)*2^s)).toNat=2^s*a:=by
  rw [show (a:Int)*2^s=((a*2^s:Nat):Int) by rw [Int.natCast_mul,Int.natCast_pow];rfl,BitVec.toNat_ofInt,Nat.mul_comm (2^s) a]
  generalize a*2^s=z at ha
  omega
 have e2:(BitVec.ofInt 64 (b:Int)).toNat=b:=by
  rw [BitVec.toNat_ofInt];omega
 rw [BitVec.toNat_or,e1,e2,<- Nat.two_pow_add_eq_or_of_lt hb]
 rw [Nat.mul_comm,Int.natCast_add,Int.natCast_mul,Int.natCast_pow];rfl
theorem aBH {hi lo y:Int} {K:KC} (hh:0<=hi) (hl:0<=lo) (hl':lo<18446744073709551616) (hy:hi<y) (hy':y<18446744073709551616)
  (hK:K (.tup [.int .u64 ((hi*18446744073709551616+lo)/y),.int .u64 ((hi*18446744073709551616+lo)%y)]) [] []):aEa hi lo y K:=by
 obtain ⟨len,hlen,l1,l2,l3,l4⟩:=ZH (a:=y) (by omega) hy'
 obtain ⟨s,hs⟩: ∃s:Nat,len+s=64:=⟨64 - len,by omega⟩
 have hlz:lzU y=(s:Int):=by
  unfold lzU;rw [hlen,fB,gY];omega
 have hS:(2:Int)^len*2^s=18446744073709551616:=by rw [<- Int.pow_add,hs];rfl
 have hS':(2:Int)^(len - 1)*2^s=9223372036854775808:=by rw [<- Int.pow_add,show len - 1+s=63 by omega];rfl
 have hpos:0<(2:Int)^s:=Int.pow_pos (by decide)
 have hpl:0<(2:Int)^len:=Int.pow_pos (by decide)
 have hshU: ∀x:Int,shU x (lzU y)=x*2^s%18446744073709551616:=fun x=>by
  unfold shU
  rw [hlz,fB,show min (s:Int).toNat IntKind.u64.bits=s by rw [Int.toNat_natCast];show min s 64=s;omega]
 have hY1:9223372036854775808<=y*2^s:=by rw [<- hS'];exact Int.mul_le_mul_of_nonneg_right l3 (Int.le_of_lt hpos)
 have hY2:y*2^s<18446744073709551616:=by rw [<- hS];exact Int.mul_lt_mul_of_pos_right l4 hpos
 have hH:hi*2^s<y*2^s:=Int.mul_lt_mul_of_pos_right hy hpos
 have hH0:0<=hi*2^s:=Int.mul_nonneg hh (Int.le_of_lt hpos)
 have hL0:0<=lo*2^s:=Int.mul_nonneg hl (Int.le_of_lt hpos)
 have hYe:shU y (lzU y)=y*2^s:=by rw [hshU];omega
 have hdiv:lo*2^s/18446744073709551616=lo/2^len:=by
  rw [<- hS];exact Int.mul_ediv_mul_of_pos_left lo (2^len) hpos
 have hlt:lo/2^len<2^s:=by
  rw [Int.ediv_lt_iff_lt_mul hpl,Int.mul_comm,hS];exact hl'
 have hge:0<=lo/2^len:=Int.ediv_nonneg hl (Int.le_of_lt hpl)
 have hUlt:hi*2^s+lo*2^s/18446744073709551616<y*2^s:=by
  have:hi*2^s+2^s<=y*2^s:=by
   have e:hi*2^s+2^s=(hi+1)*2^s:=by rw [Int.add_mul,Int.one_mul]
   rw [e]
   exact Int.mul_le_mul_of_nonneg_right (by omega) (Int.le_of_lt hpos)
  omega
 have hun:aBN hi lo y=hi*2^s+lo*2^s/18446744073709551616:=by
  unfold aBN
  rw [hshU,hlz,fB,fB,show hi*2^s%18446744073709551616=hi*2^s by omega,show min ((64 - (s:Int))%18446744073709551616).toNat IntKind.u64.bits=len by
   show min _ 64=len
   omega,iV _ (Int.le_of_lt hpl)]
  show (((BitVec.ofInt 64 _|||BitVec.ofInt 64 _).toNat:Nat):Int)%_=_
  rw [aAQ hh (by omega) hge hlt (by omega),hdiv]
  rw [hdiv] at hUlt
  omega
 have hLe:shU lo (lzU y)=lo*2^s%18446744073709551616:=hshU lo
 have hN:(hi*2^s+lo*2^s/18446744073709551616)*18446744073709551616+lo*2^s%18446744073709551616=(hi*18446744073709551616+lo)*2^s:=by
  rw [Int.add_mul (hi*18446744073709551616) lo,Int.mul_assoc hi,Int.mul_comm 18446744073709551616 ((2:Int)^s),<- Int.mul_assoc hi]
  omega
 have hq:(hi*18446744073709551616+lo)*2^s/(y*2^s)=(hi*18446744073709551616+lo)/y:=Int.mul_ediv_mul_of_pos_left _ _ hpos
 have hm:(hi*18446744073709551616+lo)*2^s%(y*2^s)=(hi*18446744073709551616+lo)%y*2^s:=by
  rw [Int.mul_comm _ ((2:Int)^s),Int.mul_comm y,Int.mul_emod_mul_of_pos _ _ hpos,Int.mul_comm]
 have hrem:0<=(hi*18446744073709551616+lo)%y:=Int.emod_nonneg _ (by omega)
 unfold aEa
 simp only []
 rw [hYe,hLe,hun,hlz]
 have hs0:decide ((0:Int)<=(s:Int))=true:=decide_eq_true (by omega)
 refine If.mk hs0 (If.mk hs0 (If.mk (by rw [fB];exact decide_eq_true (by omega)) (If.mk hs0 ?_)))
 rw [Q8 (by omega) hY2,Q8 (x:=lo*2^s%18446744073709551616) (by omega) (by omega)]
 simp only [iV _ (show (0:Int)<=4294967296 by decide)]
 generalize hYv:y*2^s=Y at*
 generalize hUv:hi*2^s+lo*2^s/18446744073709551616=U at*
 have hU0:0<=U:=by omega
 generalize hLv:lo*2^s%18446744073709551616=L at*
 have hL1:0<=L/\L<18446744073709551616:=by omega
 have hY3:Y/4294967296*4294967296+Y%4294967296=Y:=by omega
 refine F7 (by omega) (by omega) (by omega) (by omega) (by omega) (by omega) hU0 (by omega) ?_
 rw [hY3,P5 hU0 (by omega) (by omega) hY2]
 have hM0:=Int.emod_nonneg (U*4294967296+L/4294967296) (show Y≠0 by omega)
 have hM1:=Int.emod_lt_of_pos (U*4294967296+L/4294967296) (show 0<Y by omega)
 have hMd:=Int.emod_add_mul_ediv (U*4294967296+L/4294967296) Y
 have hQ0:0<=(U*4294967296+L/4294967296)/Y:=Int.ediv_nonneg (by omega) (by omega)
 have hQ1:(U*4294967296+L/4294967296)/Y<4294967296:=by rw [Int.ediv_lt_iff_lt_mul (by omega)];omega
 generalize hMv:(U*4294967296+L/4294967296)%Y=M at*
 generalize hQv:(U*4294967296+L/4294967296)/Y=Q at*
 refine F7 (by omega) (by omega) (by omega) (by omega) (by omega) (by omega) hM0 (by omega) ?_
 rw [hY3,P5 hM0 (by omega) (by omega) hY2]
 refine If.mk hs0 ?_
 have hq0:0<=(M*4294967296+L%4294967296)/Y:=Int.ediv_nonneg (by omega) (by omega)
 have hq1:(M*4294967296+L%4294967296)/Y<4294967296:=by rw [Int.ediv_lt_iff_lt_mul (by omega)];omega
 have hsplit:(hi*18446744073709551616+lo)*2^s=(M*4294967296+L%4294967296)+Q*4294967296*Y:=by
  rw [<- hN,Int.mul_assoc,Int.mul_comm 4294967296 Y,<- Int.mul_assoc,Int.mul_comm Q Y]
  omega
 have hres:(hi*18446744073709551616+lo)/y=(M*4294967296+L%4294967296)/Y+Q*4294967296:=by
  rw [<- hq,hsplit,Int.add_mul_ediv_right _ _ (by omega)]
 have hmod:(hi*18446744073709551616+lo)%y*2^s=(M*4294967296+L%4294967296)%Y:=by
  rw [<- hm,hsplit,Int.add_mul_emod_self_right]
 rw [show min (s:Int).toNat IntKind.u64.bits=s by rw [Int.toNat_natCast];show min s 64=s;omega,iV _ (Int.le_of_lt hpos),<- hmod,Int.mul_ediv_cancel _ (by omega),fB,fB,
  show (Q*4294967296%18446744073709551616+(M*4294967296+L%4294967296)/Y)%18446744073709551616=(hi*18446744073709551616+lo)/y by rw [hres];omega]
 exact hK
def iR(n d:Int):Int:=bif (decide (n%d>d - n%d)||(n%d==d - n%d&&n/d%2==1))&&decide (n%d>0) then n/d+1 else n/d
def DM(x b:Int):Int:=bif (decide (x<0) !=decide (b<0)) then -iR (bG x) (bG b) else iR (bG x) (bG b)
def rD(x:Int):Bool:=decide (-9223372036854775808<=x)&&decide (x<=9223372036854775807)
def i0(x b:Int):Bool:=b !=0&&rD (DM x b)
def nI(x b:Int):Int:=bif i0 x b then DM x b else 0
def OY(K:KC):Prop:=K (.tup [.int .i64 0,.bool false]) [] []
def dvY(q:Int)(c:Bool)(K:KC):Prop:=Br c (K (.tup [.int .i64 (IntKind.i64.wrap q),.bool true]) [] []) (OY K)
def dvX(neg:Bool)(q:Int)(c:Bool)(K:KC):Prop:=
 Br c (K (.tup [.int .i64 (IntKind.i64.wrap (IntKind.u64.wrap (0 - q))),.bool true]) [] [])
  (Br (!neg) (dvY q (decide (q<9223372036854775808)) K) (dvY q false K))
def JU(neg:Bool)(q:Int)(K:KC):Prop:=Br neg (dvX neg q (decide (q<=9223372036854775808)) K) (dvX neg q false K)
def dvG(neg:Bool)(q:Int)(c:Bool)(K:KC):Prop:=Br c (Br (IntKind.u64.wrap (q+1)==0) (OY K) (JU neg (IntKind.u64.wrap (q+1)) K)) (JU neg q K)
def dvE(neg:Bool)(q r:Int)(up:Bool)(K:KC):Prop:=Br up (dvG neg q (decide (r>0)) K) (dvG neg q false K)
def dvD(neg:Bool)(H L d:Int)(K:KC):Prop:=
 Br (decide (H>=d)) (OY K) (If (decide (H<d))
  ((fun q r=>Br (decide (r>IntKind.u64.wrap (d - r))) (dvE neg q r true K)
   (Br (r==IntKind.u64.wrap (d - r)) (dvE neg q r (IntKind.u64.wrap ↑(BitVec.ofInt IntKind.u64.bits q&&&BitVec.ofInt IntKind.u64.bits 1).toNat==1) K) (dvE neg q r false K))) ((H*18446744073709551616+L)/d) ((H*18446744073709551616+L)%d)))
def dvP(x b:Int)(K:KC):Prop:=
 Br (decide (b<0)) (dvD (!decide (x<0)) (bG x/18446744073709551616) (bG x%18446744073709551616) (IntKind.u64.wrap (0 - IntKind.u64.wrap b)) K)
  (dvD (decide (x<0)) (bG x/18446744073709551616) (bG x%18446744073709551616) (IntKind.u64.wrap b) K)
def dvK(neg:Bool)(Q:Int)(K:KC):Prop:=
 K (.tup [.int .i64 (bif rD (bif neg then -Q else Q) then (bif neg then -Q else Q) else 0),.bool (rD (bif neg then -Q else Q))]) [] []
theorem oW{neg:Bool}{Q:Int}{K:KC}(h0:0<=Q)(h1:Q<18446744073709551616)(hK:dvK neg Q K):JU neg Q K:=by
 unfold dvK rD at hK
 unfold JU dvX dvY OY
 simp only [fB,gY]
 cases neg
 ·refine Br.of (fun h=>by cases h) fun _=>Br.of (fun h=>by cases h) fun _=>Br.of (fun _=>Br.of (fun c=> ?_) fun c=> ?_) fun h=>by cases h
  ·have c':=of_decide_eq_true c
   simp only [cond_false] at hK
   rw [decide_eq_true (show -9223372036854775808<=Q by omega),decide_eq_true (show Q<=9223372036854775807 by omega)] at hK
   rw [show (Q+9223372036854775808)%18446744073709551616 - 9223372036854775808=Q by omega]
   exact hK
  ·have c':=of_decide_eq_false c
   simp only [cond_false] at hK
   rw [decide_eq_false (show¬Q<=9223372036854775807 by omega),Bool.and_false] at hK
   exact hK
 ·refine Br.of (fun _=>Br.of (fun c=> ?_) fun c=>Br.of (fun h=>by cases h) fun _=>Br.of (fun h=>by cases h) fun _=> ?_) fun h=>by cases h
  ·have c':=of_decide_eq_true c
   simp only [cond_true] at hK
   rw [decide_eq_true (show -9223372036854775808<=  -Q by omega),decide_eq_true (show -Q<=9223372036854775807 by omega)] at hK
   rw [show ((0 - Q)%18446744073709551616+9223372036854775808)%18446744073709551616 - 9223372036854775808= -Q by omega]
   exact hK
  ·have c':=of_decide_eq_false c
   simp only [cond_true] at hK
   rw [decide_eq_false (show¬ -9223372036854775808<=  -Q by omega),Bool.false_and] at hK
   exact hK
theorem K4{neg:Bool}{Q:Int}{K:KC}(h1:18446744073709551616<=Q)(hK:dvK neg Q K):OY K:=by
 unfold dvK rD at hK
 unfold OY
 cases neg
 ·simp only [cond_false] at hK
  rw [decide_eq_false (show¬Q<=9223372036854775807 by omega),Bool.and_false] at hK
  exact hK
 ·simp only [cond_true] at hK
  rw [decide_eq_false (show¬ -9223372036854775808<=  -Q by omega),Bool.false_and] at hK
  exact hK
theorem QI{neg:Bool}{n d:Int}{K:KC}(hn:0<=n)(_hn':n<340282366920938463463374607431768211456)(hd:0<d)(hd':d<18446744073709551616)(hK:dvK neg (iR n d) K):
  dvD neg (n/18446744073709551616) (n%18446744073709551616) d K:=by
 unfold dvD
 refine Br.of (fun c=> ?_) fun c=>If.mk ?_ ?_
 ·have c':=of_decide_eq_true c
  refine K4 (Q:=iR n d) ?_ hK
  have:18446744073709551616<=n/d:=by
   rw [Int.le_ediv_iff_mul_le hd];omega
  unfold iR
  cases (decide (n%d>d - n%d)||(n%d==d - n%d&&n/d%2==1))&&decide (n%d>0)<;>simp only [cond_true,cond_false]<;>omega
 ·have c':=of_decide_eq_false c
  exact decide_eq_true (by omega)
 ·have c':=of_decide_eq_false c
  rw [show n/18446744073709551616*18446744073709551616+n%18446744073709551616=n by omega]
  have hq0:0<=n/d:=Int.ediv_nonneg hn (by omega)
  have hq1:n/d<18446744073709551616:=by rw [Int.ediv_lt_iff_lt_mul hd];omega
  have hr0:=Int.emod_nonneg n (show d≠0 by omega)
  have hr1:=Int.emod_lt_of_pos n hd
  unfold iR at hK
  generalize n/d=q at*
  generalize n%d=r at*
  show Br _ _ _
  unfold dvE dvG
  simp only [fB]
  rw [show (d - r)%18446744073709551616=d - r by omega]
  have hand:(((BitVec.ofInt IntKind.u64.bits q&&&BitVec.ofInt IntKind.u64.bits 1).toNat:Nat):Int)%18446744073709551616=q%2:=by
   show (((BitVec.ofInt 64 q&&&BitVec.ofInt 64 1).toNat:Nat):Int)%_=_
   rw [aBJ hq0 hq1];omega
  rw [hand]
  have up:(dvK neg (q+1) K)->Br ((q+1)%18446744073709551616==0) (OY K) (JU neg ((q+1)%18446744073709551616) K):=by
   intro h
   refine Br.of (fun c=> ?_) fun c=> ?_
   ·have:=eq_of_beq c
    exact K4 (Q:=q+1) (by omega) h
   ·have:(q+1)%18446744073709551616≠0:=by simpa using c
    rw [show (q+1)%18446744073709551616=q+1 by omega]
    exact oW (by omega) (by omega) h
  refine Br.of (fun c1=>Br.of (fun _=>Br.of (fun c2=> ?_) fun c2=> ?_) fun h=>by cases h) fun c1=>Br.of (fun c2=>Br.of (fun c3=>Br.of (fun c4=> ?_) fun c4=> ?_) fun c3=>Br.of (fun h=>by cases h) fun _=> ?_) fun c2=>Br.of (fun h=>by cases h) fun _=>Br.of (fun h=>by cases h) fun _=> ?_
  ·rw [c1,c2] at hK;exact up hK
  ·rw [c1,c2] at hK;exact oW hq0 hq1 hK
  ·rw [c1,c2,c3,c4] at hK;exact up hK
  ·rw [c1,c2,c3,c4] at hK;exact oW hq0 hq1 hK
  ·rw [c1,c2,c3] at hK;exact oW hq0 hq1 hK
  ·rw [c1,c2] at hK;exact oW hq0 hq1 hK
theorem aBC {x b:Int} {K:KC} (hx: -170141183460469231731687303715884105728<=x) (hx':x<170141183460469231731687303715884105728) (hb: -9223372036854775808<=b) (hb':b<=9223372036854775807)
  (hK:K (.tup [.int .i64 (nI x b),.bool (i0 x b)]) [] []):dvP x b K:=by
 unfold dvP
 have ha:0<=bG x/\bG x<340282366920938463463374607431768211456:=by
  unfold bG
  by_cases h:x<0
  ·rw [decide_eq_true h];simp only [cond_true];omega
  ·rw [decide_eq_false h];simp only [cond_false];omega
 unfold nI i0 DM at hK
 refine Br.of (fun c=> ?_) fun c=> ?_
 ·have c':=of_decide_eq_true c
  rw [fB,fB,show (0 - b%18446744073709551616)%18446744073709551616=bG b by unfold bG;rw [c];simp only [cond_true];omega]
  refine QI ha.1 ha.2 (by unfold bG;rw [c];simp only [cond_true];omega) (by unfold bG;rw [c];simp only [cond_true];omega) ?_
  unfold dvK
  rw [show (b !=0)=true by rw [bne_iff_ne];omega,c] at hK
  cases hxn:decide (x<0)<;>rw [hxn] at hK<;>exact hK
 ·have c':=of_decide_eq_false c
  by_cases h0:b=0
  ·subst h0
   unfold dvD
   refine Br.of (fun _=>hK) fun h=> ?_
   have:=of_decide_eq_false h
   rw [fB] at this
   omega
  ·rw [fB,show b%18446744073709551616=bG b by unfold bG;rw [c];simp only [cond_false];omega]
   refine QI ha.1 ha.2 (by unfold bG;rw [c];simp only [cond_false];omega) (by unfold bG;rw [c];simp only [cond_false];omega) ?_
   unfold dvK
   rw [show (b !=0)=true by rw [bne_iff_ne];omega,c] at hK
   cases hxn:decide (x<0)<;>rw [hxn] at hK<;>exact hK
end Go.Se
namespace Go.Proofs.YtghnfjfkjhbgdaaGreatDoor
open Go.Se
set_option maxRecDepth 100000
theorem JR(hi lo y:Int)(K:KC):n9 2 k6 3 193 [.int .u64 hi,.int .u64 lo,.int .u64 y] [] K=
  Br (y==0) False (Br (decide (y<=hi)) False (Br (hi==0)
   (If (y !=0) (If (y !=0) (K (.tup [.int .u64 (IntKind.u64.wrap (lo.tdiv y)),.int .u64 (lo.tmod y)]) [] [])))
   (aEa hi lo y K))):=by kernel_rfl
theorem cF(hi lo y:Int)(hlt:hi<y):aD Tryz.prog 193 [.int .u64 hi,.int .u64 lo,.int .u64 y] [] (.tup [.int .u64 ((hi*18446744073709551616+lo)/y),.int .u64 ((hi*18446744073709551616+lo)%y)]) [] []:=
 RG 2 k6 3 (fun _ h=>nomatch h) fun ⟨hh,hl,hy,_⟩ _ K hK=>by
  have hh':0<=hi/\hi<=18446744073709551615:=hh
  have hl':0<=lo/\lo<=18446744073709551615:=hl
  have hy':0<=y/\y<=18446744073709551615:=hy
  have hK:=hK [] fun _ h=>nomatch h
  rw [JR]
  refine Br.of (fun c=> ?_) fun _=>Br.of (fun c=> ?_) fun _=>Br.of (fun c=> ?_) fun _=>aBH hh'.1 hl'.1 (by omega) hlt (by omega) hK
  ·have:=eq_of_beq c;omega
  ·have:=of_decide_eq_true c;omega
  ·have:=eq_of_beq c
   subst this
   have hy0:(y !=0)=true:=by rw [bne_iff_ne];omega
   refine If.mk hy0 (If.mk hy0 ?_)
   have hq0:0<=lo/y:=Int.ediv_nonneg hl'.1 hy'.1
   have hq1:lo/y<=lo:=Int.ediv_le_self _ hl'.1
   rw [Int.tdiv_eq_ediv_of_nonneg hl'.1,Int.tmod_eq_emod_of_nonneg hl'.1,fB,show lo/y%18446744073709551616=lo/y by omega]
   rw [Int.zero_mul,Int.zero_add] at hK
   exact hK
def ZF :List SV->List (Option SB)->Option (Bool×SV×List (Option SB)×List Nat)
 | [.int .u64 hi,.int .u64 lo,.int .u64 y],[]=>some (decide (hi<y),.tup [.int .u64 ((hi*18446744073709551616+lo)/y),.int .u64 ((hi*18446744073709551616+lo)%y)],[],[])
 |_,_=>none
noncomputable def k7 :bT Tryz.prog:=(k6).add 193 (lI ZF) (d6 fun xs σ v σ' d h=>by
  unfold ZF at h;split at h
  ·simp only [Option.some.injEq,Prod.mk.injEq] at h
   obtain ⟨h1,rfl,rfl,rfl⟩:=h
   first|exact cF h1|exact cF _ h1|exact cF _ _ h1|exact cF _ _ _ h1|exact cF _ _ _ _ h1|exact cF _ _ _ _ _ h1|exact cF _ _ _ _ _ _ h1|exact cF _ _ _ _ _ _ _ h1|exact cF _ _ _ _ _ _ _ _ h1|exact cF _ _ _ _ _ _ _ _ _ h1|exact cF _ _ _ _ _ _ _ _ _ _ h1|exact cF _ _ _ _ _ _ _ _ _ _ _ h1|exact cF _ _ _ _ _ _ _ _ _ _ _ _ h1|exact cF (of_decide_eq_true h1)|exact cF _ (of_decide_eq_true h1)|exact cF _ _ (of_decide_eq_true h1)|exact cF _ _ _ (of_decide_eq_true h1)|exact cF _ _ _ _ (of_decide_eq_true h1)|exact cF _ _ _ _ _ (of_decide_eq_true h1)|exact cF _ _ _ _ _ _ (of_decide_eq_true h1)|exact cF _ _ _ _ _ _ _ (of_decide_eq_true h1)|exact cF _ _ _ _ _ _ _ _ (of_decide_eq_true h1)|exact cF _ _ _ _ _ _ _ _ _ (of_decide_eq_true h1)|exact cF _ _ _ _ _ _ _ _ _ _ (of_decide_eq_true h1)|exact cF _ _ _ _ _ _ _ _ _ _ _ (of_decide_eq_true h1)|exact cF _ _ _ _ _ _ _ _ _ _ _ _ (of_decide_eq_true h1)
  ·cases h)
theorem SE(a b c:Int)(K:KC):n9 0 k7 2 150 [.agg [.int .i64 a,.int .u64 b],.int .i64 c] [] K=dvP (wv a b) c K:=by kernel_rfl
theorem lU(a b c:Int):aD Tryz.prog 150 [.agg [.int .i64 a,.int .u64 b],.int .i64 c] [] (.tup [.int .i64 (nI (wv a b) c),.bool (i0 (wv a b) c)]) [] []:=
 RG 0 k7 2 (fun _ h=>nomatch h) fun ⟨⟨ha,hb,_⟩,hc,_⟩ _ K hK=>by
  have ha': -9223372036854775808<=a/\a<=9223372036854775807:=ha
  have hb':0<=b/\b<=18446744073709551615:=hb
  rw [SE]
  exact aBC (by unfold wv;omega) (by unfold wv;omega) hc.1 hc.2 (hK [] fun _ h=>nomatch h)
def aFJ :List SV->List (Option SB)->Out
 | [.agg [.int .i64 a,.int .u64 b],.int .i64 c],[]=>some (.tup [.int .i64 (nI (wv a b) c),.bool (i0 (wv a b) c)],[],[])
 |_,_=>none
noncomputable def k8 :bT Tryz.prog:=(k7).add 150 (one aFJ) (bD fun xs σ v σ' d h=>by
  unfold aFJ at h;split at h<;>cases h;first|exact lU|exact lU _|exact lU _ _|exact lU _ _ _|exact lU _ _ _ _|exact lU _ _ _ _ _|exact lU _ _ _ _ _ _|exact lU _ _ _ _ _ _ _|exact lU _ _ _ _ _ _ _ _|exact lU _ _ _ _ _ _ _ _ _|exact lU _ _ _ _ _ _ _ _ _ _|exact lU _ _ _ _ _ _ _ _ _ _ _)
end Go.Proofs.YtghnfjfkjhbgdaaGreatDoor
namespace Go.Se
def dv(a b c d:Int):Int:=a+b*4294967296+c*18446744073709551616+d*79228162514264337593543950336
def dOk(a b c d:Int):Bool:=decide (a<4294967296)&&decide (b<4294967296)&&decide (c<4294967296)&&decide (d<4294967296)
def aEw(X:Int):List SV:=[.int .u64 (X%4294967296),.int .u64 (X/4294967296%4294967296),.int .u64 (X/18446744073709551616%4294967296),.int .u64 (X/79228162514264337593543950336%4294967296)]
theorem P6{a b c d:Int}:dOk a b c d=true↔a<4294967296/\b<4294967296/\c<4294967296/\d<4294967296:=by
 unfold dOk;simp only [Bool.and_eq_true,decide_eq_true_eq,and_assoc]
theorem aDZ{a b c d X:Int}(h:dOk a b c d=true)(ha:0<=a)(hb:0<=b)(hc:0<=c)(hd:0<=d)(hX:dv a b c d=X):
  ([.int .u64 a,.int .u64 b,.int .u64 c,.int .u64 d]:List SV)=aEw X:=by
 rw [P6] at h
 unfold dv at hX
 unfold aEw
 rw [show a=X%4294967296 by omega,show b=X/4294967296%4294967296 by omega,show c=X/18446744073709551616%4294967296 by omega,show d=X/79228162514264337593543950336%4294967296 by omega]
theorem lE(x:Int):0<=bG x:=by
 unfold bG
 cases h:decide (x<0)
 ·have:=of_decide_eq_false h;simp only [cond_false];omega
 ·have:=of_decide_eq_true h;simp only [cond_true];omega
theorem QS{x B:Int}(h0: -B<x)(h1:x<B):bG x<B:=by
 unfold bG
 cases decide (x<0)
 ·simp only [cond_false];omega
 ·simp only [cond_true];omega
end Go.Se
namespace Go.Se
abbrev aDe :=Option (Bool×SV×List (Option SB)×List Nat)
theorem x6(x:Int):fN x=true↔ -170141183460469231731687303715884105728<=x/\x<170141183460469231731687303715884105728:=by
 unfold fN;simp only [Bool.and_eq_true,decide_eq_true_eq]
end Go.Se
namespace Go.Se
end Go.Se
namespace Go.Se
structure Is4 (X a b c d:Int):Prop where
 a0:0<=a
 a1:a<4294967296
 b0:0<=b
 b1:b<4294967296
 c0:0<=c
 c1:c<4294967296
 d0:0<=d
 d1:d<4294967296
 eq:dv a b c d=X
theorem Is4.list{X a b c d:Int}(h:Is4 X a b c d):([.int .u64 a,.int .u64 b,.int .u64 c,.int .u64 d]:List SV)=aEw X:=
 aDZ (P6.2 ⟨h.a1,h.b1,h.c1,h.d1⟩) h.a0 h.b0 h.c0 h.d0 h.eq
end Go.Se
namespace Go.Proofs.YtghnfjfkjhbgdaaGreatDoor
open Go.Se
set_option maxRecDepth 100000
noncomputable def q1 :bT Tryz.prog:=k0
end Go.Proofs.YtghnfjfkjhbgdaaGreatDoor
namespace Go.Proofs.YtghnfjfkjhbgdaaGreatDoor
open Go.Se
set_option maxRecDepth 100000
noncomputable def q2 :bT Tryz.prog:=q1
end Go.Proofs.YtghnfjfkjhbgdaaGreatDoor
namespace Go.Proofs.YtghnfjfkjhbgdaaGreatDoor
open Go.Se
set_option maxRecDepth 100000
end Go.Proofs.YtghnfjfkjhbgdaaGreatDoor
namespace Go.Proofs.YtghnfjfkjhbgdaaGreatDoor
open Go.Se
set_option maxRecDepth 100000
noncomputable def q3 :bT Tryz.prog:=q2
end Go.Proofs.YtghnfjfkjhbgdaaGreatDoor
namespace Go.Se
theorem aAq(x:Int):0<=x*x:=by rw [<- Int.natAbs_mul_self];omega
end Go.Se
namespace Go.Proofs.YtghnfjfkjhbgdaaGreatDoor
open Go.Se
set_option maxRecDepth 100000
noncomputable def q4 :bT Tryz.prog:=q3
end Go.Proofs.YtghnfjfkjhbgdaaGreatDoor
namespace Go.Proofs.YtghnfjfkjhbgdaaGreatDoor
open Go.Se
set_option maxRecDepth 100000
def RN :List (Nat×eR):=[(0,⟨[8,2,3,4,5,6,7],[0,1,2,3,4,5],[4,5],6,[]⟩)]
def d4(a b c d:Int):List SV:=[.int .u64 a,.int .u64 b,.int .u64 c,.int .u64 d]
noncomputable def q5 :bT Tryz.prog:=q4
end Go.Proofs.YtghnfjfkjhbgdaaGreatDoor
namespace Go.Se
theorem jS(x:Int):rD x=true↔ -9223372036854775808<=x/\x<=9223372036854775807:=by unfold rD;simp only [Bool.and_eq_true,decide_eq_true_eq]
end Go.Se
namespace Go.Proofs.YtghnfjfkjhbgdaaGreatDoor
open Go.Se
set_option maxRecDepth 100000
noncomputable def q6 :bT Tryz.prog:=q5
end Go.Proofs.YtghnfjfkjhbgdaaGreatDoor
namespace Go.Se
def pF :Nat->Int->Int->Int->List Int->List Int
 |0,_,_,_,l=>l
 |f+1,u,least,j,l=>bif decide (u>0)||decide (j<least) then pF f (u/10) least (j+1) ((48+u%10)::l) else l
def bF(u least:Int):List Int:=pF 20 u least 0 []
theorem jT(a b:List Int):bytesOf a++bytesOf b=bytesOf (a++b):=by
 unfold bytesOf
 apply ByteArray.ext
 simp
theorem aR(a:List Int):(bytesOf a).size=a.length:=by simp [bytesOf,ByteArray.size]
def QK :List SV->List (Option SB)->Option (Bool×SV×List (Option SB)×List Nat)
 | [.int .u64 u,.int .i64 least],[]=>some (decide (least<=20),.str (bytesOf (bF u least)),[],[])
 |_,_=>none
end Go.Se
namespace Go.Se
theorem jC(a b:ByteArray):(a==b)=(a.data==b.data):=rfl
theorem eQ(f:Nat)(u least j:Int)(l:List Int):pF (f+1) u least j l=bif decide (u>0)||decide (j<least) then pF f (u/10) least (j+1) ((48+u%10)::l) else l:=rfl
theorem E2(l:List Int):(bytesOf l==⟨#[]⟩)=decide (l.length<1):=by
 rw [Bool.eq_iff_iff,jC,beq_iff_eq,decide_eq_true_eq]
 constructor
 ·intro h
  have h:bytesOf l=⟨#[]⟩:=ByteArray.ext h
  have:=congrArg ByteArray.size h
  rw [aR] at this
  simp [ByteArray.size] at this
  simp [this]
 ·intro h
  have:l=[]:=by cases l with
   |nil=>rfl
   |cons a l=>simp at h
  subst this;rfl
theorem sL : ∀(f:Nat) (u least j:Int) (l:List Int),(pF f u least j l).length<=l.length+f
 |0,_,_,_,l=>by simp [pF]
 |f+1,u,least,j,l=>by
  unfold pF
  cases decide (u>0)||decide (j<least)
  ·simp only [cond_false];omega
  ·simp only [cond_true]
   have:=sL f (u/10) least (j+1) ((48+u%10)::l)
   simp only [List.length_cons] at this
   omega
end Go.Se
namespace Go.Se
def aA(s:ByteArray):List Int:=s.data.toList.map fun b=>(b.toNat:Int)
def oY :List Int->List Int
 | []=>[]
 |a::r=>bif a==48 then oY r else a::r
def kA(l:List Int):List Int:=(oY l.reverse).reverse
def mZ(s:ByteArray):ByteArray:=bytesOf (kA (aA s))
def bB(l:List Int):Prop:= ∀x,x∈l->0<=x/\x<=255
theorem dO(s:ByteArray):bytesOf (aA s)=s:=by
 unfold bytesOf aA
 apply ByteArray.ext
 rw [List.map_map]
 have:((fun n:Int=>UInt8.ofNat n.toNat)∘fun b:UInt8=>(b.toNat:Int))=id:=by
  funext b
  simp
 rw [this,List.map_id]
theorem cG{l:List Int}(h:bB l):aA (bytesOf l)=l:=by
 unfold bytesOf aA
 simp only [List.map_map]
 conv=>rhs;rw [<- List.map_id l]
 refine List.map_congr_left fun x hx=> ?_
 have:=h x hx
 simp only [Function.comp,id_eq,UInt8.toNat_ofNat']
 omega
theorem cQ(s:ByteArray):bB (aA s):=fun x hx=>by
 unfold aA at hx
 obtain ⟨b,_,rfl⟩:=List.mem_map.1 hx
 have:=b.toNat_lt
 omega
def YM(s:ByteArray):Int:=((s.data.getD (IntKind.i64.wrap ((s.size:Int) - 1)).toNat 0).toNat:Int)
def aEZ(s:ByteArray):ByteArray:=s.extract ((0:Nat):Int).toNat (IntKind.i64.wrap ((s.size:Int) - 1)).toNat
theorem tY{a:Int}{r:List Int}(h:(a::r).length<9223372036854775808):(IntKind.i64.wrap (((bytesOf (a::r).reverse).size:Int) - 1))=(r.length:Int):=by
 rw [aR,gY]
 simp only [List.length_reverse,List.length_cons] at h|-
 omega
theorem OA{a:Int}{r:List Int}(h:(a::r).length<9223372036854775808)(ha:0<=a)(ha':a<=255):YM (bytesOf (a::r).reverse)=a:=by
 unfold YM
 rw [tY h]
 have:(bytesOf (a::r).reverse).data=((r.reverse.map fun n=>UInt8.ofNat n.toNat)++[UInt8.ofNat a.toNat]).toArray:=by simp [bytesOf]
 rw [this]
 simp only [Int.toNat_natCast,Array.getD_eq_getD_getElem?,List.getElem?_toArray]
 rw [List.getElem?_append_right (by simp)]
 simp
 omega
theorem R1{a:Int}{r:List Int}(h:(a::r).length<9223372036854775808):aEZ (bytesOf (a::r).reverse)=bytesOf r.reverse:=by
 unfold aEZ
 rw [tY h]
 apply ByteArray.ext
 simp only [bytesOf,ByteArray.data_extract,List.reverse_cons,List.map_append,List.map_cons,List.map_nil,Int.toNat_natCast]
 simp
theorem x8 : ∀(f:Nat) (u least j:Int) (l:List Int),0<=u->(∀x,x∈l->48<=x/\x<=57)-> ∀x,x∈pF f u least j l->48<=x/\x<=57
 |0,_,_,_,l,_,h=>h
 |f+1,u,least,j,l,hu,h=>by
  rw [eQ]
  cases decide (u>0)||decide (j<least)
  ·exact h
  ·refine x8 f (u/10) least (j+1) _ (by omega) fun x hx=> ?_
   rcases List.mem_cons.1 hx with rfl|hx
   ·omega
   ·exact h x hx
theorem d8{u least:Int}(hu:0<=u): ∀x,x∈bF u least->48<=x/\x<=57:=x8 20 u least 0 [] hu fun x hx=>by cases hx
theorem B0(x:Int): ∀(f:Nat) (u least j:Int) (l:List Int),x∈l->x∈pF f u least j l
 |0,_,_,_,l,h=>h
 |f+1,u,least,j,l,h=>by
  rw [eQ]
  cases decide (u>0)||decide (j<least)
  ·exact h
  ·exact B0 x f _ _ _ _ (List.mem_cons_of_mem _ h)
theorem FY : ∀(f:Nat) (u least j:Int) (l:List Int),0<u->u<10^f-> ∃x,x∈pF f u least j l/\x≠48
 |0,u,_,_,_,h0,h1=>by simp at h1;omega
 |f+1,u,least,j,l,h0,h1=>by
  rw [eQ,decide_eq_true h0]
  simp only [Bool.true_or,cond_true]
  have hp:(10:Int)^(f+1)=10^f*10:=Int.pow_succ 10 f
  by_cases h:u%10=0
  ·exact FY f (u/10) least (j+1) _ (by omega) (by omega)
  ·exact ⟨48+u%10,B0 _ _ _ _ _ _ (List.mem_cons_self ..),by omega⟩
def rP(l:List Int):List Int:=List.replicate (10 - l.length) 48++l
theorem PM(l:List Int)(h:l.length<10):rP (48::l)=rP l:=by
 unfold rP
 rw [List.length_cons,show 10 - l.length=(10 - (l.length+1))+1 by omega,List.replicate_succ']
 simp
theorem yJ : ∀(f:Nat) (j:Nat) (l:List Int),l.length=j->j+f=20->pF f 0 10 j l=rP l
 |0,j,l,hl,hj=>by
  unfold rP
  rw [show 10 - l.length=0 by omega];rfl
 |f+1,j,l,hl,hj=>by
  rw [eQ,show decide ((0:Int)>0)=false from rfl,Bool.false_or]
  by_cases h:j<10
  ·rw [decide_eq_true (show (j:Int)<10 by omega)]
   have:=yJ f (j+1) (48::l) (by simp [hl]) (by omega)
   push_cast at this
   simp only [cond_true]
   rw [show (0:Int)/10=0 by decide,show (48+(0:Int)%10)=48 by decide,this]
   exact PM l (by omega)
  ·rw [decide_eq_false (show¬(j:Int)<10 by omega)]
   simp only [cond_false]
   unfold rP
   rw [show 10 - l.length=0 by omega];rfl
theorem K9 : ∀(f:Nat) (u:Int) (j:Nat) (l:List Int),l.length=j->j+f=20->0<=u->u<10^f->(0<u\/1<=j)->pF f u 10 j l=rP (pF f u 1 j l)
 |0,u,j,l,hl,hj,h0,h1,h2=>by
  unfold rP
  show l=List.replicate (10 - l.length) 48++l
  rw [show 10 - l.length=0 by omega];rfl
 |f+1,u,j,l,hl,hj,h0,h1,h2=>by
  have hp:(10:Int)^(f+1)=10^f*10:=Int.pow_succ 10 f
  by_cases hu:0<u
  ·rw [eQ,eQ,decide_eq_true (show u>0 from hu)]
   simp only [Bool.true_or,cond_true]
   have:=K9 f (u/10) (j+1) ((48+u%10)::l) (by simp [hl]) (by omega) (by omega) (by omega) (.inr (by omega))
   push_cast at this
   exact this
  ·have:u=0:=by omega
   subst this
   rw [yJ (f+1) j l hl hj,eQ,show decide ((0:Int)>0)=false from rfl,decide_eq_false (show¬(j:Int)<1 by omega)]
   rfl
theorem M9{u:Int}(h0:0<u)(h1:u<18446744073709551616):bF u 10=rP (bF u 1):=
 K9 20 u 0 [] rfl rfl (by omega) (by omega) (.inl h0)
theorem B8 : ∀{r:List Int},(∃x,x∈r/\x≠48)->oY r≠[]
 | [],⟨x,h,_⟩=>nomatch h
 |a::r,⟨x,h,hx⟩=>by
  unfold oY
  by_cases ha:a=48
  ·subst ha
   rcases List.mem_cons.1 h with rfl|h
   ·exact absurd rfl hx
   ·exact B8 ⟨x,h,hx⟩
  ·rw [show (a==48)=false by simpa using ha]
   simp
def bV(u:Int):Int:=nI (u%4294967296*10000000000) 4294967296
def kI(n:Int):List Int:=bif decide (n<0) then [45] else []
def aJ(n:Int):List Int:=kI n++bF (bG n) 1
def aC(n:Int):List Int:=
 kI n++(bF (bG n/4294967296) 1++bif bV (bG n)==0 then [] else 46::kA (bF (bV (bG n)) 10))
theorem nV{u:Int}(_hu:0<=u):0<=bV u/\bV u<=10000000000:=by
 unfold bV nI i0 DM iR
 have h0:0<=u%4294967296*10000000000:=by omega
 have h1:u%4294967296*10000000000<=4294967295*10000000000:=by omega
 rw [show bG (u%4294967296*10000000000)=u%4294967296*10000000000 by unfold bG;rw [decide_eq_false (show¬u%4294967296*10000000000<0 by omega)];rfl]
 rw [show bG 4294967296=4294967296 by decide,decide_eq_false (show¬u%4294967296*10000000000<0 by omega)]
 generalize u%4294967296*10000000000=p at*
 rw [show (false !=decide ((4294967296:Int)<0))=false by decide]
 simp only [cond_false]
 cases hc:(decide (p%4294967296>4294967296 - p%4294967296)||(p%4294967296==4294967296 - p%4294967296&&p/4294967296%2==1))&&decide (p%4294967296>0)
 ·simp only [cond_false]
  cases hg:((4294967296:Int) !=0&&rD (p/4294967296))
  ·simp only [cond_false];omega
  ·simp only [cond_true];omega
 ·simp only [cond_true]
  cases hg:((4294967296:Int) !=0&&rD (p/4294967296+1))
  ·simp only [cond_false];omega
  ·simp only [cond_true];omega
end Go.Se
namespace Go.Se
theorem bU(s:ByteArray):(aA s).length=s.size:=by
 unfold aA
 rw [List.length_map,Array.length_toList];rfl
end Go.Se
namespace Go.Se
theorem pN : ∀r:List Int,(oY r).length<=r.length
 | []=>Nat.le_refl _
 |a::r=>by
  unfold oY
  cases a==48
  ·exact Nat.le_refl _
  ·have:=pN r
   simp only [cond_true,List.length_cons];omega
theorem qN(l:List Int):(kA l).length<=l.length:=by
 unfold kA
 have:=pN l.reverse
 rw [List.length_reverse] at this|-
 exact this
theorem DR{u least:Int}(hu:0<=u):bB (bF u least):=fun x hx=>by
 have:=d8 hu x hx
 omega
theorem IX{l:List Int}(h:bB l):mZ (bytesOf l)=bytesOf (kA l):=by
 unfold mZ
 rw [cG h]
theorem iU(u least:Int):(bF u least).length<=20:=by
 have:=sL 20 u least 0 []
 rw [List.length_nil,Nat.zero_add] at this
 exact this
def aFw(x:Int):Int:=IntKind.u64.wrap ↑(BitVec.ofInt IntKind.u64.bits x&&&BitVec.ofInt IntKind.u64.bits 4294967295).toNat
def QA(sg:ByteArray)(u:Int)(K:KC):Prop:=
 (fun h p=>If (decide (sg.size+h.size<9223372036854775808)) ((fun d=>Br (decide (d>0)) (If (decide ((⟨#[46]⟩:ByteArray).size+(mZ (bytesOf (bF (IntKind.u64.wrap d) 10))).size<9223372036854775808))
   (If (decide ((sg++h).size+((⟨#[46]⟩:ByteArray)++mZ (bytesOf (bF (IntKind.u64.wrap d) 10))).size<9223372036854775808)) (K (.str ((sg++h)++((⟨#[46]⟩:ByteArray)++mZ (bytesOf (bF (IntKind.u64.wrap d) 10))))) [] [])))
  (K (.str (sg++h)) [] [])) (nI (wv (p/18446744073709551616) (p%18446744073709551616)) 4294967296)))
  (bytesOf (bF (u.fdiv (2^min (32:Int).toNat IntKind.u64.bits)) 1)) (IntKind.i64.wrap (aFw u)*10000000000)
def vJ(u:Int):List Int:=bif bV u==0 then [] else 46::kA (bF (bV u) 10)
theorem FO {sg:List Int} {u:Int} {K:KC} (h0:0<=u) (h1:u<=9223372036854775808) (hs:sg.length<=1)
  (hK:K (.str (bytesOf (sg++(bF (u/4294967296) 1++vJ u)))) [] []):QA (bytesOf sg) u K:=by
 have hm:aFw u=u%4294967296:=by
  unfold aFw;rw [fB]
  show (((BitVec.ofInt 64 u&&&BitVec.ofInt 64 4294967295).toNat:Nat):Int)%_=_
  rw [HO u h0 (by omega)];omega
 have hw:IntKind.i64.wrap (u%4294967296)=u%4294967296:=by rw [gY];omega
 have hd:u.fdiv (2^min (32:Int).toNat IntKind.u64.bits)=u/4294967296:=by
  show u.fdiv 4294967296=_
  exact iV _ (by decide)
 have hf:=nV h0
 have hwf:IntKind.u64.wrap (bV u)=bV u:=by rw [fB];omega
 have l1:=iU (u/4294967296) 1
 have l2:=iU (bV u) 10
 have l3:=qN (bF (bV u) 10)
 unfold QA
 rw [hm,hw,hd]
 show If _ (Br _ _ _)
 rw [qA]
 show If _ (Br (decide (bV u>0)) (If (decide ((⟨#[46]⟩:ByteArray).size+(mZ (bytesOf (bF (IntKind.u64.wrap (bV u)) 10))).size<9223372036854775808))
   (If (decide ((bytesOf sg++bytesOf (bF (u/4294967296) 1)).size+((⟨#[46]⟩:ByteArray)++mZ (bytesOf (bF (IntKind.u64.wrap (bV u)) 10))).size<9223372036854775808)) (K (.str ((bytesOf sg++bytesOf (bF (u/4294967296) 1))++((⟨#[46]⟩:ByteArray)++mZ (bytesOf (bF (IntKind.u64.wrap (bV u)) 10))))) [] [])))
  (K (.str (bytesOf sg++bytesOf (bF (u/4294967296) 1))) [] []))
 rw [hwf,IX (DR hf.1),show (⟨#[46]⟩:ByteArray)=bytesOf [46] from rfl,jT,jT,jT,aR,aR,aR,aR,aR,aR]
 unfold vJ at hK
 refine If.mk (decide_eq_true (by omega)) (Br.of (fun c=>If.mk (decide_eq_true ?_) (If.mk (decide_eq_true ?_) ?_)) fun c=> ?_)
 ·simp only [List.length_cons,List.length_nil];omega
 ·simp only [List.length_append,List.length_cons,List.length_nil];omega
 ·have:=of_decide_eq_true c
  rw [show (bV u==0)=false by rw [beq_eq_false_iff_ne];omega] at hK
  rw [List.append_assoc]
  exact hK
 ·have:=of_decide_eq_false c
  rw [show (bV u==0)=true by rw [beq_iff_eq];omega] at hK
  simp only [cond_true,List.append_nil] at hK
  exact hK
end Go.Se
namespace Go.Proofs.YtghnfjfkjhbgdaaGreatDoor
open Go.Se
set_option maxRecDepth 100000
abbrev aDd :FuncId:=63
def DV :List (Nat×eR):=[(0,⟨[0,1,6,5,4],[0],[0],1,[]⟩)]
def I6(u least:Int)(j:Nat)(dl:List SV):St:=
 ⟨[(0,.int .u64 u),(1,.int .i64 least),(6,.int .i64 (20 - (j:Int))),(5,.ptr 0 0),(4,.str ⟨#[]⟩)],[(0,some (.cells 159 (List.replicate (20 - j) (.int .u8 0)++dl)))],1,[0],28⟩
abbrev qJ :List Nat:=[1,1,1,0,0]
noncomputable abbrev MN :Env:=fW DV (fun _=>0) k0 1
theorem UK(K:KC)(u least:Int):eA DV (fun _=>0) k0 2 aDd [.int .u64 u,.int .i64 least] [] K=
  ∃n,bO MN (aB DV 0) Tryz.f63 qJ 0 0 K n (I6 u least 0 []):=by kernel_rfl
def NX(l:List Int):List SV:=l.map fun n=> .int .u8 n
def aAM(K:Ex->St->Prop)(u least:Int)(j:Nat)(l:List Int):Prop:=
 K .normal (I6 (IntKind.u64.wrap (u.tdiv 10)) least (j+1) (NX (IntKind.u8.wrap (IntKind.u64.wrap (48+u.tmod 10))::l)))
theorem VK(K:Ex->St->Prop)(u least:Int): ∀(j:Nat),j<20-> ∀l:List Int,l.length=j->aF MN (aB DV 0) Tryz.f63 qJ 0 K (I6 u least j (NX l))=
  Br (decide (u>0)) (aAM K u least j l) (Br (decide ((j:Int)<least)) (aAM K u least j l) (K (.exit 0) (I6 u least j (NX l))))
 |0,_,[],_=>by kernel_rfl
 |1,_,[a0],_=>by kernel_rfl
 |2,_,[a0,a1],_=>by kernel_rfl
 |3,_,[a0,a1,a2],_=>by kernel_rfl
 |4,_,[a0,a1,a2,a3],_=>by kernel_rfl
 |5,_,[a0,a1,a2,a3,a4],_=>by kernel_rfl
 |6,_,[a0,a1,a2,a3,a4,a5],_=>by kernel_rfl
 |7,_,[a0,a1,a2,a3,a4,a5,a6],_=>by kernel_rfl
 |8,_,[a0,a1,a2,a3,a4,a5,a6,a7],_=>by kernel_rfl
 |9,_,[a0,a1,a2,a3,a4,a5,a6,a7,a8],_=>by kernel_rfl
 |10,_,[a0,a1,a2,a3,a4,a5,a6,a7,a8,a9],_=>by kernel_rfl
 |11,_,[a0,a1,a2,a3,a4,a5,a6,a7,a8,a9,a10],_=>by kernel_rfl
 |12,_,[a0,a1,a2,a3,a4,a5,a6,a7,a8,a9,a10,a11],_=>by kernel_rfl
 |13,_,[a0,a1,a2,a3,a4,a5,a6,a7,a8,a9,a10,a11,a12],_=>by kernel_rfl
 |14,_,[a0,a1,a2,a3,a4,a5,a6,a7,a8,a9,a10,a11,a12,a13],_=>by kernel_rfl
 |15,_,[a0,a1,a2,a3,a4,a5,a6,a7,a8,a9,a10,a11,a12,a13,a14],_=>by kernel_rfl
 |16,_,[a0,a1,a2,a3,a4,a5,a6,a7,a8,a9,a10,a11,a12,a13,a14,a15],_=>by kernel_rfl
 |17,_,[a0,a1,a2,a3,a4,a5,a6,a7,a8,a9,a10,a11,a12,a13,a14,a15,a16],_=>by kernel_rfl
 |18,_,[a0,a1,a2,a3,a4,a5,a6,a7,a8,a9,a10,a11,a12,a13,a14,a15,a16,a17],_=>by kernel_rfl
 |19,_,[a0,a1,a2,a3,a4,a5,a6,a7,a8,a9,a10,a11,a12,a13,a14,a15,a16,a17,a18],_=>by kernel_rfl
 |j+20,h,_,_=>absurd h (by omega)
theorem K5(K:Ex->St->Prop)(u least:Int): ∀l:List Int,l.length=20->aF MN (aB DV 0) Tryz.f63 qJ 0 K (I6 u least 20 (NX l))=
  Br (decide (u>0)) False (Br (decide ((20:Int)<least)) False (K (.exit 0) (I6 u least 20 (NX l))))
 | [a0,a1,a2,a3,a4,a5,a6,a7,a8,a9,a10,a11,a12,a13,a14,a15,a16,a17,a18,a19],_=>by kernel_rfl
theorem F5(K:KC)(u least:Int): ∀(j:Nat),j<=20-> ∀l:List Int,l.length=j->aE MN (aB DV 0) Tryz.f63 qJ 0 K (.exit 0) (I6 u least j (NX l))=K (.str (bytesOf l)) [] []
 |0,_,[],_=>by kernel_rfl
 |1,_,[a0],_=>by kernel_rfl
 |2,_,[a0,a1],_=>by kernel_rfl
 |3,_,[a0,a1,a2],_=>by kernel_rfl
 |4,_,[a0,a1,a2,a3],_=>by kernel_rfl
 |5,_,[a0,a1,a2,a3,a4],_=>by kernel_rfl
 |6,_,[a0,a1,a2,a3,a4,a5],_=>by kernel_rfl
 |7,_,[a0,a1,a2,a3,a4,a5,a6],_=>by kernel_rfl
 |8,_,[a0,a1,a2,a3,a4,a5,a6,a7],_=>by kernel_rfl
 |9,_,[a0,a1,a2,a3,a4,a5,a6,a7,a8],_=>by kernel_rfl
 |10,_,[a0,a1,a2,a3,a4,a5,a6,a7,a8,a9],_=>by kernel_rfl
 |11,_,[a0,a1,a2,a3,a4,a5,a6,a7,a8,a9,a10],_=>by kernel_rfl
 |12,_,[a0,a1,a2,a3,a4,a5,a6,a7,a8,a9,a10,a11],_=>by kernel_rfl
 |13,_,[a0,a1,a2,a3,a4,a5,a6,a7,a8,a9,a10,a11,a12],_=>by kernel_rfl
 |14,_,[a0,a1,a2,a3,a4,a5,a6,a7,a8,a9,a10,a11,a12,a13],_=>by kernel_rfl
 |15,_,[a0,a1,a2,a3,a4,a5,a6,a7,a8,a9,a10,a11,a12,a13,a14],_=>by kernel_rfl
 |16,_,[a0,a1,a2,a3,a4,a5,a6,a7,a8,a9,a10,a11,a12,a13,a14,a15],_=>by kernel_rfl
 |17,_,[a0,a1,a2,a3,a4,a5,a6,a7,a8,a9,a10,a11,a12,a13,a14,a15,a16],_=>by kernel_rfl
 |18,_,[a0,a1,a2,a3,a4,a5,a6,a7,a8,a9,a10,a11,a12,a13,a14,a15,a16,a17],_=>by kernel_rfl
 |19,_,[a0,a1,a2,a3,a4,a5,a6,a7,a8,a9,a10,a11,a12,a13,a14,a15,a16,a17,a18],_=>by kernel_rfl
 |20,_,[a0,a1,a2,a3,a4,a5,a6,a7,a8,a9,a10,a11,a12,a13,a14,a15,a16,a17,a18,a19],_=>by kernel_rfl
 |j+21,h,_,_=>absurd h (by omega)
end Go.Proofs.YtghnfjfkjhbgdaaGreatDoor
namespace Go.Proofs.YtghnfjfkjhbgdaaGreatDoor
open Go.Se
set_option maxRecDepth 100000
theorem K3(K:KC)(least:Int)(hl:least<=20): ∀(f:Nat) (u:Int) (j:Nat) (l:List Int),j+f=20->l.length=j->0<=u->u<10^f->u<18446744073709551616->K (.str (bytesOf (pF f u least j l))) [] []->
  bO MN (aB DV 0) Tryz.f63 qJ 0 0 K (f+1) (I6 u least j (NX l))
 |0,u,j,l,hj,hlen,h0,h1,h2,hK=>by
  have:j=20:=by omega
  subst this
  have hu:u=0:=by simp at h1;omega
  subst hu
  rw [jB,K5 _ _ _ l hlen]
  refine Br.of (fun c=>absurd (of_decide_eq_true c) (by decide)) fun _=>Br.of (fun c=> ?_) fun _=> ?_
  ·have:=of_decide_eq_true c;omega
  ·show aE _ _ _ _ _ _ _ _
   rw [F5 _ _ _ 20 (Nat.le_refl _) l hlen]
   exact hK
 |f+1,u,j,l,hj,hlen,h0,h1,h2,hK=>by
  rw [jB,VK _ _ _ j (by omega) l hlen]
  have hp:(10:Int)^(f+1)=10^f*10:=Int.pow_succ 10 f
  rw [eQ] at hK
  have next:(decide (u>0)||decide ((j:Int)<least))=true->aAM (fun e s=>match e with
    | .normal=>bO MN (aB DV 0) Tryz.f63 qJ 0 0 K (f+1) s
    |e=>aE MN (aB DV 0) Tryz.f63 qJ 0 K e s) u least j l:=fun e=>by
   rw [e] at hK
   show bO _ _ _ _ _ _ _ _ _
   have hd:IntKind.u8.wrap (IntKind.u64.wrap (48+u.tmod 10))=48+u%10:=by
    rw [Int.tmod_eq_emod_of_nonneg h0,fB,wu8];omega
   rw [hd,Int.tdiv_eq_ediv_of_nonneg h0,fB,show u/10%18446744073709551616=u/10 by omega]
   exact K3 K least hl f (u/10) (j+1) _ (by omega) (by simp [hlen]) (by omega) (by omega) (by omega) (by push_cast;exact hK)
  refine Br.of (fun c=>next ?_) fun c=>Br.of (fun d=>next ?_) fun d=> ?_
  ·rw [c];rfl
  ·rw [c,d];rfl
  ·rw [c,d] at hK
   show aE _ _ _ _ _ _ _ _
   rw [F5 _ _ _ j (by omega) l hlen]
   exact hK
theorem bN(u least:Int)(hx:decide (least<=20)=true):aD Tryz.prog aDd [.int .u64 u,.int .i64 least] [] (.str (bytesOf (bF u least))) [] []:=
 iC DV (fun _=>0) k0 2 (fun _ h=>nomatch h) fun ⟨hu,_⟩ _ K hK=>by
  have hu':0<=u/\u<=18446744073709551615:=hu
  rw [UK]
  exact ⟨21,K3 K least (of_decide_eq_true hx) 20 u 0 [] rfl rfl hu'.1 (by omega) (by omega) (hK [] fun _ h=>nomatch h)⟩
end Go.Proofs.YtghnfjfkjhbgdaaGreatDoor
namespace Go.Proofs.YtghnfjfkjhbgdaaGreatDoor
open Go.Se
set_option maxRecDepth 100000
def O5 :List (Nat×eR):=[(0,⟨[0,1,4],[],[],0,[]⟩)]
def NF(s:ByteArray)(c:Int):St:=⟨[(0,.str s),(1,.int .u8 c),(4,.str ⟨#[]⟩)],[],0,[],23⟩
abbrev zS :List Nat:=[1,0,0]
noncomputable abbrev aBP :Env:=fW O5 (fun _=>0) k0 1
theorem UH(K:KC)(s:ByteArray)(c:Int):eA O5 (fun _=>0) k0 2 195 [.str s,.int .u8 c] [] K= ∃n,bO aBP (aB O5 0) Tryz.f195 zS 0 0 K n (NF s c):=by kernel_rfl
def inB(s:ByteArray):Bool:=decide (0<=IntKind.i64.wrap ((s.size:Int) - 1))&&decide (IntKind.i64.wrap ((s.size:Int) - 1)<(s.size:Int))
def inC(s:ByteArray):Bool:=true&&(decide (((0:Nat):Int)<=IntKind.i64.wrap ((s.size:Int) - 1))&&decide (IntKind.i64.wrap ((s.size:Int) - 1)<=(s.size:Int)))
theorem GC(K:Ex->St->Prop)(s:ByteArray)(c:Int):aF aBP (aB O5 0) Tryz.f195 zS 0 K (NF s c)=
  Br (decide ((s.size:Int)>0)) (If (inB s) (Br (YM s==c) (If (inC s) (K .normal (NF (aEZ s) c))) (K (.exit 0) (NF s c)))) (K (.exit 0) (NF s c)):=by kernel_rfl
theorem EL(K:KC)(s:ByteArray)(c:Int):aE aBP (aB O5 0) Tryz.f195 zS 0 K (.exit 0) (NF s c)=K (.str s) [] []:=by kernel_rfl
theorem aEI{a:Int}{r:List Int}(h:(a::r).length<9223372036854775808):inB (bytesOf (a::r).reverse)=true:=by
 unfold inB
 rw [tY h,aR]
 simp only [Bool.and_eq_true,decide_eq_true_eq,List.length_reverse,List.length_cons]
 omega
theorem aDP{a:Int}{r:List Int}(h:(a::r).length<9223372036854775808):inC (bytesOf (a::r).reverse)=true:=by
 unfold inC
 rw [tY h,aR]
 simp only [Bool.true_and,Bool.and_eq_true,decide_eq_true_eq,List.length_reverse,List.length_cons]
 omega
theorem MJ(K:KC): ∀(f:Nat) (r:List Int),r.length=f->bB r->r.length<9223372036854775808->K (.str (bytesOf (oY r).reverse)) [] []->bO aBP (aB O5 0) Tryz.f195 zS 0 0 K (f+1) (NF (bytesOf r.reverse) 48)
 |0,r,hf,_,_,hK=>by
  have:r=[]:=List.length_eq_zero_iff.1 hf
  subst this
  rw [jB,GC]
  refine Br.of (fun c=> ?_) fun _=> ?_
  ·have:=of_decide_eq_true c
   rw [aR] at this
   simp at this
  ·show aE _ _ _ _ _ _ _ _
   rw [EL]
   exact hK
 |f+1,r,hf,hb,hl,hK=>by
  obtain ⟨a,r,rfl⟩: ∃a r',r=a::r':=by
   cases r with
   |nil=>simp at hf
   |cons a r=>exact ⟨a,r,rfl⟩
  have ha:=hb a (List.mem_cons_self ..)
  have hf':r.length=f:=by simpa using hf
  rw [jB,GC,aEI hl,aDP hl,OA hl ha.1 ha.2,R1 hl]
  unfold oY at hK
  refine Br.of (fun _=>If.mk rfl (Br.of (fun c=>If.mk rfl ?_) fun c=> ?_)) fun c=> ?_
  ·rw [c] at hK
   show bO _ _ _ _ _ _ _ _ _
   exact MJ K f r hf' (fun x hx=>hb x (List.mem_cons_of_mem _ hx)) (by simp only [List.length_cons] at hl;omega) hK
  ·rw [c] at hK
   show aE _ _ _ _ _ _ _ _
   rw [EL]
   exact hK
  ·have:=of_decide_eq_false c
   rw [aR] at this
   simp only [List.length_reverse,List.length_cons] at this
   omega
theorem aD1(s:ByteArray):aD Tryz.prog 195 [.str s,.int .u8 48] [] (.str (mZ s)) [] []:=
 iC O5 (fun _=>0) k0 2 (fun _ h=>nomatch h) fun ⟨hs,_⟩ _ K hK=>by
  have hs':s.size<9223372036854775808:=hs
  have hK:=hK [] fun _ h=>nomatch h
  rw [UH]
  have hl:=bU s
  refine ⟨s.size+1, ?_⟩
  have:=MJ K s.size (aA s).reverse (by rw [List.length_reverse,hl]) (fun x hx=>cQ s x (by simpa using hx)) (by rw [List.length_reverse,hl];exact hs') hK
  rw [List.reverse_reverse,dO] at this
  exact this
def aGp :List SV->List (Option SB)->aDe
 | [.str s,.int .u8 c],[]=>some (c==48,.str (mZ s),[],[])
 |_,_=>none
theorem c8(s:ByteArray)(c:Int)(h:(c==48)=true):aD Tryz.prog 195 [.str s,.int .u8 c] [] (.str (mZ s)) [] []:=by
 have:c=48:=by simpa using h
 subst this;exact aD1 s
noncomputable def t1 :bT Tryz.prog:=(((k8).add 195 (lI aGp) (d6 fun xs σ v σ' d h=>by
  unfold aGp at h;split at h
  ·simp only [Option.some.injEq,Prod.mk.injEq] at h
   obtain ⟨h1,rfl,rfl,rfl⟩:=h
   first|exact c8 h1|exact c8 _ h1|exact c8 _ _ h1|exact c8 _ _ _ h1|exact c8 _ _ _ _ h1|exact c8 _ _ _ _ _ h1|exact c8 _ _ _ _ _ _ h1|exact c8 _ _ _ _ _ _ _ h1|exact c8 _ _ _ _ _ _ _ _ h1|exact c8 _ _ _ _ _ _ _ _ _ h1|exact c8 _ _ _ _ _ _ _ _ _ _ h1|exact c8 _ _ _ _ _ _ _ _ _ _ _ h1|exact c8 _ _ _ _ _ _ _ _ _ _ _ _ h1|exact c8 (of_decide_eq_true h1)|exact c8 _ (of_decide_eq_true h1)|exact c8 _ _ (of_decide_eq_true h1)|exact c8 _ _ _ (of_decide_eq_true h1)|exact c8 _ _ _ _ (of_decide_eq_true h1)|exact c8 _ _ _ _ _ (of_decide_eq_true h1)|exact c8 _ _ _ _ _ _ (of_decide_eq_true h1)|exact c8 _ _ _ _ _ _ _ (of_decide_eq_true h1)|exact c8 _ _ _ _ _ _ _ _ (of_decide_eq_true h1)|exact c8 _ _ _ _ _ _ _ _ _ (of_decide_eq_true h1)|exact c8 _ _ _ _ _ _ _ _ _ _ (of_decide_eq_true h1)|exact c8 _ _ _ _ _ _ _ _ _ _ _ (of_decide_eq_true h1)|exact c8 _ _ _ _ _ _ _ _ _ _ _ _ (of_decide_eq_true h1)
  ·cases h)).add 63 (lI QK) (d6 fun xs σ v σ' d h=>by
  unfold QK at h;split at h
  ·simp only [Option.some.injEq,Prod.mk.injEq] at h
   obtain ⟨h1,rfl,rfl,rfl⟩:=h
   first|exact bN h1|exact bN _ h1|exact bN _ _ h1|exact bN _ _ _ h1|exact bN _ _ _ _ h1|exact bN _ _ _ _ _ h1|exact bN _ _ _ _ _ _ h1|exact bN _ _ _ _ _ _ _ h1|exact bN _ _ _ _ _ _ _ _ h1|exact bN _ _ _ _ _ _ _ _ _ h1|exact bN _ _ _ _ _ _ _ _ _ _ h1|exact bN _ _ _ _ _ _ _ _ _ _ _ h1|exact bN _ _ _ _ _ _ _ _ _ _ _ _ h1|exact bN (of_decide_eq_true h1)|exact bN _ (of_decide_eq_true h1)|exact bN _ _ (of_decide_eq_true h1)|exact bN _ _ _ (of_decide_eq_true h1)|exact bN _ _ _ _ (of_decide_eq_true h1)|exact bN _ _ _ _ _ (of_decide_eq_true h1)|exact bN _ _ _ _ _ _ (of_decide_eq_true h1)|exact bN _ _ _ _ _ _ _ (of_decide_eq_true h1)|exact bN _ _ _ _ _ _ _ _ (of_decide_eq_true h1)|exact bN _ _ _ _ _ _ _ _ _ (of_decide_eq_true h1)|exact bN _ _ _ _ _ _ _ _ _ _ (of_decide_eq_true h1)|exact bN _ _ _ _ _ _ _ _ _ _ _ (of_decide_eq_true h1)|exact bN _ _ _ _ _ _ _ _ _ _ _ _ (of_decide_eq_true h1)
  ·cases h)).add 151 (one VV) (bD fun xs σ v σ' d h=>by
  unfold VV at h;split at h<;>cases h;first|exact cO|exact cO _|exact cO _ _|exact cO _ _ _|exact cO _ _ _ _|exact cO _ _ _ _ _|exact cO _ _ _ _ _ _|exact cO _ _ _ _ _ _ _|exact cO _ _ _ _ _ _ _ _|exact cO _ _ _ _ _ _ _ _ _|exact cO _ _ _ _ _ _ _ _ _ _|exact cO _ _ _ _ _ _ _ _ _ _ _)
theorem HV(s:ByteArray):aD Tryz.prog 152 [.str s,.str ⟨#[48]⟩] [] (.str (mZ s)) [] []:=
 aV t1 2 fun _ _ K hK=>by
  have E: ∀K,run t1 2 152 [.str s,.str ⟨#[48]⟩] [] K=Br (s==⟨#[]⟩) (K (.str s) [] []) (K (.str (mZ s)) [] []):=fun K=>by kernel_rfl
  rw [E]
  refine Br.of (fun c=> ?_) fun _=>hK
  have:s=⟨#[]⟩:=by
   rw [jC,beq_iff_eq] at c
   exact ByteArray.ext c
  subst this
  exact hK
def BC :List SV->List (Option SB)->aDe
 | [.str s,.str t],[]=>some (t==⟨#[48]⟩,.str (mZ s),[],[])
 |_,_=>none
theorem aN(s t:ByteArray)(h:(t==⟨#[48]⟩)=true):aD Tryz.prog 152 [.str s,.str t] [] (.str (mZ s)) [] []:=by
 rw [jC,beq_iff_eq] at h
 have:t=⟨#[48]⟩:=ByteArray.ext h
 subst this;exact HV s
noncomputable def t2 :bT Tryz.prog:=(t1).add 152 (lI BC) (d6 fun xs σ v σ' d h=>by
  unfold BC at h;split at h
  ·simp only [Option.some.injEq,Prod.mk.injEq] at h
   obtain ⟨h1,rfl,rfl,rfl⟩:=h
   first|exact aN h1|exact aN _ h1|exact aN _ _ h1|exact aN _ _ _ h1|exact aN _ _ _ _ h1|exact aN _ _ _ _ _ h1|exact aN _ _ _ _ _ _ h1|exact aN _ _ _ _ _ _ _ h1|exact aN _ _ _ _ _ _ _ _ h1|exact aN _ _ _ _ _ _ _ _ _ h1|exact aN _ _ _ _ _ _ _ _ _ _ h1|exact aN _ _ _ _ _ _ _ _ _ _ _ h1|exact aN _ _ _ _ _ _ _ _ _ _ _ _ h1|exact aN (of_decide_eq_true h1)|exact aN _ (of_decide_eq_true h1)|exact aN _ _ (of_decide_eq_true h1)|exact aN _ _ _ (of_decide_eq_true h1)|exact aN _ _ _ _ (of_decide_eq_true h1)|exact aN _ _ _ _ _ (of_decide_eq_true h1)|exact aN _ _ _ _ _ _ (of_decide_eq_true h1)|exact aN _ _ _ _ _ _ _ (of_decide_eq_true h1)|exact aN _ _ _ _ _ _ _ _ (of_decide_eq_true h1)|exact aN _ _ _ _ _ _ _ _ _ (of_decide_eq_true h1)|exact aN _ _ _ _ _ _ _ _ _ _ (of_decide_eq_true h1)|exact aN _ _ _ _ _ _ _ _ _ _ _ (of_decide_eq_true h1)|exact aN _ _ _ _ _ _ _ _ _ _ _ _ (of_decide_eq_true h1)
  ·cases h)
def HC(a b:ByteArray)(K:KC):Prop:=If (decide (a.size+b.size<9223372036854775808)) (K (.str (a++b)) [] [])
theorem L7(n:Int)(K:KC):run t2 3 19 [.int .i64 n] [] K=
  Br (decide (n<0)) (HC ⟨#[45]⟩ (bytesOf (bF (IntKind.u64.wrap (0 - IntKind.u64.wrap n)) 1)) K) (HC ⟨#[]⟩ (bytesOf (bF (IntKind.u64.wrap n) 1)) K):=by kernel_rfl
theorem BR{a b:List Int}{K:KC}(h:a.length+b.length<9223372036854775808)(hK:K (.str (bytesOf (a++b))) [] []):HC (bytesOf a) (bytesOf b) K:=by
 unfold HC
 rw [jT]
 exact If.mk (decide_eq_true (by rw [aR,aR];exact h)) hK
theorem QY(u least:Int):(bF u least).length<=20:=by
 have:=sL 20 u least 0 []
 rw [List.length_nil,Nat.zero_add] at this
 exact this
theorem gI(n:Int):aD Tryz.prog 19 [.int .i64 n] [] (.str (bytesOf (aJ n))) [] []:=
 aV t2 3 fun ⟨hn,_⟩ _ K hK=>by
  have hn': -9223372036854775808<=n/\n<=9223372036854775807:=hn
  rw [L7]
  unfold aJ kI bG at hK
  refine Br.of (fun c=> ?_) fun c=> ?_<;>rw [c] at hK<;>simp only [fB]
  ·have:=of_decide_eq_true c
   rw [show (0 - n%18446744073709551616)%18446744073709551616= -n by omega]
   exact BR (a:=[45]) (by have:=QY (-n) 1;simp;omega) hK
  ·have:=of_decide_eq_false c
   rw [show n%18446744073709551616=n by omega]
   exact BR (a:=[]) (by have:=QY n 1;simp;omega) hK
end Go.Proofs.YtghnfjfkjhbgdaaGreatDoor
namespace Go.Proofs.YtghnfjfkjhbgdaaGreatDoor
open Go.Se
set_option maxRecDepth 100000
theorem NG(n:Int)(K:KC):run t2 3 102 [.int .i64 n] [] K=
  Br (decide (n<0)) (QA ⟨#[45]⟩ (IntKind.u64.wrap (0 - IntKind.u64.wrap n)) K) (QA ⟨#[]⟩ (IntKind.u64.wrap n) K):=by kernel_rfl
theorem i3(n:Int):aD Tryz.prog 102 [.int .i64 n] [] (.str (bytesOf (aC n))) [] []:=
 aV t2 3 fun ⟨hn,_⟩ _ K hK=>by
  have hn': -9223372036854775808<=n/\n<=9223372036854775807:=hn
  rw [NG]
  have hK':K (.str (bytesOf (kI n++(bF (bG n/4294967296) 1++vJ (bG n))))) [] []:=hK
  unfold kI bG at hK'
  refine Br.of (fun c=> ?_) fun c=> ?_<;>rw [c] at hK'<;>simp only [fB]
  ·have:=of_decide_eq_true c
   rw [show (0 - n%18446744073709551616)%18446744073709551616= -n by omega]
   exact FO (sg:=[45]) (by omega) (by omega) (by simp) hK'
  ·have:=of_decide_eq_false c
   rw [show n%18446744073709551616=n by omega]
   exact FO (sg:=[]) (by omega) (by omega) (by simp) hK'
noncomputable def r1 :bT Tryz.prog:=q6
end Go.Proofs.YtghnfjfkjhbgdaaGreatDoor
namespace Go.Se
end Go.Se
namespace Go.Se
def aFh :List Int:=[0,105403774,210744057,315957395,420980412,525749847,630202589,734275721,837906553,941032661,1043591926,1145522571,1246763195,
 1347252816,1446930903,1545737412,1643612827,1740498191,1836335144,1931065957,2024633568,2116981616,2208054473,2297797281,2386155981,2473077351,
 2558509031,2642399561,2724698408,2805355999,2884323748,2961554089,3037000500,3110617535,3182360851,3252187232,3320054617,3385922125,3449750080,
 3511500034,3571134792,3628618433,3683916329,3736995171,3787822988,3836369162,3882604450,3926501002,3968032378,4007173558,4043900968,4078192482,
 4110027446,4139386683,4166252509,4190608739,4212440704,4231735252,4248480760,4262667143,4274285855,4283329896,4289793820,4293673732,4294967296]
def aB9(k:Int):Int:=bif decide (k<0)||decide (k>64) then 0 else aFh.getD k.toNat 0
def aGD(r:Int):Int:=bif decide (r%16777216>0) then IntKind.i64.wrap (aB9 (r/16777216)+nI (IntKind.i64.wrap (aB9 (r/16777216+1) - aB9 (r/16777216))*(r%16777216)) 16777216) else aB9 (r/16777216)
def aF4(t:Int):Int:=
 (fun s=>bif decide (t/1073741824>=2) then IntKind.i64.wrap (0 - s) else s) (aGD (bif t/1073741824%2==1 then 1073741824 - t%1073741824 else t%1073741824))
def aGt(t:Int):Int:=aF4 ((t+1073741824)%4294967296)
end Go.Se
namespace Go.Se
def ZS(x y t:Int):Bool:=decide (mJ (y*aGt t) (x*aF4 t)>=0)
end Go.Se
namespace Go.Se
end Go.Se
namespace Go.Se
structure aGJ (x y t:Int):Prop where
 lo:0<=t
 hi:t<=1073741824
 at':ZS x y t=true
 beyond: ∀s,t<s->s<=1073741824->ZS x y s=false
end Go.Se
namespace Go.Proofs.YtghnfjfkjhbgdaaGreatDoor
open Go.Se
set_option maxRecDepth 100000
end Go.Proofs.YtghnfjfkjhbgdaaGreatDoor
namespace Go.Se
variable {P:Program}
def tM(c:Int):Nat->List Int->Int
 |_,[]=> -1
 |i,a::l=>bif a==c then (i:Int) else tM c (i+1) l
def fH(s:ByteArray)(c:Int):Int:=match (List.range s.size).find? fun i=>s[i]! ==c.toNat.toUInt8 with
 |some i=>(i:Int)
 |none=> -1
def QX :List SV->List (Option SB)->Out
 | [.str s,.int .u8 c],[]=>some (.int .i64 (fH s c),[],[])
 |_,_=>none
theorem JY{ρ:aG}{T:Nat->Prop}{w:World}{x y:SV}{vals:Array Value}(h:aQ ρ T w [x,y] vals.toList): ∃a b,vals= #[a,b]/\rel ρ T w x a/\rel ρ T w y b:=by
 obtain ⟨a,r,h1,ha,b,s,h2,hb,h4⟩:=h
 cases h4
 subst h2
 exact ⟨a,b,by rw [<- Array.toList_inj,h1],ha,hb⟩
theorem NZ(s:ByteArray)(c:Int)(hs:s.size<9223372036854775808): -9223372036854775808<=fH s c/\fH s c<=9223372036854775807:=by
 unfold fH
 cases h:(List.range s.size).find? fun i=>s[i]! ==c.toNat.toUInt8 with
 |none=>simp
 |some i=>
  have:=List.mem_range.1 (List.mem_of_find?_eq_some h)
  show _<=(i:Int)/\(i:Int)<=_
  omega
theorem aAe {k:FuncId} {fn:Func} (hf:P.funcs[k]? =some fn) (hname:(fn.name== "runtime.NumGoroutine")=false) (hb:fn.body.isNone=true)
  (hn:Extern.findNext fn=none) (he:Extern.find fn=some Extern.BytealgIndexByte.indexByte) (xs:List SV) (σ:List (Option SB)):Sat P k xs σ (one QX xs σ):=by
 refine bD (fun xs σ v σ' d h=> ?_) xs σ
 unfold QX at h
 split at h
 ·rename_i s c
  cases h
  refine kY hf hname hb hn he fun T w vals hv=> ?_
  obtain ⟨_,_,rfl,⟨rfl,hs⟩,⟨rfl,hc⟩⟩:=JY hv
  refine ⟨.int .i64 (fH s c), ?_,rfl,NZ s c hs⟩
  unfold fH
  show (do
   let b<- Extern.Bytes.bytesOf (.string s)
   let d<- Extern.Bytes.asByte (.int .u8 c)
   match (List.range b.size).find? fun i=>b[i]! ==d with
   |some i=>pure (goInt i)
   |none=>pure (goInt (-1)):Sem Value).run P w=_
  simp only [Extern.Bytes.bytesOf,Extern.Bytes.asByte,Sem.run_bind,Sem.run_pure,Result.andThen_ok]
  cases h:(List.range s.size).find? fun i=>s[i]! ==c.toNat.toUInt8 with
  |none=>rfl
  |some i=>rfl
 ·cases h
def oL(s:ByteArray)(c:Int):Nat:=s.data.toList.countP (· ==c.toNat.toUInt8)
def QV :List SV->List (Option SB)->Out
 | [.str s,.int .u8 c],[]=>some (.int .i64 (oL s c),[],[])
 |_,_=>none
theorem aA6 {k:FuncId} {fn:Func} (hf:P.funcs[k]? =some fn) (hname:(fn.name== "runtime.NumGoroutine")=false) (hb:fn.body.isNone=true)
  (hn:Extern.findNext fn=none) (he:Extern.find fn=some Extern.BytealgCount.count) (xs:List SV) (σ:List (Option SB)):Sat P k xs σ (one QV xs σ):=by
 refine bD (fun xs σ v σ' d h=> ?_) xs σ
 unfold QV at h
 split at h
 ·rename_i s c
  cases h
  refine kY hf hname hb hn he fun T w vals hv=> ?_
  obtain ⟨_,_,rfl,⟨rfl,hs⟩,⟨rfl,hc⟩⟩:=JY hv
  refine ⟨.int .i64 (oL s c),Lib.run_countString s c w,rfl, ?_⟩
  have h1:oL s c<=s.size:=Nat.le_trans (List.countP_le_length) (by rw [Array.length_toList];exact Nat.le_refl _)
  show (-9223372036854775808:Int)<=_/\_<=(9223372036854775807:Int);omega
 ·cases h
end Go.Se
namespace Go.Proofs.YtghnfjfkjhbgdaaGreatDoor
open Go.Se
set_option maxRecDepth 100000
theorem aCV(xs:List SV)(σ:List (Option SB)):Sat Tryz.prog 242 xs σ (one QX xs σ):=
 aAe Tryz.func242 (by kernel_rfl) (by kernel_rfl) (by kernel_rfl) (by kernel_rfl) xs σ
def aDs :List SV->List (Option SB)->Out
 | [.int .i64 n],[]=>some (.str (bytesOf (aC n)),[],[])
 |_,_=>none
def WO :List SV->List (Option SB)->Out
 | [.int .i64 n],[]=>some (.str (bytesOf (aJ n)),[],[])
 |_,_=>none
noncomputable def t3 :bT Tryz.prog:=(((((t2).add 242 (one QX) aCV).add 102 (one aDs) (bD fun xs σ v σ' d h=>by
  unfold aDs at h;split at h<;>cases h;first|exact i3|exact i3 _|exact i3 _ _|exact i3 _ _ _|exact i3 _ _ _ _|exact i3 _ _ _ _ _|exact i3 _ _ _ _ _ _|exact i3 _ _ _ _ _ _ _|exact i3 _ _ _ _ _ _ _ _|exact i3 _ _ _ _ _ _ _ _ _|exact i3 _ _ _ _ _ _ _ _ _ _|exact i3 _ _ _ _ _ _ _ _ _ _ _)).add 19 (one WO) (bD fun xs σ v σ' d h=>by
  unfold WO at h;split at h<;>cases h;first|exact gI|exact gI _|exact gI _ _|exact gI _ _ _|exact gI _ _ _ _|exact gI _ _ _ _ _|exact gI _ _ _ _ _ _|exact gI _ _ _ _ _ _ _|exact gI _ _ _ _ _ _ _ _|exact gI _ _ _ _ _ _ _ _ _|exact gI _ _ _ _ _ _ _ _ _ _|exact gI _ _ _ _ _ _ _ _ _ _ _)).add 169 (one SF) (bD fun xs σ v σ' d h=>by
  unfold SF at h;split at h<;>cases h;first|exact cN|exact cN _|exact cN _ _|exact cN _ _ _|exact cN _ _ _ _|exact cN _ _ _ _ _|exact cN _ _ _ _ _ _|exact cN _ _ _ _ _ _ _|exact cN _ _ _ _ _ _ _ _|exact cN _ _ _ _ _ _ _ _ _|exact cN _ _ _ _ _ _ _ _ _ _|exact cN _ _ _ _ _ _ _ _ _ _ _)).add 171 (one SJ) (bD fun xs σ v σ' d h=>by
  unfold SJ at h;split at h<;>cases h;first|exact cL|exact cL _|exact cL _ _|exact cL _ _ _|exact cL _ _ _ _|exact cL _ _ _ _ _|exact cL _ _ _ _ _ _|exact cL _ _ _ _ _ _ _|exact cL _ _ _ _ _ _ _ _|exact cL _ _ _ _ _ _ _ _ _|exact cL _ _ _ _ _ _ _ _ _ _|exact cL _ _ _ _ _ _ _ _ _ _ _)
noncomputable def t4 :bT Tryz.prog:=t3
end Go.Proofs.YtghnfjfkjhbgdaaGreatDoor
namespace Go.Se
theorem c9(l:List Int)(i j:Nat):(bytesOf l).extract i j=bytesOf ((l.drop i).take (j - i)):=by
 apply ByteArray.ext
 simp only [bytesOf,ByteArray.data_extract,List.extract_toArray,List.map_take,List.map_drop]
theorem yW{l:List Int}(h:bB l)(i:Nat):(((bytesOf l).data.getD i 0).toNat:Int)=l.getD i 0:=by
 simp only [bytesOf,Array.getD_eq_getD_getElem?,List.getElem?_toArray,List.getElem?_map,List.getD_eq_getElem?_getD]
 cases hl:l[i]? with
 |none=>simp
 |some x=>
  have:=h x (List.mem_of_getElem? hl)
  simp
  omega
theorem F6{a b:List Int}(ha:bB a)(hb:bB b):(bytesOf a==bytesOf b)=decide (a=b):=by
 rw [Bool.eq_iff_iff,jC,beq_iff_eq,decide_eq_true_eq]
 constructor
 ·intro h
  rw [<- cG ha,<- cG hb,show bytesOf a=bytesOf b from ByteArray.ext h]
 ·rintro rfl;rfl
theorem OK{l:List Int}(_h:bB l){i:Nat}(hi:i<l.length):(bytesOf l)[i]! =(l.getD i 0).toNat.toUInt8:=by
 have hs:i<(bytesOf l).size:=by rw [aR];exact hi
 rw [getElem!_pos (bytesOf l) i hs]
 show (bytesOf l).data[i]=_
 simp only [bytesOf,List.getElem_toArray,List.getElem_map,List.getD_eq_getElem?_getD,List.getElem?_eq_getElem hi,Option.getD_some]
theorem B7{α:Type}{p q:α->Bool}: ∀l:List α,(∀x,x∈l->p x=q x)->l.find? p=l.find? q
 | [],_=>rfl
 |a::l,h=>by
  rw [List.find?_cons,List.find?_cons,h a (List.mem_cons_self ..),B7 l fun x hx=>h x (List.mem_cons_of_mem _ hx)]
theorem wG(c:Int)(hc:0<=c)(hc':c<=255): ∀(l:List Int) (o:Nat),bB l->tM c o l=match (List.range l.length).find? fun i=>(l.getD i 0).toNat.toUInt8==c.toNat.toUInt8 with
  |some i=>((o+i:Nat):Int)
  |none=> -1
 | [],o,_=>rfl
 |a::l,o,h=>by
  have ha:=h a (List.mem_cons_self ..)
  have hb:(a.toNat.toUInt8==c.toNat.toUInt8)=(a==c):=by
   rw [Bool.eq_iff_iff,beq_iff_eq,beq_iff_eq]
   constructor
   ·intro e
    have:=congrArg UInt8.toNat e
    simp at this
    omega
   ·rintro rfl;rfl
  unfold tM
  rw [List.length_cons,List.range_succ_eq_map,List.find?_cons]
  simp only [List.getD_cons_zero,hb]
  cases hac:a==c
  ·simp only [cond_false]
   rw [wG c hc hc' l (o+1) (fun x hx=>h x (List.mem_cons_of_mem _ hx)),List.find?_map]
   simp only [Function.comp_def,List.getD_cons_succ]
   cases (List.range l.length).find? fun i=>(l.getD i 0).toNat.toUInt8==c.toNat.toUInt8 with
   |none=>rfl
   |some i=>simp only [Option.map_some];congr 1;omega
  ·simp
theorem u4{l:List Int}(h:bB l){c:Int}(hc:0<=c)(hc':c<=255):fH (bytesOf l) c=tM c 0 l:=by
 rw [wG c hc hc' l 0 h]
 unfold fH
 rw [aR]
 have:(List.range l.length).find? (fun i=>(bytesOf l)[i]! ==c.toNat.toUInt8)=(List.range l.length).find? fun i=>(l.getD i 0).toNat.toUInt8==c.toNat.toUInt8:=by
  refine B7 _ fun i hi=> ?_
  rw [OK h (List.mem_range.1 hi)]
 rw [this]
 cases (List.range l.length).find? fun i=>(l.getD i 0).toNat.toUInt8==c.toNat.toUInt8 with
 |none=>rfl
 |some i=>simp
end Go.Se
namespace Go.Se
def kC :List Int->Bool
 |a::_=>a==45
 | []=>false
def cS(l:List Int):List Int:=bif kC l then l.tail else l
def dG(c:Int):List Int->List Int
 | []=>[]
 |a::l=>bif a==c then [] else a::dG c l
def iN(c:Int):List Int->List Int
 | []=>[]
 |a::l=>bif a==c then l else iN c l
def fR(c:Int):List Int->Bool
 | []=>false
 |a::l=>a==c||fR c l
theorem nP(c:Int): ∀(l:List Int) (o:Nat),tM c o l=bif fR c l then ((o+(dG c l).length:Nat):Int) else -1
 | [],o=>rfl
 |a::l,o=>by
  unfold tM fR dG
  cases h:a==c
  ·simp only [cond_false,Bool.false_or]
   rw [nP c l (o+1)]
   cases fR c l
   ·rfl
   ·simp only [cond_true,List.length_cons];congr 1;omega
  ·simp
theorem GH(c:Int): ∀l:List Int,fR c l=true->l=dG c l++c::iN c l
 | [],h=>by cases h
 |a::l,h=>by
  unfold fR at h
  unfold dG iN
  cases e:a==c
  ·rw [e,Bool.false_or] at h
   simp only [cond_false,List.cons_append]
   rw [<- GH c l h]
  ·have:a=c:=by simpa using e
   subst this
   rfl
theorem pJ(c:Int): ∀l:List Int,fR c l=false->dG c l=l
 | [],_=>rfl
 |a::l,h=>by
  unfold fR at h
  rw [Bool.or_eq_false_iff] at h
  unfold dG
  rw [h.1]
  simp only [cond_false]
  rw [pJ c l h.2]
def I8(a:Int):Int:=IntKind.u8.wrap (a - 48)
def DZ :Int->List Int->Option Int
 |n,[]=>some n
 |n,a::l=>bif decide (I8 a>9) then none else DZ (IntKind.i64.wrap (IntKind.i64.wrap (10*n)+IntKind.i64.wrap (I8 a))) l
def J4(l:List Int)(most:Int):Bool:=decide (l.length<1)||decide ((l.length:Int)>most)
def nG(l:List Int)(most:Int):Int:=bif J4 l most then 0 else (DZ 0 l).getD 0
def kL(l:List Int)(most:Int):Bool:=bif J4 l most then false else (DZ 0 l).isSome
def rE :Int->List Int->Int
 |n,[]=>n
 |n,a::l=>rE (10*n+(a - 48)) l
def vE(l:List Int):Prop:= ∀x,x∈l->48<=x/\x<=57
theorem QF(k:Nat):(1:Int)<=10^k:=by
 have:(0:Int)<10^k:=Int.pow_pos (by decide)
 omega
theorem yC : ∀(l:List Int) (n:Int),vE l->0<=n->n<10^(18 - l.length)->l.length<=18->DZ n l=some (rE n l)/\0<=rE n l/\rE n l<1000000000000000000
 | [],n,_,h0,h1,_=>⟨rfl,h0,h1⟩
 |a::l,n,hd,h0,h1,hl=>by
  have ha:=hd a (List.mem_cons_self ..)
  simp only [List.length_cons] at h1 hl
  have hc:I8 a=a - 48:=by unfold I8;rw [wu8];omega
  have hp:(10:Int)^(18 - l.length)=10^(18 - (l.length+1))*10:=by
   rw [show 18 - l.length=(18 - (l.length+1))+1 by omega,Int.pow_succ]
  have hb:(10:Int)^(18 - l.length)<=1000000000000000000:=by
   have:(10:Int)^(18 - l.length)*10^l.length=10^18:=by rw [<- Int.pow_add];congr 1;omega
   have h1':(1:Int)<=10^l.length:=QF l.length
   have hq:(0:Int)<10^(18 - l.length):=Int.pow_pos (by decide)
   have:=Int.mul_le_mul_of_nonneg_left h1' (Int.le_of_lt hq)
   omega
  unfold DZ rE
  rw [hc,decide_eq_false (show¬a - 48>9 by omega)]
  simp only [cond_false,gY]
  rw [show ((10*n+9223372036854775808)%18446744073709551616 - 9223372036854775808+((a - 48+9223372036854775808)%18446744073709551616 - 9223372036854775808)+9223372036854775808)%18446744073709551616 - 9223372036854775808=10*n+(a - 48) by omega]
  exact yC l (10*n+(a - 48)) (fun x hx=>hd x (List.mem_cons_of_mem _ hx)) (by omega) (by omega) (by omega)
theorem BK : ∀(l:List Int) (n:Int),rE n l=n*10^l.length+rE 0 l
 | [],n=>by simp [rE]
 |a::l,n=>by
  unfold rE
  rw [BK l,BK l (10*0+(a - 48)),List.length_cons,Int.pow_succ]
  grind
theorem FC : ∀(f:Nat) (u least j:Int) (l:List Int),0<=u->u<10^f->rE 0 (pF f u least j l)=u*10^l.length+rE 0 l
 |0,u,_,_,l,h0,h1=>by
  have:u=0:=by simp at h1;omega
  subst this
  simp [pF]
 |f+1,u,least,j,l,h0,h1=>by
  have hp:(10:Int)^(f+1)=10^f*10:=Int.pow_succ 10 f
  rw [eQ]
  cases h:decide (u>0)||decide (j<least)
  ·simp only [cond_false]
   have:u=0:=by
    rw [Bool.or_eq_false_iff] at h
    have:=of_decide_eq_false h.1
    omega
   subst this
   simp
  ·simp only [cond_true]
   rw [FC f (u/10) least (j+1) _ (by omega) (by omega),List.length_cons,Int.pow_succ,rE,BK]
   have e:u=u/10*10+u%10:=by omega
   generalize u/10=q at*
   generalize u%10=r at*
   subst e
   grind
theorem rR{u least:Int}(h0:0<=u)(h1:u<18446744073709551616):rE 0 (bF u least)=u:=by
 have:=FC 20 u least 0 [] h0 (by omega)
 simpa [bF,rE] using this
theorem KB : ∀(f k:Nat) (u:Int) (j:Nat) (l:List Int),l.length=j->0<=u->u<10^k->j+k<=j+f->(pF f u 1 j l).length<=max 1 (j+k)
 |0,k,u,j,l,hl,h0,h1,hk=>by
  show l.length<=_
  omega
 |f+1,k,u,j,l,hl,h0,h1,hk=>by
  rw [eQ]
  by_cases hu:0<u
  ·rw [decide_eq_true (show u>0 from hu)]
   simp only [Bool.true_or,cond_true]
   cases k with
   |zero=>simp at h1;omega
   |succ k=>
    have hp:(10:Int)^(k+1)=10^k*10:=Int.pow_succ 10 k
    have:=KB f k (u/10) (j+1) ((48+u%10)::l) (by simp [hl]) (by omega) (by omega) (by omega)
    push_cast at this
    omega
  ·have:u=0:=by omega
   subst this
   rw [show decide ((0:Int)>0)=false from rfl,Bool.false_or]
   by_cases hj:(j:Int)<1
   ·rw [decide_eq_true hj]
    simp only [cond_true]
    have hj0:j=0:=by omega
    subst hj0
    have hl0:l=[]:=List.length_eq_zero_iff.1 hl
    subst hl0
    cases f with
    |zero=>simp [pF];omega
    |succ f=>
     rw [eQ]
     simp
     omega
   ·rw [decide_eq_false hj]
    simp only [cond_false]
    omega
end Go.Se
namespace Go.Se
theorem F4 : ∀r:List Int,r=List.replicate (r.length - (oY r).length) 48++oY r
 | []=>rfl
 |a::r=>by
  unfold oY
  by_cases h:a=48
  ·subst h
   simp only [BEq.rfl,cond_true,List.length_cons]
   have hl:=pN r
   rw [show r.length+1 - (oY r).length=(r.length - (oY r).length)+1 by omega,List.replicate_succ,List.cons_append,<- F4 r]
  ·rw [show (a==48)=false by simpa using h]
   simp
theorem FU(l:List Int):kA l++List.replicate (l.length - (kA l).length) 48=l:=by
 have h:=congrArg List.reverse (F4 l.reverse)
 rw [List.reverse_reverse,List.reverse_append,List.reverse_replicate,List.length_reverse] at h
 unfold kA
 rw [List.length_reverse]
 exact h.symm
theorem EO{l:List Int}{x:Int}(h:x∈kA l):x∈l:=by
 rw [<- FU l]
 exact List.mem_append_left _ h
theorem aAx : ∀(f:Nat) (u:Int) (j:Nat) (l:List Int),l.length=j->1<=(pF (f+1) u 1 j l).length
 |f,u,j,l,hl=>by
  rw [eQ]
  cases h:decide (u>0)||decide ((j:Int)<1)
  ·simp only [cond_false]
   rw [Bool.or_eq_false_iff] at h
   have:=of_decide_eq_false h.2
   omega
  ·simp only [cond_true]
   have: ∀(f:Nat) (u least j:Int) (l:List Int),l.length<=(pF f u least j l).length:=fun f=>by
    induction f with
    |zero=>intro _ _ _ l;exact Nat.le_refl _
    |succ f ih=>
     intro u least j l
     rw [eQ]
     cases decide (u>0)||decide (j<least)
     ·exact Nat.le_refl _
     ·have:=ih (u/10) least (j+1) ((48+u%10)::l)
      simp only [cond_true,List.length_cons] at this|-
      omega
   have:=this f (u/10) 1 (j+1) ((48+u%10)::l)
   simp only [List.length_cons] at this
   omega
theorem qE(u:Int):1<=(bF u 1).length:=aAx 19 u 0 [] rfl
theorem pY{k:Nat}{u:Int}(h0:0<=u)(h1:u<10^k)(hk:k<=20):(bF u 1).length<=max 1 k:=by
 have:=KB 20 k u 0 [] rfl h0 h1 (by omega)
 rw [Nat.zero_add] at this
 exact this
theorem VF{l:List Int}(h:l.length<=10):(rP l).length=10:=by
 unfold rP
 rw [List.length_append,List.length_replicate]
 omega
theorem xT{l:List Int}{most:Int}(hd:vE l)(h1:1<=l.length)(h2:(l.length:Int)<=most)(h3:l.length<=18):kL l most=true/\nG l most=rE 0 l:=by
 have hg:J4 l most=false:=by
  unfold J4
  rw [decide_eq_false (show¬l.length<1 by omega),decide_eq_false (show¬(l.length:Int)>most by omega)];rfl
 obtain ⟨h,_,_⟩:=yC l 0 hd (Int.le_refl 0) (by have:=QF (18 - l.length);omega) h3
 unfold kL nG
 rw [hg,h]
 exact ⟨rfl,rfl⟩
theorem sO{c:Int}(hc:c<48): ∀l:List Int,vE l->fR c l=false
 | [],_=>rfl
 |a::l,h=>by
  have:=h a (List.mem_cons_self ..)
  unfold fR
  rw [sO hc l fun x hx=>h x (List.mem_cons_of_mem _ hx),show (a==c)=false by rw [beq_eq_false_iff_ne];omega];rfl
theorem DF{c:Int}(hc:c<48): ∀(l m:List Int),vE l->fR c (l++c::m)=true/\dG c (l++c::m)=l/\iN c (l++c::m)=m
 | [],m,_=>by unfold fR dG iN;simp
 |a::l,m,h=>by
  have ha:=h a (List.mem_cons_self ..)
  obtain ⟨h1,h2,h3⟩:=DF hc l m fun x hx=>h x (List.mem_cons_of_mem _ hx)
  rw [List.cons_append]
  unfold fR dG iN
  rw [show (a==c)=false by rw [beq_eq_false_iff_ne];omega,h1,h2,h3]
  exact ⟨rfl,rfl,rfl⟩
theorem IG{l m:List Int}(hd:vE l)(h1:1<=l.length):kC (l++m)=false/\cS (l++m)=l++m:=by
 cases l with
 |nil=>simp at h1
 |cons a l=>
  have:=hd a (List.mem_cons_self ..)
  have hb:kC (a::l++m)=false:=by
   show (a==45)=false
   rw [beq_eq_false_iff_ne];omega
  exact ⟨hb,by unfold cS;rw [hb];rfl⟩
theorem KX{u:Int}(hu:0<=u):bV u<=9999999998/\2*(bV u*4294967296) - 2*(u%4294967296*10000000000)<=4294967296/\2*(u%4294967296*10000000000) - 2*(bV u*4294967296)<=4294967296:=by
 unfold bV nI i0 DM iR
 have h0:0<=u%4294967296*10000000000:=by omega
 have h1:u%4294967296*10000000000<=4294967295*10000000000:=by omega
 rw [show bG (u%4294967296*10000000000)=u%4294967296*10000000000 by unfold bG;rw [decide_eq_false (show¬u%4294967296*10000000000<0 by omega)];rfl]
 rw [show bG 4294967296=4294967296 by decide,decide_eq_false (show¬u%4294967296*10000000000<0 by omega)]
 generalize u%4294967296*10000000000=p at*
 rw [show (false !=decide ((4294967296:Int)<0))=false by decide]
 simp only [cond_false]
 cases hc:(decide (p%4294967296>4294967296 - p%4294967296)||(p%4294967296==4294967296 - p%4294967296&&p/4294967296%2==1))&&decide (p%4294967296>0)
 ·simp only [cond_false]
  have hn: ¬p%4294967296>4294967296 - p%4294967296:=fun h=>by
   rw [decide_eq_true h,Bool.true_or,Bool.true_and] at hc
   have:=of_decide_eq_false hc;omega
  rw [show ((4294967296:Int) !=0&&rD (p/4294967296))=true by rw [(jS _).2 (by omega)];rfl]
  simp only [cond_true];omega
 ·simp only [cond_true]
  simp only [Bool.and_eq_true,Bool.or_eq_true,decide_eq_true_eq,beq_iff_eq] at hc
  rw [show ((4294967296:Int) !=0&&rD (p/4294967296+1))=true by rw [(jS _).2 (by omega)];rfl]
  simp only [cond_true];omega
theorem FI(n:Int)(h:0<=n):2*n - 10000000000<=20000000000*iR n 10000000000/\20000000000*iR n 10000000000<=2*n+10000000000/\0<=iR n 10000000000:=by
 unfold iR
 cases hc:(decide (n%10000000000>10000000000 - n%10000000000)||(n%10000000000==10000000000 - n%10000000000&&n/10000000000%2==1))&&decide (n%10000000000>0)
 ·simp only [cond_false]
  have: ¬n%10000000000>10000000000 - n%10000000000:=fun h1=>by
   rw [decide_eq_true h1,Bool.true_or,Bool.true_and] at hc
   have:=of_decide_eq_false hc;omega
  omega
 ·simp only [cond_true]
  simp only [Bool.and_eq_true,Bool.or_eq_true,decide_eq_true_eq,beq_iff_eq] at hc
  omega
theorem VD{u:Int}(hu:0<=u):nI (bV u*4294967296) 10000000000=u%4294967296:=by
 have h:=KX hu
 have h0:=(nV hu).1
 have hp:0<=bV u*4294967296:=by omega
 have hr:=FI _ hp
 have hn:DM (bV u*4294967296) 10000000000=iR (bV u*4294967296) 10000000000:=by
  unfold DM
  rw [show bG (bV u*4294967296)=bV u*4294967296 by unfold bG;rw [decide_eq_false (show¬bV u*4294967296<0 by omega)];rfl,show bG 10000000000=10000000000 by decide,
   decide_eq_false (show¬bV u*4294967296<0 by omega)];rfl
 unfold nI i0
 rw [hn,show ((10000000000:Int) !=0&&rD (iR (bV u*4294967296) 10000000000))=true by rw [(jS _).2 (by omega)];rfl]
 simp only [cond_true]
 omega
end Go.Se
namespace Go.Se
theorem xC(c:Int): ∀l:List Int,fR c l=false->iN c l=[]
 | [],_=>rfl
 |a::l,h=>by
  unfold fR at h
  rw [Bool.or_eq_false_iff] at h
  unfold iN
  rw [h.1]
  exact xC c l h.2
theorem oU(c:Int): ∀l:List Int,l.take (dG c l).length=dG c l
 | []=>rfl
 |a::l=>by
  unfold dG
  cases a==c
  ·simp only [cond_false,List.length_cons,List.take_succ_cons,oU c l]
  ·rfl
theorem vG(c:Int): ∀l:List Int,fR c l=true->l.drop ((dG c l).length+1)=iN c l/\(dG c l).length+1<=l.length
 | [],h=>by cases h
 |a::l,h=>by
  unfold fR at h
  unfold dG iN
  cases e:a==c
  ·rw [e,Bool.false_or] at h
   have:=vG c l h
   simp only [cond_false,List.length_cons,List.drop_succ_cons]
   exact ⟨this.1,by omega⟩
  ·simp
def A3 :List SV->List (Option SB)->Option (Bool×SV×List (Option SB)×List Nat)
 | [.str s,.str t],[]=>some (t==⟨#[45]⟩,.tup [.str (bytesOf (cS (aA s))),.bool (kC (aA s))],[],[])
 |_,_=>none
def aFS :List SV->List (Option SB)->Option (Bool×SV×List (Option SB)×List Nat)
 | [.str s,.str t],[]=>some (t==⟨#[46]⟩,.tup [.str (bytesOf (dG 46 (aA s))),.str (bytesOf (iN 46 (aA s))),.bool (fR 46 (aA s))],[],[])
 |_,_=>none
def RZ :List SV->List (Option SB)->Out
 | [.str s,.int .i64 m],[]=>some (.tup [.int .i64 (nG (aA s) m),.bool (kL (aA s) m)],[],[])
 |_,_=>none
def P4 :List SV->List (Option SB)->Option (Bool×SV×List (Option SB)×List Nat)
 | [.str s,.int .i64 k],[]=>some (s==⟨#[48]⟩&&(decide (0<=k)&&decide (k<=9)),.str (bytesOf (List.replicate k.toNat 48)),[],[])
 |_,_=>none
theorem EG{l:List Int}{K:KC}(hb:bB l)(hK:K (.tup [.str (bytesOf (cS l)),.bool (kC l)]) [] []):
  Br (decide (((bytesOf l).size:Int)>=1)) (If (true&&(true&&decide ((1:Int)<=((bytesOf l).size:Int)))) (Br (!((bytesOf l).extract 0 1==⟨#[45]⟩)) (K (.tup [.str (bytesOf l),.bool false]) [] [])
   (If (true&&(decide ((1:Int)<=((bytesOf l).size:Int))&&decide (((bytesOf l).size:Int)<=((bytesOf l).size:Int)))) (K (.tup [.str ((bytesOf l).extract 1 ((bytesOf l).size:Int).toNat),.bool true]) [] []))))
   (K (.tup [.str (bytesOf l),.bool false]) [] []):=by
 rw [aR]
 cases l with
 |nil=>exact Br.of (fun c=>by have:=of_decide_eq_true c;simp at this) fun _=>hK
 |cons a l=>
  have ha:bB [a]:=fun x hx=>hb x (by rcases List.mem_singleton.1 hx with rfl;exact List.mem_cons_self ..)
  rw [c9,c9,show (⟨#[45]⟩:ByteArray)=bytesOf [45] from rfl]
  simp only [List.drop_zero,List.take_succ_cons,List.take_zero,List.drop_succ_cons,Nat.sub_zero]
  rw [F6 ha (fun x hx=>by rcases List.mem_singleton.1 hx with rfl;omega),Int.toNat_natCast,List.length_cons,Nat.add_sub_cancel,List.take_length]
  refine Br.of (fun c=>If.mk (by simpa using c) (Br.of (fun e=> ?_) fun e=>If.mk (by simpa using c) ?_)) fun c=> ?_
  ·have: ¬a=45:=by simpa using e
   have hm:kC (a::l)=false:=by
    show (a==45)=false
    simpa using this
   unfold cS at hK
   rw [hm] at hK
   exact hK
  ·have:a=45:=by simpa using e
   subst this
   exact hK
  ·have:=of_decide_eq_false c
   simp at this
   omega
theorem aA9{l:List Int}{K:KC}(hb:bB l)(hl:l.length<9223372036854775808)(hK:K (.tup [.str (bytesOf (dG 46 l)),.str (bytesOf (iN 46 l)),.bool (fR 46 l)]) [] []):
  Br ((⟨#[46]⟩:ByteArray)==bytesOf l) (If (true&&(decide ((1:Int)<=((bytesOf l).size:Int))&&decide (((bytesOf l).size:Int)<=((bytesOf l).size:Int)))) (K (.tup [.str ((bytesOf l).extract 0 0),.str ((bytesOf l).extract 1 ((bytesOf l).size:Int).toNat),.bool true]) [] []))
   (Br (decide (fH (bytesOf l) 46>=0)) (If (true&&(decide ((0:Int)<=fH (bytesOf l) 46)&&decide (fH (bytesOf l) 46<=((bytesOf l).size:Int))))
    (If (decide (0<=IntKind.i64.wrap (fH (bytesOf l) 46+1))&&(decide (IntKind.i64.wrap (fH (bytesOf l) 46+1)<=((bytesOf l).size:Int))&&decide (((bytesOf l).size:Int)<=((bytesOf l).size:Int))))
     (K (.tup [.str ((bytesOf l).extract 0 (fH (bytesOf l) 46).toNat),.str ((bytesOf l).extract (IntKind.i64.wrap (fH (bytesOf l) 46+1)).toNat ((bytesOf l).size:Int).toNat),.bool true]) [] [])))
    (K (.tup [.str (bytesOf l),.str ⟨#[]⟩,.bool false]) [] [])):=by
 rw [u4 hb (by decide) (by decide),nP,aR]
 refine Br.of (fun c=> ?_) fun _=> ?_
 ·have hl1:l=[46]:=by
   rw [jC,beq_iff_eq] at c
   have c:bytesOf [46]=bytesOf l:=ByteArray.ext c
   have:=congrArg aA c
   rw [cG hb,cG (fun x hx=>by rcases List.mem_singleton.1 hx with rfl;omega)] at this
   exact this.symm
  subst hl1
  exact If.mk rfl hK
 ·cases hh:fR 46 l with
  |false=>
   rw [hh,pJ _ _ hh,xC _ _ hh] at hK
   refine Br.of (fun c=> ?_) fun _=>hK
   have:=of_decide_eq_true c
   simp at this
  |true=>
   obtain ⟨h1,h2⟩:=vG 46 l hh
   have h3:=oU 46 l
   rw [hh] at hK
   simp only [cond_true,Nat.zero_add]
   have hw:IntKind.i64.wrap ((((dG 46 l).length:Nat):Int)+1)=(((dG 46 l).length+1:Nat):Int):=by rw [gY];omega
   rw [hw,c9,c9]
   simp only [Int.toNat_natCast,List.drop_zero,Nat.sub_zero]
   rw [h3,h1,show (iN 46 l).take (l.length - ((dG 46 l).length+1))=iN 46 l by rw [<- h1,<- List.length_drop,List.take_length]]
   refine Br.of (fun _=>If.mk ?_ (If.mk ?_ hK)) fun c=> ?_
   ·simp only [Bool.true_and,Bool.and_eq_true,decide_eq_true_eq];omega
   ·simp only [Bool.and_eq_true,decide_eq_true_eq];omega
   ·have:=of_decide_eq_false c
    omega
end Go.Se
namespace Go.Se
def D3(l:List Int):List Int:=l++List.replicate (10 - l.length) 48
def uH(l:List Int):Int:=bif kL l 10 then nG (D3 l) 10 else 0
def AN(l:List Int):Bool:=bif kL l 10 then kL (D3 l) 10 else false
def aDc :List SV->List (Option SB)->Out
 | [.str s],[]=>some (.tup [.int .i64 (uH (aA s)),.bool (AN (aA s))],[],[])
 |_,_=>none
theorem s7{l:List Int}{m:Int}(h:kL l m=true):1<=l.length/\(l.length:Int)<=m:=by
 unfold kL at h
 cases hg:J4 l m with
 |true=>rw [hg] at h;cases h
 |false=>
  unfold J4 at hg
  rw [Bool.or_eq_false_iff] at hg
  have a:=of_decide_eq_false hg.1
  have b:=of_decide_eq_false hg.2
  omega
theorem NI{l:List Int}(h:bB l)(n:Nat):bB (l++List.replicate n 48):=fun x hx=>by
 rcases List.mem_append.1 hx with hx|hx
 ·exact h x hx
 ·rw [List.eq_of_mem_replicate hx];omega
def rdF(Z:Int)(K:KC):Prop:=
 Br (Z/18446744073709551616 !=(IntKind.i64.wrap (Z%18446744073709551616)).fdiv (2^min (63:Int).toNat IntKind.i64.bits)) (K (.tup [.int .i64 0,.int .i64 2]) [] []) (K (.tup [.int .i64 (IntKind.i64.wrap (Z%18446744073709551616)),.int .i64 0]) [] [])
def rdA(a b:Int):Int:=bif fN (wv (a/18446744073709551616) (a%18446744073709551616)+wv (b/18446744073709551616) (b%18446744073709551616)) then wv (a/18446744073709551616) (a%18446744073709551616)+wv (b/18446744073709551616) (b%18446744073709551616) else 0
def rdM(a:Int):Int:=bif fN (-wv (a/18446744073709551616) (a%18446744073709551616)) then -wv (a/18446744073709551616) (a%18446744073709551616) else 0
def rdW(neg:Bool)(n f:Int)(K:KC):Prop:=
 (fun X=>Br neg (rdF (rdM X) K) (rdF X K)) (rdA (n*4294967296) (nI (wv (f*4294967296/18446744073709551616) (f*4294967296%18446744073709551616)) 10000000000))
def rdQ(neg ok:Bool)(n f:Int)(K:KC):Prop:=Br (!ok) (K (.tup [.int .i64 0,.int .i64 24]) [] []) (rdW neg n f K)
def rdR(neg ok pt rb:Bool)(n f:Int)(K:KC):Prop:=Br ok (Br pt (rdQ neg rb n f K) (rdQ neg ok n 0 K)) (rdQ neg ok n 0 K)
def lsB(l:List Int):List Int:=aA (bytesOf l)
def rdP(s:ByteArray)(K:KC):Prop:=
 (fun l=>rdR (kC (aA s)) (kL (lsB (dG 46 l)) 10) (fR 46 l) (AN (lsB (iN 46 l))) (nG (lsB (dG 46 l)) 10) (uH (lsB (iN 46 l))) K) (lsB (cS (aA s)))
end Go.Se
namespace Go.Se
theorem MF(n:Int):aC n=kI n++(bF (bG n/4294967296) 1++vJ (bG n)):=rfl
theorem DB{n:Int}{l m:List Int}(hd:vE l)(h1:1<=l.length):kC (kI n++(l++m))=decide (n<0)/\cS (kI n++(l++m))=l++m:=by
 unfold kI
 cases h:decide (n<0)
 ·simp only [cond_false,List.nil_append]
  exact IG hd h1
 ·exact ⟨rfl,rfl⟩
theorem O8{l:List Int}(h:bB l):lsB l=l:=cG h
end Go.Se
namespace Go.Se
end Go.Se
namespace Go.Proofs.YtghnfjfkjhbgdaaGreatDoor
open Go.Se
set_option maxRecDepth 100000
theorem zI(s:ByteArray)(K:KC):run t3 5 132 [.str s,.str ⟨#[45]⟩] [] K=
  Br (decide ((s.size:Int)>=1)) (If (true&&(true&&decide ((1:Int)<=(s.size:Int)))) (Br (!(s.extract 0 1==⟨#[45]⟩)) (K (.tup [.str s,.bool false]) [] [])
   (If (true&&(decide ((1:Int)<=(s.size:Int))&&decide ((s.size:Int)<=(s.size:Int)))) (K (.tup [.str (s.extract 1 (s.size:Int).toNat),.bool true]) [] []))))
   (K (.tup [.str s,.bool false]) [] []):=by kernel_rfl
theorem aT(s t:ByteArray)(h:(t==⟨#[45]⟩)=true):aD Tryz.prog 132 [.str s,.str t] [] (.tup [.str (bytesOf (cS (aA s))),.bool (kC (aA s))]) [] []:=by
 rw [jC,beq_iff_eq] at h
 have:t=⟨#[45]⟩:=ByteArray.ext h
 subst this
 refine aV t3 5 fun _ _ K hK=> ?_
 rw [zI]
 have:=EG (cQ s) hK
 rw [dO] at this
 exact this
theorem VH(s:ByteArray)(K:KC):run t3 5 126 [.str s,.str ⟨#[46]⟩] [] K=
  Br ((⟨#[46]⟩:ByteArray)==s) (If (true&&(decide ((1:Int)<=(s.size:Int))&&decide ((s.size:Int)<=(s.size:Int)))) (K (.tup [.str (s.extract 0 0),.str (s.extract 1 (s.size:Int).toNat),.bool true]) [] []))
   (Br (decide (fH s 46>=0)) (If (true&&(decide ((0:Int)<=fH s 46)&&decide (fH s 46<=(s.size:Int))))
    (If (decide (0<=IntKind.i64.wrap (fH s 46+1))&&(decide (IntKind.i64.wrap (fH s 46+1)<=(s.size:Int))&&decide ((s.size:Int)<=(s.size:Int))))
     (K (.tup [.str (s.extract 0 (fH s 46).toNat),.str (s.extract (IntKind.i64.wrap (fH s 46+1)).toNat (s.size:Int).toNat),.bool true]) [] [])))
    (K (.tup [.str s,.str ⟨#[]⟩,.bool false]) [] [])):=by kernel_rfl
theorem d9(s t:ByteArray)(h:(t==⟨#[46]⟩)=true):aD Tryz.prog 126 [.str s,.str t] [] (.tup [.str (bytesOf (dG 46 (aA s))),.str (bytesOf (iN 46 (aA s))),.bool (fR 46 (aA s))]) [] []:=by
 rw [jC,beq_iff_eq] at h
 have:t=⟨#[46]⟩:=ByteArray.ext h
 subst this
 refine aV t3 5 fun ⟨hs,_⟩ _ K hK=> ?_
 have hs':s.size<9223372036854775808:=hs
 rw [VH]
 have:=aA9 (cQ s) (by rw [bU];exact hs') hK
 rw [dO] at this
 exact this
theorem N6 : ∀k:Nat,k<=9-> ∀K,run t3 5 206 [.str ⟨#[48]⟩,.int .i64 (k:Int)] [] K=K (.str (bytesOf (List.replicate k 48))) [] []
 |0,_,K=>by kernel_rfl
 |1,_,K=>by kernel_rfl
 |2,_,K=>by kernel_rfl
 |3,_,K=>by kernel_rfl
 |4,_,K=>by kernel_rfl
 |5,_,K=>by kernel_rfl
 |6,_,K=>by kernel_rfl
 |7,_,K=>by kernel_rfl
 |8,_,K=>by kernel_rfl
 |9,_,K=>by kernel_rfl
 |k+10,h,_=>absurd h (by omega)
theorem bM(s:ByteArray)(k:Int)(h:(s==⟨#[48]⟩&&(decide (0<=k)&&decide (k<=9)))=true):aD Tryz.prog 206 [.str s,.int .i64 k] [] (.str (bytesOf (List.replicate k.toNat 48))) [] []:=by
 simp only [Bool.and_eq_true,decide_eq_true_eq] at h
 obtain ⟨h1,h2,h3⟩:=h
 rw [jC,beq_iff_eq] at h1
 have:s=⟨#[48]⟩:=ByteArray.ext h1
 subst this
 obtain ⟨n,rfl⟩:=Int.eq_ofNat_of_zero_le h2
 refine aV t3 5 fun _ _ K hK=> ?_
 rw [N6 n (by omega)]
 exact hK
abbrev aDj :FuncId:=133
def GT :List (Nat×eR):=[(0,⟨[0,6,19,18,4,5],[],[],0,[]⟩)]
def yO(s:ByteArray)(n i:Int):St:=⟨[(0,.str s),(6,.int .i64 n),(19,.int .i64 i),(18,.int .i64 (s.size:Int)),(4,.int .i64 0),(5,.bool false)],[],0,[],35⟩
abbrev wX :List Nat:=[1,1,1,0,1,0]
noncomputable abbrev ZZ :Env:=fW GT (fun _=>0) t3 1
theorem VB(K:KC)(s:ByteArray)(m:Int):eA GT (fun _=>0) t3 2 aDj [.str s,.int .i64 m] [] K=
  Br (s==⟨#[]⟩) (K (.tup [.int .i64 0,.bool false]) [] []) (Br (decide ((s.size:Int)>m)) (K (.tup [.int .i64 0,.bool false]) [] []) (∃n,bO ZZ (aB GT 0) Tryz.f133 wX 0 0 K n (yO s 0 0))):=by kernel_rfl
theorem FW(K:Ex->St->Prop)(s:ByteArray)(n i:Int):aF ZZ (aB GT 0) Tryz.f133 wX 0 K (yO s n i)=
  Br (decide (i<(s.size:Int))) (If (decide (0<=i)&&decide (i<(s.size:Int))) ((fun c=>Br (decide (c>9)) (K .ret (yO s n i)) (K .normal (yO s (IntKind.i64.wrap (IntKind.i64.wrap (10*n)+IntKind.i64.wrap c)) (IntKind.i64.wrap (i+1)))))
   (IntKind.u8.wrap (((s.data.getD i.toNat 0).toNat:Int) - 48)))) (K (.exit 0) (yO s n i)):=by kernel_rfl
theorem aCN(K:KC)(s:ByteArray)(n i:Int):aE ZZ (aB GT 0) Tryz.f133 wX 0 K .ret (yO s n i)=K (.tup [.int .i64 0,.bool false]) [] []:=by kernel_rfl
theorem VX(K:KC)(s:ByteArray)(n i:Int):aE ZZ (aB GT 0) Tryz.f133 wX 0 K (.exit 0) (yO s n i)=K (.tup [.int .i64 n,.bool true]) [] []:=by kernel_rfl
theorem KI(K:KC)(l:List Int)(hb:bB l)(hl:l.length<9223372036854775808): ∀(f:Nat) (i:Nat) (n:Int),i+f=l.length->K (.tup [.int .i64 ((DZ n (l.drop i)).getD 0),.bool (DZ n (l.drop i)).isSome]) [] []->
  bO ZZ (aB GT 0) Tryz.f133 wX 0 0 K (f+1) (yO (bytesOf l) n i)
 |0,i,n,hi,hK=>by
  rw [jB,FW,aR]
  refine Br.of (fun c=> ?_) fun _=> ?_
  ·have:=of_decide_eq_true c;omega
  ·show aE _ _ _ _ _ _ _ _
   rw [VX]
   rw [List.drop_of_length_le (by omega)] at hK
   exact hK
 |f+1,i,n,hi,hK=>by
  have hlt:i<l.length:=by omega
  rw [jB,FW,aR]
  refine Br.of (fun c=>If.mk ?_ ?_) fun c=> ?_
  ·simp only [Bool.and_eq_true,decide_eq_true_eq];omega
  ·show Br _ _ _
   rw [Int.toNat_natCast,yW hb]
   have hd:l.drop i=l.getD i 0::l.drop (i+1):=by
    rw [List.drop_eq_getElem_cons hlt,List.getD_eq_getElem?_getD,List.getElem?_eq_getElem hlt];rfl
   rw [hd] at hK
   unfold DZ at hK
   have hc:IntKind.u8.wrap (l.getD i 0 - 48)=I8 (l.getD i 0):=rfl
   rw [hc]
   refine Br.of (fun e=> ?_) fun e=> ?_
   ·rw [e] at hK
    show aE _ _ _ _ _ _ _ _
    rw [aCN]
    exact hK
   ·rw [e] at hK
    rw [show IntKind.i64.wrap ((i:Int)+1)=((i+1:Nat):Int) by rw [gY];omega]
    show bO _ _ _ _ _ _ _ _ _
    exact KI K l hb hl f (i+1) _ (by omega) hK
  ·have:=of_decide_eq_false c;omega
theorem fD(s:ByteArray)(m:Int):aD Tryz.prog aDj [.str s,.int .i64 m] [] (.tup [.int .i64 (nG (aA s) m),.bool (kL (aA s) m)]) [] []:=
 iC GT (fun _=>0) t3 2 (fun _ h=>nomatch h) fun ⟨hs,_⟩ _ K hK=>by
  have hs':s.size<9223372036854775808:=hs
  have hK:=hK [] fun _ h=>nomatch h
  rw [VB]
  unfold nG kL J4 at hK
  rw [bU] at hK
  have he:(s==⟨#[]⟩)=decide (s.size<1):=by
   have:=E2 (aA s)
   rw [dO,bU] at this
   exact this
  rw [he]
  refine Br.of (fun c=> ?_) fun c=>Br.of (fun d=> ?_) fun d=> ?_
  ·rw [c] at hK;exact hK
  ·rw [c,d] at hK;exact hK
  ·rw [c,d] at hK
   refine ⟨s.size+1, ?_⟩
   have:=KI K (aA s) (cQ s) (by rw [bU];exact hs') s.size 0 0 (by rw [bU];omega) hK
   rw [dO] at this
   exact this
noncomputable def b1 :bT Tryz.prog:=((((t4).add 132 (lI A3) (d6 fun xs σ v σ' d h=>by
  unfold A3 at h;split at h
  ·simp only [Option.some.injEq,Prod.mk.injEq] at h
   obtain ⟨h1,rfl,rfl,rfl⟩:=h
   first|exact aT h1|exact aT _ h1|exact aT _ _ h1|exact aT _ _ _ h1|exact aT _ _ _ _ h1|exact aT _ _ _ _ _ h1|exact aT _ _ _ _ _ _ h1|exact aT _ _ _ _ _ _ _ h1|exact aT _ _ _ _ _ _ _ _ h1|exact aT _ _ _ _ _ _ _ _ _ h1|exact aT _ _ _ _ _ _ _ _ _ _ h1|exact aT _ _ _ _ _ _ _ _ _ _ _ h1|exact aT _ _ _ _ _ _ _ _ _ _ _ _ h1|exact aT (of_decide_eq_true h1)|exact aT _ (of_decide_eq_true h1)|exact aT _ _ (of_decide_eq_true h1)|exact aT _ _ _ (of_decide_eq_true h1)|exact aT _ _ _ _ (of_decide_eq_true h1)|exact aT _ _ _ _ _ (of_decide_eq_true h1)|exact aT _ _ _ _ _ _ (of_decide_eq_true h1)|exact aT _ _ _ _ _ _ _ (of_decide_eq_true h1)|exact aT _ _ _ _ _ _ _ _ (of_decide_eq_true h1)|exact aT _ _ _ _ _ _ _ _ _ (of_decide_eq_true h1)|exact aT _ _ _ _ _ _ _ _ _ _ (of_decide_eq_true h1)|exact aT _ _ _ _ _ _ _ _ _ _ _ (of_decide_eq_true h1)|exact aT _ _ _ _ _ _ _ _ _ _ _ _ (of_decide_eq_true h1)
  ·cases h)).add 126 (lI aFS) (d6 fun xs σ v σ' d h=>by
  unfold aFS at h;split at h
  ·simp only [Option.some.injEq,Prod.mk.injEq] at h
   obtain ⟨h1,rfl,rfl,rfl⟩:=h
   first|exact d9 h1|exact d9 _ h1|exact d9 _ _ h1|exact d9 _ _ _ h1|exact d9 _ _ _ _ h1|exact d9 _ _ _ _ _ h1|exact d9 _ _ _ _ _ _ h1|exact d9 _ _ _ _ _ _ _ h1|exact d9 _ _ _ _ _ _ _ _ h1|exact d9 _ _ _ _ _ _ _ _ _ h1|exact d9 _ _ _ _ _ _ _ _ _ _ h1|exact d9 _ _ _ _ _ _ _ _ _ _ _ h1|exact d9 _ _ _ _ _ _ _ _ _ _ _ _ h1|exact d9 (of_decide_eq_true h1)|exact d9 _ (of_decide_eq_true h1)|exact d9 _ _ (of_decide_eq_true h1)|exact d9 _ _ _ (of_decide_eq_true h1)|exact d9 _ _ _ _ (of_decide_eq_true h1)|exact d9 _ _ _ _ _ (of_decide_eq_true h1)|exact d9 _ _ _ _ _ _ (of_decide_eq_true h1)|exact d9 _ _ _ _ _ _ _ (of_decide_eq_true h1)|exact d9 _ _ _ _ _ _ _ _ (of_decide_eq_true h1)|exact d9 _ _ _ _ _ _ _ _ _ (of_decide_eq_true h1)|exact d9 _ _ _ _ _ _ _ _ _ _ (of_decide_eq_true h1)|exact d9 _ _ _ _ _ _ _ _ _ _ _ (of_decide_eq_true h1)|exact d9 _ _ _ _ _ _ _ _ _ _ _ _ (of_decide_eq_true h1)
  ·cases h)).add 206 (lI P4) (d6 fun xs σ v σ' d h=>by
  unfold P4 at h;split at h
  ·simp only [Option.some.injEq,Prod.mk.injEq] at h
   obtain ⟨h1,rfl,rfl,rfl⟩:=h
   first|exact bM h1|exact bM _ h1|exact bM _ _ h1|exact bM _ _ _ h1|exact bM _ _ _ _ h1|exact bM _ _ _ _ _ h1|exact bM _ _ _ _ _ _ h1|exact bM _ _ _ _ _ _ _ h1|exact bM _ _ _ _ _ _ _ _ h1|exact bM _ _ _ _ _ _ _ _ _ h1|exact bM _ _ _ _ _ _ _ _ _ _ h1|exact bM _ _ _ _ _ _ _ _ _ _ _ h1|exact bM _ _ _ _ _ _ _ _ _ _ _ _ h1|exact bM (of_decide_eq_true h1)|exact bM _ (of_decide_eq_true h1)|exact bM _ _ (of_decide_eq_true h1)|exact bM _ _ _ (of_decide_eq_true h1)|exact bM _ _ _ _ (of_decide_eq_true h1)|exact bM _ _ _ _ _ (of_decide_eq_true h1)|exact bM _ _ _ _ _ _ (of_decide_eq_true h1)|exact bM _ _ _ _ _ _ _ (of_decide_eq_true h1)|exact bM _ _ _ _ _ _ _ _ (of_decide_eq_true h1)|exact bM _ _ _ _ _ _ _ _ _ (of_decide_eq_true h1)|exact bM _ _ _ _ _ _ _ _ _ _ (of_decide_eq_true h1)|exact bM _ _ _ _ _ _ _ _ _ _ _ (of_decide_eq_true h1)|exact bM _ _ _ _ _ _ _ _ _ _ _ _ (of_decide_eq_true h1)
  ·cases h)).add 133 (one RZ) (bD fun xs σ v σ' d h=>by
  unfold RZ at h;split at h<;>cases h;first|exact fD|exact fD _|exact fD _ _|exact fD _ _ _|exact fD _ _ _ _|exact fD _ _ _ _ _|exact fD _ _ _ _ _ _|exact fD _ _ _ _ _ _ _|exact fD _ _ _ _ _ _ _ _|exact fD _ _ _ _ _ _ _ _ _|exact fD _ _ _ _ _ _ _ _ _ _|exact fD _ _ _ _ _ _ _ _ _ _ _)
end Go.Proofs.YtghnfjfkjhbgdaaGreatDoor
namespace Go.Proofs.YtghnfjfkjhbgdaaGreatDoor
open Go.Se
set_option maxRecDepth 100000
theorem PG(s:ByteArray)(K:KC):run b1 2 168 [.str s] [] K=Br (!kL (aA s) 10) (K (.tup [.int .i64 0,.bool false]) [] [])
  ((fun k=>If (true&&(decide (0<=k)&&decide (k<=9))) (If (decide (s.size+(bytesOf (List.replicate k.toNat 48)).size<9223372036854775808)) ((fun z=>K (.tup [.int .i64 (nG (aA z) 10),.bool (kL (aA z) 10)]) [] []) (s++bytesOf (List.replicate k.toNat 48)))))
   (IntKind.i64.wrap (10 - (s.size:Int)))):=by kernel_rfl
theorem iZ(s:ByteArray):aD Tryz.prog 168 [.str s] [] (.tup [.int .i64 (uH (aA s)),.bool (AN (aA s))]) [] []:=
 aV b1 2 fun _ _ K hK=>by
  rw [PG]
  unfold uH AN at hK
  refine Br.of (fun c=> ?_) fun c=> ?_
  ·have:kL (aA s) 10=false:=by simpa using c
   rw [this] at hK;exact hK
  ·have hn:kL (aA s) 10=true:=by simpa using c
   obtain ⟨h1,h2⟩:=s7 hn
   rw [bU] at h1 h2
   rw [hn] at hK
   have hk:IntKind.i64.wrap (10 - (s.size:Int))=((10 - s.size:Nat):Int):=by rw [gY];omega
   rw [hk]
   refine If.mk (by simp only [Bool.true_and,Bool.and_eq_true,decide_eq_true_eq];omega) (If.mk ?_ ?_)
   ·rw [aR,List.length_replicate]
    exact decide_eq_true (by omega)
   ·have hz:aA (s++bytesOf (List.replicate (((10 - s.size:Nat):Int)).toNat 48))=D3 (aA s):=by
     conv=>lhs;rw [<- dO s]
     rw [jT,dO,cG (NI (cQ s) _)]
     unfold D3
     rw [bU,Int.toNat_natCast]
    show K (.tup [.int .i64 (nG (aA (s++bytesOf (List.replicate (((10 - s.size:Nat):Int)).toNat 48))) 10),.bool (kL (aA (s++bytesOf (List.replicate (((10 - s.size:Nat):Int)).toNat 48))) 10)]) [] []
    rw [hz]
    exact hK
noncomputable def b2 :bT Tryz.prog:=(b1).add 168 (one aDc) (bD fun xs σ v σ' d h=>by
  unfold aDc at h;split at h<;>cases h;first|exact iZ|exact iZ _|exact iZ _ _|exact iZ _ _ _|exact iZ _ _ _ _|exact iZ _ _ _ _ _|exact iZ _ _ _ _ _ _|exact iZ _ _ _ _ _ _ _|exact iZ _ _ _ _ _ _ _ _|exact iZ _ _ _ _ _ _ _ _ _|exact iZ _ _ _ _ _ _ _ _ _ _|exact iZ _ _ _ _ _ _ _ _ _ _ _)
theorem OC(s:ByteArray)(K:KC):run b2 3 129 [.str s] [] K=rdP s K:=by kernel_rfl
end Go.Proofs.YtghnfjfkjhbgdaaGreatDoor
namespace Go.Se
theorem OH{a:Int}(h0:0<=a)(h1:a<=255):I8 a>9↔ ¬(48<=a/\a<=57):=by
 unfold I8
 rw [show IntKind.u8.wrap (a - 48)=(a - 48)%256 from rfl]
 omega
theorem GF : ∀(l:List Int) (n:Int),bB l->(DZ n l).isSome=true->vE l
 | [],_,_,_=>fun x hx=>by cases hx
 |a::l,n,hb,h=>by
  unfold DZ at h
  have ha:=hb a (List.mem_cons_self ..)
  cases hd:decide (I8 a>9) with
  |true=>rw [hd] at h;cases h
  |false=>
   rw [hd] at h
   have hd:=of_decide_eq_false hd
   rw [OH ha.1 ha.2,Decidable.not_not] at hd
   intro x hx
   rcases List.mem_cons.1 hx with rfl|hx
   ·exact hd
   ·exact GF l _ (fun y hy=>hb y (List.mem_cons_of_mem _ hy)) h x hx
theorem zB{l:List Int}{m:Int}(hb:bB l)(h:kL l m=true):vE l:=by
 unfold kL at h
 cases hg:J4 l m with
 |true=>rw [hg] at h;cases h
 |false=>rw [hg] at h;exact GF l 0 hb h
theorem G5 : ∀(l:List Int) (n:Int) (k:Nat),vE l->0<=n->n<10^k->0<=rE n l/\rE n l<10^(k+l.length)
 | [],n,k,_,h0,h1=>⟨h0,h1⟩
 |a::l,n,k,hd,h0,h1=>by
  have ha:=hd a (List.mem_cons_self ..)
  have hp:(10:Int)^(k+1)=10^k*10:=Int.pow_succ 10 k
  have:=G5 l (10*n+(a - 48)) (k+1) (fun x hx=>hd x (List.mem_cons_of_mem _ hx)) (by omega) (by omega)
  rw [List.length_cons,show k+(l.length+1)=k+1+l.length by omega]
  exact this
theorem C9{l:List Int}{m:Int}(hb:bB l)(hm:m<=18)(h:kL l m=true):nG l m=rE 0 l/\0<=nG l m/\nG l m<10^l.length:=by
 have hd:=zB hb h
 have hl:=s7 h
 obtain ⟨_,h2⟩:=xT (most:=m) hd hl.1 hl.2 (by omega)
 have h3:=G5 l 0 0 hd (by decide) (by decide)
 rw [Nat.zero_add] at h3
 rw [h2]
 exact ⟨rfl,h3⟩
theorem JV{a b:Nat}(h:a<=b):(10:Int)^a<=10^b:=by
 have:=Nat.pow_le_pow_right (n:=10) (by decide) h
 exact_mod_cast this
def qL(l:List Int):Bool:=bif kL (dG 46 (cS l)) 10 then (bif fR 46 (cS l) then AN (iN 46 (cS l)) else true) else false
def vV(l:List Int):Int:=bif fR 46 (cS l) then uH (iN 46 (cS l)) else 0
def rA(l:List Int):Int:=nG (dG 46 (cS l)) 10*4294967296+nI (vV l*4294967296) 10000000000
def FE(l:List Int):Int:=bif kC l then -rA l else rA l
def s5(l:List Int):Int:=bif qL l then (bif rD (FE l) then 0 else 2) else 24
def sW(l:List Int):Int:=bif qL l&&rD (FE l) then FE l else 0
def iM(l:List Int):Int:=bif kL (cS l) 18 then 0 else 24
def e9(l:List Int):Int:=bif kL (cS l) 18 then (bif kC l then -nG (cS l) 18 else nG (cS l) 18) else 0
theorem kV{l:List Int}(h:bB l):bB (cS l):=fun x hx=>by
 unfold cS at hx
 cases hm:kC l with
 |true=>rw [hm] at hx;exact h x (List.mem_of_mem_tail hx)
 |false=>rw [hm] at hx;exact h x hx
theorem K2(c:Int): ∀(l:List Int) (x:Int),x∈dG c l->x∈l
 | [],_,h=>by cases h
 |a::l,x,h=>by
  unfold dG at h
  cases ha:a==c with
  |true=>rw [ha] at h;cases h
  |false=>
   rw [ha] at h
   rcases List.mem_cons.1 h with rfl|h
   ·exact List.mem_cons_self ..
   ·exact List.mem_cons_of_mem _ (K2 c l x h)
theorem JS(c:Int): ∀(l:List Int) (x:Int),x∈iN c l->x∈l
 | [],_,h=>by cases h
 |a::l,x,h=>by
  unfold iN at h
  cases ha:a==c with
  |true=>rw [ha] at h;exact List.mem_cons_of_mem _ h
  |false=>rw [ha] at h;exact List.mem_cons_of_mem _ (JS c l x h)
theorem sU{c:Int}{l:List Int}(h:bB l):bB (dG c l):=fun x hx=>h x (K2 c l x hx)
theorem rI{c:Int}{l:List Int}(h:bB l):bB (iN c l):=fun x hx=>h x (JS c l x hx)
theorem PK{l:List Int}(hb:bB l):0<=uH l/\uH l<10000000000:=by
 unfold uH
 cases h:kL l 10 with
 |false=>simp
 |true=>
  have hd:=zB hb h
  have hl:=s7 h
  have hp:vE (D3 l):=fun x hx=>by
   unfold D3 at hx
   rcases List.mem_append.1 hx with hx|hx
   ·exact hd x hx
   ·rw [List.eq_of_mem_replicate hx];omega
  have hlen:(D3 l).length=10:=by unfold D3;rw [List.length_append,List.length_replicate];omega
  have h2:=(xT (most:=10) hp (by omega) (by omega) (by omega)).2
  have h3:=G5 (D3 l) 0 0 hp (by decide) (by decide)
  rw [hlen] at h3
  simp only [cond_true]
  rw [h2]
  exact ⟨h3.1,h3.2⟩
theorem PY{f:Int}(h0:0<=f)(h1:f<10000000000):0<=nI (f*4294967296) 10000000000/\nI (f*4294967296) 10000000000<=4294967296:=by
 have hp:0<=f*4294967296:=by omega
 have hr:=FI _ hp
 have hn:DM (f*4294967296) 10000000000=iR (f*4294967296) 10000000000:=by
  unfold DM
  rw [show bG (f*4294967296)=f*4294967296 by unfold bG;rw [decide_eq_false (show¬f*4294967296<0 by omega)];rfl,show bG 10000000000=10000000000 by decide,
   decide_eq_false (show¬f*4294967296<0 by omega)];rfl
 unfold nI i0
 rw [hn,show ((10000000000:Int) !=0&&rD (iR (f*4294967296) 10000000000))=true by rw [(jS _).2 (by omega)];rfl]
 simp only [cond_true]
 omega
theorem yZ{l:List Int}(hb:bB l):0<=vV l/\vV l<10000000000:=by
 unfold vV
 cases fR 46 (cS l) with
 |false=>simp
 |true=>exact PK (rI (kV hb))
theorem KO{l:List Int}(hb:bB l)(h:qL l=true):0<=rA l/\rA l<=42949672960000000000:=by
 have hn:kL (dG 46 (cS l)) 10=true:=by
  unfold qL at h
  cases hn:kL (dG 46 (cS l)) 10 with
  |true=>rfl
  |false=>rw [hn] at h;cases h
 obtain ⟨_,h1,h2⟩:=C9 (sU (kV hb)) (by decide) hn
 have h3:=s7 hn
 have h4:=JV (show (dG 46 (cS l)).length<=10 by omega)
 obtain ⟨f0,f1⟩:=yZ hb
 obtain ⟨g0,g1⟩:=PY f0 f1
 unfold rA
 omega
theorem RD {Z:Int} {K:KC} (h0: -170141183460469231731687303715884105728<=Z) (h1:Z<=170141183460469231731687303715884105727)
  (hK:K (.tup [.int .i64 (bif rD Z then Z else 0),.int .i64 (bif rD Z then 0 else 2)]) [] []):rdF Z K:=by
 unfold rdF
 have hd: ∀x:Int,x.fdiv (2^min (63:Int).toNat IntKind.i64.bits)=x/9223372036854775808:=fun x=>by
  show x.fdiv 9223372036854775808=_
  exact iV _ (by decide)
 rw [hd]
 cases hz:rD Z with
 |true=>
  rw [jS] at hz
  have hw:IntKind.i64.wrap (Z%18446744073709551616)=Z:=by rw [gY];omega
  rw [hw]
  rw [(jS Z).2 hz] at hK
  refine Br.of (fun c=> ?_) fun _=>hK
  have:=bne_iff_ne.1 c
  omega
 |false=>
  rw [hz] at hK
  rw [<- Bool.not_eq_true,jS] at hz
  refine Br.of (fun _=>hK) fun c=> ?_
  rw [bne_eq_false_iff_eq,gY] at c
  omega
theorem WG{s:ByteArray}{K:KC}(hK:K (.tup [.int .i64 (sW (aA s)),.int .i64 (s5 (aA s))]) [] []):rdP s K:=by
 have hb:=cQ s
 generalize hl:aA s=l at hK hb
 unfold rdP
 rw [hl]
 have hmb:=kV hb
 rw [O8 hmb]
 show rdR _ _ _ _ _ _ _
 rw [O8 (sU hmb),O8 (rI hmb)]
 have hR:=KO (l:=l) hb
 have main:qL l=true->rdW (kC l) (nG (dG 46 (cS l)) 10) (vV l) K:=by
  intro hok
  obtain ⟨r0,r1⟩:=hR hok
  obtain ⟨f0,f1⟩:=yZ hb
  have hin: ∀x:Int,-42949672960000000001<x->x<42949672960000000001->fN x=true:=fun x a b=>(x6 x).2 (by omega)
  unfold rdW
  rw [qA]
  show Br _ _ _
  have hX:rdA (nG (dG 46 (cS l)) 10*4294967296) (nI (vV l*4294967296) 10000000000)=rA l:=by
   unfold rdA
   rw [qA,qA,hin _ (by unfold rA at r0;omega) (by unfold rA at r1;omega)];rfl
  rw [hX]
  unfold sW s5 FE at hK
  rw [hok] at hK
  refine Br.of (fun c=> ?_) fun c=> ?_
  ·rw [c] at hK
   have:rdM (rA l)= -rA l:=by
    unfold rdM
    rw [qA,hin _ (by omega) (by omega)];rfl
   rw [this]
   exact RD (by omega) (by omega) hK
  ·rw [c] at hK
   exact RD (by omega) (by omega) hK
 unfold rdR rdQ
 unfold qL vV at main
 unfold s5 sW qL at hK
 refine Br.of (fun c=> ?_) fun c=> ?_
 ·rw [c] at main hK
  refine Br.of (fun d=> ?_) fun d=> ?_
  ·rw [d] at main hK
   refine Br.of (fun e=> ?_) fun e=> ?_
   ·rw [Bool.not_eq_true'] at e
    rw [e] at hK;exact hK
   ·rw [Bool.not_eq_false'] at e
    exact main e
  ·rw [d] at main
   exact Br.of (fun e=>by rw [c] at e;cases e) fun _=>main rfl
 ·rw [c] at hK
  exact Br.of (fun _=>hK) fun e=>by rw [c] at e;cases e
def uY(a:Int):Bool:=a==32||a==9
def jN :List Int->List Int->List (List Int)
 |w,[]=>bif w.isEmpty then [] else [w]
 |w,a::l=>bif uY a then (bif w.isEmpty then jN [] l else w::jN [] l) else jN (w++[a]) l
def bW(l:List Int):List (List Int):=jN [] (dG 35 l)
def mR(c:Int):List Int->List Int->List (List Int)
 |w,[]=>[w]
 |w,a::l=>bif a==c then w::mR c [] l else mR c (w++[a]) l
def nW :List Int->List Int
 | []=>[]
 | [a]=>bif a==10 then [] else [a]
 |a::l=>a::nW l
def lnR :List Int->List Int->List (List Int)
 |w,[]=>bif w.isEmpty then [] else [w]
 |w,a::l=>bif a==10 then w::lnR [] l else lnR (w++[a]) l
def dZ(l:List Int):List (List Int):=lnR [] l
theorem W6 : ∀(l w:List Int),l≠[]->mR 10 w (nW l)=lnR w l
 | [],_,h=>absurd rfl h
 | [a],w,_=>by
  unfold nW lnR
  cases h:a==10 with
  |true=>rfl
  |false=>simp only [cond_false];unfold mR;rw [h];show [w++[a]]=lnR (w++[a]) [];unfold lnR;cases w<;>rfl
 |a::b::l,w,_=>by
  have ih:=fun w=>W6 (b::l) w (by simp)
  show mR 10 w (a::nW (b::l))=_
  unfold mR lnR
  rw [ih,ih]
theorem tF : ∀(m w r:List Int),(∀x,x∈m->uY x=false)->jN w (m++r)=jN (w++m) r
 | [],w,r,_=>by simp
 |a::m,w,r,h=>by
  rw [List.cons_append]
  conv=>lhs;unfold jN
  rw [h a (List.mem_cons_self ..),cond_false,tF m (w++[a]) r fun x hx=>h x (List.mem_cons_of_mem _ hx),List.append_assoc];rfl
theorem L4(c:Int): ∀(l w:List Int),mR c w l=bif fR c l then (w++dG c l)::mR c [] (iN c l) else [w++l]
 | [],w=>by simp [mR,fR]
 |a::l,w=>by
  have ih:=L4 c l (w++[a])
  show (bif a==c then w::mR c [] l else mR c (w++[a]) l)=bif (a==c||fR c l) then (w++bif a==c then [] else a::dG c l)::mR c [] (bif a==c then l else iN c l) else [w++a::l]
  cases h:a==c with
  |true=>simp
  |false=>
   simp only [cond_false,Bool.false_or]
   rw [ih]
   cases fR c l<;>simp
theorem wA(c:Int): ∀(l w:List Int),(mR c w l).length=l.countP (· ==c)+1
 | [],w=>rfl
 |a::l,w=>by
  unfold mR
  cases h:a==c with
  |true=>simp only [cond_true,List.length_cons,wA c l];rw [List.countP_cons_of_pos (by simpa using h)]
  |false=>simp only [cond_false,wA c l];rw [List.countP_cons_of_neg (by simpa using h)]
theorem XA{s:ByteArray}{p:Nat}(h:p<s.size):(s.get! p).toNat=(s.data.getD p 0).toNat:=by
 have h':p<s.data.size:=h
 show (s.data[p]!).toNat=_
 rw [getElem!_pos s.data p h',Array.getD_eq_getD_getElem?,Array.getElem?_eq_getElem h'];rfl
theorem HX(s:ByteArray)(p:Nat)(h:p<s.size):
  1<=(Utf8.decode s p).2/\p+(Utf8.decode s p).2<=s.size/\
  ((s.data.getD p 0).toNat<128->Utf8.decode s p=((s.data.getD p 0).toNat,1))/\(128<=(s.data.getD p 0).toNat->128<=(Utf8.decode s p).1)/\
  ∀j,0<j->j<(Utf8.decode s p).2->128<=(s.data.getD (p+j) 0).toNat:=by
 have e0:(s.get! (p+0)).toNat=(s.data.getD p 0).toNat:=XA h
 have eh:s[p]'h=s.data.getD p 0:=by
  rw [Array.getD_eq_getD_getElem?,Array.getElem?_eq_getElem (show p<s.data.size from h)];rfl
 have hc: ∀k,(decide (p+k<s.size)&&((s.get! (p+k)).toNat/64==2))=true->p+k<s.size/\128<=(s.data.getD (p+k) 0).toNat:=by
  intro k hk
  simp only [Bool.and_eq_true,decide_eq_true_eq,beq_iff_eq] at hk
  have:=XA hk.1
  exact ⟨hk.1,by omega⟩
 have key: ∀c w,Utf8.decode s p=(c,w)->1<=w/\p+w<=s.size/\ ∀j,0<j->j<w->128<=(s.data.getD (p+j) 0).toNat:=by
  intro c w hw
  unfold Utf8.decode at hw
  simp only at hw
  have one: ∀c':Nat,(c',1)=(c,w)->1<=w/\p+w<=s.size/\ ∀j,0<j->j<w->128<=(s.data.getD (p+j) 0).toNat:=by
   intro c' hh;cases hh;exact ⟨Nat.le_refl _,h,fun j h1 h2=>by omega⟩
  split at hw
  ·exact one _ hw
  ·split at hw
   ·rename_i _ h2
    simp only [Bool.and_eq_true] at h2
    have a1:=hc 1 (by simpa using h2.2)
    split at hw
    ·cases hw
     refine ⟨by omega,by omega,fun j j1 j2=> ?_⟩
     obtain rfl:j=1:=by omega
     exact a1.2
    ·exact one _ hw
   ·split at hw
    ·rename_i _ _ h2
     simp only [Bool.and_eq_true] at h2
     have a1:=hc 1 (by simpa using h2.1.2)
     have a2:=hc 2 (by simpa using h2.2)
     split at hw
     ·cases hw
      refine ⟨by omega,by omega,fun j j1 j2=> ?_⟩
      have:j=1\/j=2:=by omega
      rcases this with rfl|rfl
      ·exact a1.2
      ·exact a2.2
     ·exact one _ hw
    ·split at hw
     ·rename_i _ _ _ h2
      simp only [Bool.and_eq_true] at h2
      have a1:=hc 1 (by simpa using h2.1.1.2)
      have a2:=hc 2 (by simpa using h2.1.2)
      have a3:=hc 3 (by simpa using h2.2)
      split at hw
      ·cases hw
       refine ⟨by omega,by omega,fun j j1 j2=> ?_⟩
       have:j=1\/j=2\/j=3:=by omega
       rcases this with rfl|rfl|rfl
       ·exact a1.2
       ·exact a2.2
       ·exact a3.2
      ·exact one _ hw
     ·exact one _ hw
 obtain ⟨k1,k2,k3⟩:=key _ _ rfl
 refine ⟨k1,k2,fun ha=> ?_,fun ha=> ?_,k3⟩
 ·have:=decode_ascii s p h (by rw [eh];exact ha)
  rw [this,eh]
 ·exact (decode_high s p h (by rw [eh];exact ha)).1
end Go.Se
namespace Go.Se
variable {P:Program}
theorem fS{ρ:aG}{T:Nat->Prop}{w:World}{st:Nat}{g:Nat->List SV}{v:Value}(hv:rel ρ T w .nils v):rel ρ T w (.ro 0 st g) v:=by
 have h:v= .slice none 0 0:=hv
 exact ⟨none,0,h,⟨Nat.le_refl _,by decide,fun _=>rfl⟩,fun h0=>absurd h0 (Nat.lt_irrefl 0)⟩
theorem aCH.mono{k:FuncId}{vals:Array Value}{w:World}{R R':Value->World->Prop}(h:aCH P k vals w R)(hR: ∀x w',R x w'->R' x w'):aCH P k vals w R':=by
 rcases h with ⟨fn,h1,h2,h3,h4⟩|⟨x,w',h1,h2⟩
 ·exact .inl ⟨fn,h1,h2,h3,h4.mono fun e w' ⟨x,h5,h6⟩=>⟨x,h5,hR x w' h6⟩⟩
 ·exact .inr ⟨x,w',h1,hR x w' h2⟩
theorem p0{k:FuncId}{xs:List SV}{n st e:Nat}{g g':Nat->List SV}(hg: ∀i,i<n->g i=g' i/\(g' i).length=st)(h:aD P k xs [] (.own 0 0 st n) [some (.row e st n g)] []):aD P k xs [] (.ro n st g') [] []:=by
 intro ρ T w vals h1 h2 h3 h4
 refine (h ρ T w vals h1 h2 h3 h4).mono fun x w' ⟨ρ',T',hd⟩=> ?_
 obtain ⟨b,c,r1,rfl,r2,r3,_⟩:=hd.val
 obtain ⟨b',r4,r5,vs,r6,r7,r8⟩:=hd.store 0 _ rfl
 rw [r1] at r4;cases r4
 have hρ: ∀p,ρ p=none:=fun p=>by
  cases hp:ρ p with
  |none=>rfl
  |some b=>exact absurd (h4 p b hp).1 (Nat.not_lt_zero _)
 have hnew:w.heap.size<=b:=by
  rcases hd.fresh 0 b (Nat.le_refl _) r1 with h|⟨q,hq,_⟩
  ·exact h
  ·cases hq
 refine ⟨fun _=>none,fun c=>T' c/\c≠b,{
  names:=fun p b hp=>by rw [hρ] at hp;cases hp
  only:=fun p b hp=>by cases hp
  len:=Nat.le_refl _
  val:= ?_
  store:=fun p sb hp=>by simp at hp
  fresh:=fun p b _ hp=>by cases hp
  inj:=fun p q b _ _ hp=>by cases hp
  dirty:=fun p hp=>by cases hp
  grow:=hd.grow
  tback:=fun c hc ht=>hd.tback c hc ht.1
  below:=fun p b hp=>by cases hp
  tkeep:=fun c hc ht=>by
   rcases hd.tkeep c hc ht with h|⟨q,hq,_⟩
   ·exact .inl ⟨h,by omega⟩
   ·cases hq}⟩
 refine ⟨some ⟨b,0*st,none⟩,c,rfl,⟨r2,by omega,fun he=>by cases he⟩,fun _=>⟨b,0,by rw [Nat.zero_mul],(Array.getElem?_eq_some_iff.1 r6).1,fun ht=>ht.2 rfl,fun i hi=> ?_⟩⟩
 obtain ⟨e1,e2⟩:=hg i hi
 rw [<- e1]
 have hr:=aS (T':=fun c=>T' c/\c≠b) (fun _ _ h=>h) (fun _ _ h=>h.1) (aX.refl T' w') _ _ (r8 i hi)
 rw [Nat.zero_add]
 refine dJ hr fun j u hj=> ?_
 rw [dQ r6]
 rw [List.getElem?_take] at hj
 split at hj
 ·rw [List.getElem?_drop] at hj
  simpa using hj
 ·cases hj
theorem lB{k:FuncId}{xs:List SV}{σ σ':List (Option SB)}{d:List Nat}{st:Nat}{g:Nat->List SV}(h:aD P k xs σ .nils σ' d):aD P k xs σ (.ro 0 st g) σ' d:=
 fun ρ T w vals h1 h2 h3 h4=>(h ρ T w vals h1 h2 h3 h4).mono fun _ _ ⟨ρ',T',hd⟩=>⟨ρ',T',{hd with val:=fS hd.val}⟩
theorem pP{k:FuncId}{xs:List SV}{σ σ':List (Option SB)}{d:List Nat}{v v':SV}(hv: ∀ρ T w x,rel ρ T w v x->rel ρ T w v' x)(h:aD P k xs σ v σ' d):aD P k xs σ v' σ' d:=
 fun ρ T w vals h1 h2 h3 h4=>(h ρ T w vals h1 h2 h3 h4).mono fun _ _ ⟨ρ',T',hd⟩=>⟨ρ',T',{hd with val:=hv _ _ _ _ hd.val}⟩
theorem HA{k:FuncId}{xs:List SV}{st:Nat}{sb:SB}{g:Nat->List SV}(h:aD P k xs [] (.arr 0 0 0 0) [some sb] []):aD P k xs [] (.ro 0 st g) [] []:=by
 intro ρ T w vals h1 h2 h3 h4
 refine (h ρ T w vals h1 h2 h3 h4).mono fun x w' ⟨ρ',T',hd⟩=> ?_
 obtain ⟨⟨b,r1,rfl⟩,r2⟩:=hd.val
 have hρ: ∀p,ρ p=none:=fun p=>by
  cases hp:ρ p with
  |none=>rfl
  |some b=>exact absurd (h4 p b hp).1 (Nat.not_lt_zero _)
 refine ⟨fun _=>none,T',{
  names:=fun p b hp=>by rw [hρ] at hp;cases hp
  only:=fun p b hp=>by cases hp
  len:=Nat.le_refl _
  val:=⟨_,_,rfl,⟨Nat.le_refl _,r2,fun he=>by cases he⟩,fun h0=>absurd h0 (Nat.lt_irrefl 0)⟩
  store:=fun p sb hp=>by simp at hp
  fresh:=fun p b _ hp=>by cases hp
  inj:=fun p q b _ _ hp=>by cases hp
  dirty:=fun p hp=>by cases hp
  grow:=hd.grow
  tback:=hd.tback
  below:=fun p b hp=>by cases hp
  tkeep:=fun c hc ht=>by
   rcases hd.tkeep c hc ht with h|⟨q,hq,_⟩
   ·exact .inl h
   ·cases hq}⟩
theorem OF{k:FuncId}{st st':Nat}{g g':Nat->List SV}{sb:SB}(h0:aD P k [.nils] [] .nils [] [])(h1:aD P k [.emp] [] (.arr 0 0 0 0) [some sb] []):
  aD P k [.ro 0 st g] [] (.ro 0 st' g') [] []:=by
 intro ρ T w vals hv h2 h3 h4
 obtain ⟨v,r,hvs,hr,hl⟩:=hv
 obtain ⟨a,c,rfl,⟨_,_,hc⟩,_⟩:=hr
 cases a with
 |none=>
  rw [hc rfl] at hvs
  exact lB h0 ρ T w vals ⟨_,r,hvs,rfl,hl⟩ h2 h3 h4
 |some a=>exact HA h1 ρ T w vals ⟨_,r,hvs,⟨a,c,rfl⟩,hl⟩ h2 h3 h4
theorem qU {k:FuncId} {n st e:Nat} {g:Nat->List SV} (hg: ∀i,i<n->(g i).length=st) (hn:0<n->aD P k [.ro n st g] [] (.own 0 0 st n) [some (.row e st n g)] [])
  (h0:aD P k [.nils] [] .nils [] []) (h1:aD P k [.emp] [] (.arr 0 0 0 0) [some (.cells e [])] []):aD P k [.ro n st g] [] (.ro n st g) [] []:=by
 rcases Nat.eq_zero_or_pos n with rfl|h
 ·exact OF h0 h1
 ·exact p0 (fun i hi=>⟨rfl,hg i hi⟩) (hn h)
theorem oR{k:FuncId}{xs:List SV}{σ:List (Option SB)}{Φ:KC->Prop}(hΦ: ∀K,Φ K-> ∃v σ' d,K v σ' d)(h:okL xs->okS σ->Sat P k xs σ Φ):Sat P k xs σ Φ:=fun K hK=>by
 by_cases h1:okL xs/\okS σ
 ·exact h h1.1 h1.2 K hK
 ·obtain ⟨v,σ',d,hv⟩:=hΦ K hK
  exact ⟨v,σ',d,hv,mH fun h2 h3=>absurd ⟨h2,h3⟩ h1⟩
end Go.Se
namespace Go.Se
variable {env:Env} {W:Nat->St->Option St} {fn:Func} {path:List Nat} {blk:Nat} {KK:Ex->St->Prop}
abbrev eT(X:St->Prop)(KK:Ex->St->Prop):Ex->St->Prop:=fun e s=>match e with
 | .normal=>X s
 |e=>KK e s
theorem gV {A:Type} (S:A->St) (m:A->Nat) (I:A->Prop)
  (hr: ∀a,I a-> ∀X:St->Prop,(∀a',I a'->m a'<m a->X (S a'))->aF env W fn path blk (eT X KK) (S a)):
  ∀(f:Nat) (a:A),I a->m a<f->iter (aF env W fn path blk) KK f (S a)
 |0,_,_,h=>absurd h (Nat.not_lt_zero _)
 |f+1,a,ha,h=>by
  show aF env W fn path blk (eT (iter (aF env W fn path blk) KK f) KK) (S a)
  exact hr a ha _ fun a' ha' hm=>gV S m I hr f a' ha' (Nat.lt_of_lt_of_le hm (Nat.le_of_lt_succ h))
theorem iQ (S:Nat->St) (len:Nat) (I:Nat->Prop)
  (hr: ∀i,i<len->I i-> ∀X:St->Prop,(I (i+1)->X (S (i+1)))->aF env W fn path blk (eT X KK) (S i))
  (he:I len-> ∀X:St->Prop,aF env W fn path blk (eT X KK) (S len)) (h0:I 0):
  iter (aF env W fn path blk) KK (len+1) (S 0):=
 gV (fun a:Nat=>S a) (fun a=>len - a) (fun a=>a<=len/\I a) (fun a ⟨h1,h2⟩ X hX=>by
  rcases Nat.lt_or_eq_of_le h1 with h|rfl
  ·exact hr a h h2 X fun h3=>hX (a+1) ⟨h,h3⟩ (by omega)
  ·exact he h2 X) (len+1) 0 ⟨Nat.zero_le _,h0⟩ (by omega)
theorem aO{i n:Nat}(hi:i<n)(hn:n<9223372036854775808):IntKind.i64.wrap ((i:Int)+1)=((i+1:Nat):Int):=by
 rw [IntKind.wrap_i64];omega
def jM(p:Nat->Bool):Nat->Nat->Int
 |0,_=> -1
 |f+1,i=>bif p i then (i:Int) else jM p f (i+1)
def iE(p:Nat->Bool)(n:Nat):Bool:=decide (jM p n 0>=0)
theorem K7{p:Nat->Bool}: ∀{f i:Nat},jM p f i<0↔ ∀j,i<=j->j<i+f->p j=false
 |0,i=>⟨fun _ j h1 h2=>by omega,fun _=>by unfold jM;decide⟩
 |f+1,i=>by
  unfold jM
  cases h:p i
  ·simp only [cond_false]
   rw [K7]
   exact ⟨fun h1 j h2 h3=>by
    rcases Nat.eq_or_lt_of_le h2 with rfl|h4
    ·exact h
    ·exact h1 j h4 (by omega),fun h1 j h2 h3=>h1 j (by omega) (by omega)⟩
  ·simp only [cond_true]
   exact ⟨fun h1=>by omega,fun h1=>by have:=h1 i (Nat.le_refl _) (by omega);rw [h] at this;cases this⟩
theorem I9{p:Nat->Bool}: ∀{f i:Nat},0<=jM p f i-> ∃k:Nat,jM p f i=(k:Int)/\i<=k/\k<i+f/\p k=true/\ ∀j,i<=j->j<k->p j=false
 |0,i,h=>by unfold jM at h;omega
 |f+1,i,h=>by
  unfold jM at h|-
  cases hp:p i
  ·rw [hp] at h
   simp only [cond_false] at h|-
   obtain ⟨k,h1,h2,h3,h4,h5⟩:=I9 h
   refine ⟨k,h1,by omega,by omega,h4,fun j h6 h7=> ?_⟩
   rcases Nat.eq_or_lt_of_le h6 with rfl|h8
   ·exact hp
   ·exact h5 j h8 h7
  ·exact ⟨i,rfl,Nat.le_refl _,by omega,hp,fun j h1 h2=>by omega⟩
theorem sA{p:Nat->Bool}{n:Nat}:iE p n=true↔ ∃i,i<n/\p i=true:=by
 unfold iE
 rw [decide_eq_true_eq]
 constructor
 ·intro h
  obtain ⟨k,_,_,h3,h4,_⟩:=I9 h
  exact ⟨k,by omega,h4⟩
 ·rintro ⟨i,h1,h2⟩
  refine Int.not_lt.1 fun h=> ?_
  have:=K7.1 h i (Nat.zero_le _) (by omega)
  rw [h2] at this;cases this
theorem kT{p:Nat->Bool}{n:Nat}:iE p n=false↔ ∀i,i<n->p i=false:=by
 rw [<- Bool.not_eq_true,sA]
 exact ⟨fun h i hi=>by
  cases hp:p i
  ·rfl
  ·exact absurd ⟨i,hi,hp⟩ h,fun h ⟨i,hi,hp⟩=>by rw [h i hi] at hp;cases hp⟩
theorem mO {n0:Nat} {K:KC} {σ:List (Option SB)} (S:Int->Int->St) (n:Nat) (hn:n<9223372036854775808) (p:Nat->Bool)
  (hround: ∀(K:Ex->St->Prop) (i:Nat),aF env W fn path 0 K (S 0 i)=Br (decide ((i:Int)<n)) (If (decide (0<=(i:Int))&&decide ((i:Int)<n)) (Br (p i) (K .ret (S i i)) (K .normal (S 0 (IntKind.i64.wrap (i+1)))))) (K (.exit 0) (S 0 i)))
  (hret: ∀r i:Int,aE env W fn path n0 K .ret (S r i)=K (.int .i64 r) σ [])
  (hafter: ∀i:Int,aE env W fn path n0 K (.exit 0) (S 0 i)=K (.int .i64 (-1)) σ [])
  (hK:K (.int .i64 (jM p n 0)) σ []): ∃k,bO env W fn path 0 n0 K k (S 0 0):=by
 refine ⟨n+1,iQ (fun i:Nat=>S 0 i) n (fun i=>K (.int .i64 (jM p (n - i) i)) σ []) (fun i hi hI X hX=> ?_) (fun hI X=> ?_) (by rw [Nat.sub_zero];exact hK)⟩
 ·rw [hround]
  refine Br.of (fun _=>If.mk (by simp only [Bool.and_eq_true,decide_eq_true_eq];omega) (Br.of (fun c=> ?_) fun c=> ?_)) fun c=>absurd (of_decide_eq_false c) (by omega)
  ·rw [show n - i=(n - (i+1))+1 by omega] at hI
   unfold jM at hI;rw [c] at hI
   show aE env W fn path n0 K .ret (S i i)
   rw [hret];exact hI
  ·rw [show n - i=(n - (i+1))+1 by omega] at hI
   unfold jM at hI;rw [c] at hI
   show X _
   rw [aO hi hn];exact hX hI
 ·rw [hround]
  refine Br.of (fun c=>absurd (of_decide_eq_true c) (by omega)) fun _=> ?_
  show aE env W fn path n0 K (.exit 0) (S 0 n)
  rw [hafter]
  rw [Nat.sub_self] at hI;exact hI
theorem SN (S:Nat->St) (n:Nat) (p:Nat->Bool) (HIT:Nat->Prop) (END:Prop)
  (hr: ∀i,i<n-> ∀X:St->Prop,(p i=true->HIT i)->(p i=false->X (S (i+1)))->aF env W fn path blk (eT X KK) (S i))
  (he: ∀X:St->Prop,END->aF env W fn path blk (eT X KK) (S n))
  (hh: ∀i,i<n->p i=true->(∀j,j<i->p j=false)->HIT i) (hd:(∀j,j<n->p j=false)->END): ∃q,iter (aF env W fn path blk) KK q (S 0):=
 ⟨n+1,iQ S n (fun i=> ∀j,j<i->p j=false) (fun i hi hI X hX=>hr i hi X (fun h=>hh i hi h hI) fun h=>hX fun j hj=>by
  rcases Nat.lt_or_eq_of_le (Nat.le_of_lt_succ hj) with hj|rfl
  ·exact hI j hj
  ·exact h) (fun hI X=>he X (hd hI)) fun j hj=>absurd hj (Nat.not_lt_zero j)⟩
theorem nH{i n:Nat}{P:Prop}(hi:i<n)(h:(decide (0<=(i:Int))&&decide ((i:Int)<(n:Int)))=false):P:=by
 simp only [Bool.and_eq_false_iff,decide_eq_false_iff_not] at h;omega
theorem nF{i n:Nat}{P:Prop}(hi:i<n)(h:decide ((i:Int)<(n:Int))=false):P:=by
 have:=of_decide_eq_false h;omega
theorem mD{n:Nat}{P:Prop}(h:decide ((n:Int)<(n:Int))=true):P:=by
 have:=of_decide_eq_true h;omega
end Go.Se
namespace Go.Se
variable {P:Program}
def cB{α:Type}(e st id:Nat)(f:α->List SV)(L:List α)(o:SV)(b:Option SB):Prop:=
 (L=[]/\o= .nils/\b=none)\/(∃g,L≠[]/\o= .own id 0 st L.length/\b=some (.row e st L.length g)/\ ∀j (h:j<L.length),g j=f L[j])
theorem kQ{α:Type}{e st id:Nat}{f:α->List SV}:cB e st id f [] .nils none:= .inl ⟨rfl,rfl,rfl⟩
theorem ET{st:Nat}{c:List SV}(h:c.length=st):cut c (0*st) st=c:=by
 unfold cut;rw [Nat.zero_mul,List.drop_zero,<- h,List.take_length]
theorem eO{α:Type}{e st id:Nat}{f:α->List SV}{x:α}{c:List SV}(hc:c=f x)(h:c.length=st):cB e st id f [x] (.own id 0 st 1) (some (.row e st 1 fun i=>cut c (i*st) st)):=
 .inr ⟨_,by simp,rfl,rfl,fun j hj=>by
  have hj':j<1:=hj
  obtain rfl:j=0:=by omega
  show cut c (0*st) st=_
  rw [ET h,hc];rfl⟩
theorem fM{α:Type}{e st id m:Nat}{f:α->List SV}{L:List α}{g:Nat->List SV}{x:α}{c:List SV}(hc:c=f x)(hm:m=L.length)(hg: ∀j (h:j<L.length),g j=f L[j]):
  cB e st id f (L++[x]) (.own id 0 st (m+1)) (some (.row e st (m+1) (bI m c g))):=
 .inr ⟨bI m c g,by simp,by rw [hm];simp,by rw [hm];simp,fun j hj=>by
  unfold bI
  by_cases h:j=m
  ·subst h
   rw [decide_eq_true rfl]
   simp only [cond_true,hm,List.getElem_concat_length]
   exact hc
  ·rw [decide_eq_false h]
   simp only [List.length_append,List.length_cons,List.length_nil] at hj
   have hj':j<L.length:=by omega
   rw [List.getElem_append_left hj']
   exact hg j hj'⟩
def nN{α:Type}(e st:Nat)(f:α->List SV)(L:List α)(K:KC):Prop:=
 (L=[]->K .nils [] [])/\ ∀g,L≠[]->(∀j (h:j<L.length),g j=f L[j])->K (.own 0 0 st L.length) [some (.row e st L.length g)] []
def aY{α:Type}(f:α->List SV)(d:α)(L:List α):Nat->List SV:=fun i=>f (L.getD i d)
theorem dM{α:Type}{f:α->List SV}{d:α}{L:List α}{i:Nat}(h:i<L.length):aY f d L i=f L[i]:=by
 unfold aY;rw [List.getD_eq_getElem?_getD,List.getElem?_eq_getElem h];rfl
theorem yE{α:Type}{k:FuncId}{xs:List SV}{e st:Nat}{f:α->List SV}{d0:α}{L:List α}(hf: ∀x,(f x).length=st)(h:Sat P k xs [] (nN e st f L)):aD P k xs [] (.ro L.length st (aY f d0 L)) [] []:=by
 obtain ⟨v,σ',d,hv,hc⟩:=h (fun v σ' d=>(L=[]/\v= .nils/\σ'=[]/\d=[])\/ ∃g,(∀j (h:j<L.length),g j=f L[j])/\v= .own 0 0 st L.length/\σ'=[some (.row e st L.length g)]/\d=[])
  ⟨fun hL=> .inl ⟨hL,rfl,rfl,rfl⟩,fun g _ hg=> .inr ⟨g,hg,rfl,rfl,rfl⟩⟩
 rcases hv with ⟨rfl,rfl,rfl,rfl⟩|⟨g,hg,rfl,rfl,rfl⟩
 ·exact lB hc
 ·exact p0 (fun i hi=>⟨by rw [hg i hi,dM hi],by rw [dM hi];exact hf _⟩) hc
end Go.Se
namespace Go.Se
variable {P:Program}
theorem P2 {k:FuncId} {xs:List SV} {σ:List (Option SB)} {v:SV} {e:TypeId} {cs:List SV} {st n:Nat} {d:List Nat} (hf:ids.idsL cs=[]) (hl:cs.length=n*st)
  (h:aD P k xs σ v [some (.lst e cs)] d):aD P k xs σ v [some (.row e st n (fun i=>cut cs (i*st) st))] d:=by
 intro ρ T w vals h1 h2 h3 h4
 refine (h ρ T w vals h1 h2 h3 h4).mono fun x w' ⟨ρ',T',hd⟩=>⟨ρ',T',{
  names:=hd.names
  only:=hd.only
  len:=hd.len
  val:=hd.val
  store:=fun p sb hp=>by
   match p,hp with
   |0,hp=>
    cases hp
    obtain ⟨b,e1,e2,e3⟩:=hd.store 0 _ rfl
    exact ⟨b,e1,e2,oT hf hl e3⟩
   |p+1,hp=>simp at hp
  fresh:=fun p b hp hb=>by
   rcases hd.fresh p b hp hb with h|⟨q,h5,h6,h7⟩
   ·exact .inl h
   ·exfalso;cases q<;>simp at h6
  inj:=hd.inj
  dirty:=hd.dirty
  grow:=hd.grow
  tback:=hd.tback
  below:=hd.below
  tkeep:=fun b hb hT=>by
   rcases hd.tkeep b hb hT with h|⟨q,h5,h6,h7⟩
   ·exact .inl h
   ·exfalso;cases q<;>simp at h6}⟩
def aAy{α:Type}(e st:Nat)(f:α->List SV)(L:List α)(v:SV)(σ':List (Option SB)):Prop:=
 (L=[]/\v= .nils/\σ'=[])\/(∃g,v= .own 0 0 st L.length/\σ'=[some (.row e st L.length g)]/\ ∀j (h:j<L.length),g j=f L[j])\/(∃x,L=[x]/\v= .own 0 0 st 1/\σ'=[some (.lst e (f x))])
def s6{α:Type}(e st:Nat)(f:α->List SV)(L:List α)(K:KC):Prop:= ∀v σ',aAy e st f L v σ'->K v σ' []
theorem D5{α:Type}{e st:Nat}{f:α->List SV}{L:List α}{K:KC}(d:α)(h:s6 e st f L K): ∃v σ' dd,K v σ' dd:=by
 cases L with
 |nil=>exact ⟨_,_,_,h _ _ (.inl ⟨rfl,rfl,rfl⟩)⟩
 |cons a L=>exact ⟨_,_,_,h _ _ (.inr (.inl ⟨aY f d (a::L),rfl,rfl,fun j hj=>dM hj⟩))⟩
theorem G0{α:Type}{k:FuncId}{xs:List SV}{e st:Nat}{f:α->List SV}{d0:α}{L:List α}(hf: ∀x,(f x).length=st)(hi: ∀x,ids.idsL (f x)=[])(h:Sat P k xs [] (s6 e st f L)):aD P k xs [] (.ro L.length st (aY f d0 L)) [] []:=by
 obtain ⟨v,σ',d,⟨hv,rfl⟩,hc⟩:=h (fun v σ' d=>aAy e st f L v σ'/\d=[]) fun v σ' hv=>⟨hv,rfl⟩
 rcases hv with ⟨rfl,rfl,rfl⟩|⟨g,rfl,rfl,hg⟩|⟨x,rfl,rfl,rfl⟩
 ·exact lB hc
 ·exact p0 (fun i hi=>⟨by rw [hg i hi,dM hi],by rw [dM hi];exact hf _⟩) hc
 ·have:=P2 (n:=1) (hi x) (by rw [hf,Nat.one_mul]) hc
  refine p0 (fun i hi=> ?_) this
  obtain rfl:i=0:=Nat.lt_one_iff.1 hi
  refine ⟨?_,by rw [dM (by simp)];exact hf _⟩
  rw [dM (by simp)]
  exact ET (hf x)
end Go.Se
namespace Go.Se
def jE(x:List Int):List SV:=[.str (bytesOf x)]
abbrev aH(p:List (List Int)):Nat->List SV:=aY jE [] p
def LL(x:Int×List (List Int)):List SV:=[.int .i64 x.1,.ro x.2.length 1 (aH x.2)]
abbrev qG(q:List (Int×List (List Int))):Nat->List SV:=aY LL (0,[]) q
structure Bk where
 q:List (Int×List (List Int))
 last:Int
 err:Int
 place:Int
def bkC(all:Int)(b:Bk):List SV:=[.ro b.q.length 2 (qG b.q),.int .i64 all,.int .i64 b.last,.int .i64 b.err,.int .i64 b.place]
def nbF :Int->List (List Int)->List (Int×List (List Int))
 |_,[]=>[]
 |k,t::r=>bif (bW t).isEmpty then nbF (k+1) r else (k+1,bW t)::nbF (k+1) r
def wfQ(q:List (Int×List (List Int))):Prop:= ∀x,x∈q->x.2≠[]
theorem OZ : ∀(l:List (List Int)) (k:Int),wfQ (nbF k l)
 | [],_=>fun x hx=>by cases hx
 |t::r,k=>fun x hx=>by
  unfold nbF at hx
  cases h:(bW t).isEmpty with
  |true=>rw [h] at hx;exact OZ r (k+1) x hx
  |false=>
   rw [h] at hx
   rcases List.mem_cons.1 hx with rfl|hx
   ·intro e;simp only at e;rw [e] at h;cases h
   ·exact OZ r (k+1) x hx
def jH(l:List Int):Bk:=⟨nbF 0 (dZ l),0,0,0⟩
def rF(l:List Int):Int:=(dZ l).length
def kK(b:Bk)(e at':Int):Bk:=bif b.err==0&&e !=0 then {b with err:=e,place:=at'} else b
def dA(q:List (Int×List (List Int))):Int×List (List Int):=q.getD 0 (0,[])
def lZ(b:Bk)(w:ByteArray)(lo hi:Int):Int:=
 bif b.q.isEmpty then 20 else bif !(bytesOf ((dA b.q).2.getD 0 [])==w) then 21 else bif decide ((((dA b.q).2.length:Int) - 1)<lo)||decide ((((dA b.q).2.length:Int) - 1)>hi) then 22 else 0
def fV(b:Bk)(w:ByteArray)(lo hi:Int):Bool:=b.err !=0||lZ b w lo hi !=0
def gJ(all:Int)(b:Bk)(w:ByteArray)(lo hi:Int):Bk:=
 bif b.err !=0 then b else bif lZ b w lo hi==0 then {b with q:=b.q.tail,last:=(dA b.q).1} else {b with err:=lZ b w lo hi,place:=bif b.q.isEmpty then all+1 else (dA b.q).1}
def iD(b:Bk):List (List Int):=(dA b.q).2.tail
def fG(b:Bk)(w:ByteArray):Bool:=b.err==0&&(!b.q.isEmpty&&(bytesOf ((dA b.q).2.getD 0 [])==w))
def wK(b:Bk)(l:List Int):Int:=bif b.err==0 then sW l else 0
def kH(b:Bk)(l:List Int):Bk:=kK b (s5 l) b.last
def xS(l:List Int)(lo hi:Int):Int:=bif iM l==0 then (bif decide (e9 l<lo)||decide (e9 l>hi) then 40 else 0) else 24
def kF(b:Bk)(l:List Int)(lo hi:Int):Int:=bif b.err==0&&xS l lo hi==0 then e9 l else 0
def iI(b:Bk)(l:List Int)(lo hi:Int):Bk:=kK b (xS l lo hi) b.last
def rL(s:ByteArray):List ByteArray->Nat
 | []=>0
 |a::l=>bif a==s then 0 else rL s l+1
def aEt(s:ByteArray)(l:List ByteArray):Int:=bif decide (rL s l<l.length) then 0 else 24
def oA(b:Bk)(s:ByteArray)(l:List ByteArray):Int:=bif b.err==0&&decide (rL s l<l.length) then (rL s l:Int) else 0
def jZ(b:Bk)(s:ByteArray)(l:List ByteArray):Bk:=kK b (aEt s l) b.last
def vI(b:Bk):Bk:=kK b 22 b.last
def G9(b:Bk):Int:=bif b.err !=0 then b.err else bif b.q.isEmpty then 0 else 23
def J2(b:Bk):Int:=bif b.err !=0 then b.place else bif b.q.isEmpty then b.place else (dA b.q).1
def ZO(b:Bk):Bk:=bif b.q.isEmpty then b else kK b 23 (dA b.q).1
def t7(X:Nat->ByteArray):Nat->List SV:=fun i=>[.str (X i)]
def D1(i:Nat)(v:ByteArray)(X:Nat->ByteArray):Nat->ByteArray:=fun j=>bif decide (j=i) then v else X j
theorem rX(i:Nat)(v:ByteArray)(X:Nat->ByteArray):bI i [.str v] (t7 X)=t7 (D1 i v X):=by
 funext j;unfold bI t7 D1;cases decide (j=i)<;>rfl
theorem ON(p:List (List Int)):(fun i=>aH p (i+1))=aH p.tail:=by
 funext i;cases p<;>rfl
theorem aCx(q:List (Int×List (List Int))):(fun i=>qG q (i+1))=qG q.tail:=by
 funext i;cases q<;>rfl
def RB(L:List (List Int))(pos:Nat)(b:Bk):Prop:=pos<=L.length/\b.q=nbF pos (L.drop pos)
theorem E3{L:List (List Int)}{pos:Nat}(h:pos<L.length)(hp:bW (L.getD pos [])=[]):nbF pos (L.drop pos)=nbF (pos+1:Nat) (L.drop (pos+1)):=by
 rw [List.drop_eq_getElem_cons h]
 rw [List.getD_eq_getElem?_getD,List.getElem?_eq_getElem h] at hp
 conv=>lhs;unfold nbF
 rw [show bW L[pos]=[] from hp]
 push_cast;rfl
theorem LT{L:List (List Int)}{pos:Nat}(h:pos<L.length)(hp:bW (L.getD pos [])≠[]):nbF pos (L.drop pos)=((pos:Int)+1,bW (L.getD pos []))::nbF (pos+1:Nat) (L.drop (pos+1)):=by
 rw [List.drop_eq_getElem_cons h]
 rw [List.getD_eq_getElem?_getD,List.getElem?_eq_getElem h] at hp|-
 conv=>lhs;unfold nbF
 rw [show (bW L[pos]).isEmpty=false by cases hh:bW L[pos] with|nil=>exact absurd hh hp|cons=>rfl]
 push_cast;rfl
theorem RI{L:List (List Int)}:nbF L.length (L.drop L.length)=[]:=by rw [List.drop_length];rfl
end Go.Se
namespace Go.Se
theorem MO{l:List Int}(h:bB l){c:Int}(hc:0<=c)(hc':c<=255):oL (bytesOf l) c=l.countP (· ==c):=by
 unfold oL bytesOf
 simp only [List.countP_map]
 refine List.countP_congr fun x hx=> ?_
 have:=h x hx
 simp only [Function.comp,beq_iff_eq]
 rw [<- UInt8.toNat_inj]
 simp only [UInt8.toNat_ofNat',Nat.toUInt8_eq]
 omega
theorem aCg{l:List Int}(h:bB l){c:Int}(hc:0<=c)(hc':c<=255):fH (bytesOf l) c=bif fR c l then ((dG c l).length:Int) else -1:=by
 rw [u4 h hc hc',nP]
 cases fR c l<;>simp
theorem KW{c:Int}(l:List Int):(bytesOf l).extract 0 (dG c l).length=bytesOf (dG c l):=by
 rw [c9,List.drop_zero,Nat.sub_zero,oU]
theorem J5{c:Int}{l:List Int}(h:fR c l=true):(bytesOf l).extract ((dG c l).length+1) l.length=bytesOf (iN c l):=by
 obtain ⟨h1,h2⟩:=vG c l h
 rw [c9,h1,List.take_of_length_le]
 rw [<- h1,List.length_drop];exact Nat.le_refl _
theorem ZT{c:Int}{l:List Int}(h:fR c l=true):(dG c l).length+1+(iN c l).length=l.length:=by
 have:=congrArg List.length (GH c l h)
 simp only [List.length_append,List.length_cons] at this
 omega
theorem lA{α:Type}{q:List α}{i:Nat}{x:α}{r:List α}(h:q.drop i=x::r):i<q.length/\(∀d,q.getD i d=x)/\q.drop (i+1)=r:=by
 have hi:i<q.length:=by
  refine Nat.not_le.1 fun hh=> ?_
  rw [List.drop_of_length_le hh] at h;cases h
 rw [List.drop_eq_getElem_cons hi] at h
 cases h
 exact ⟨hi,fun d=>by rw [List.getD_eq_getElem?_getD,List.getElem?_eq_getElem hi];rfl,rfl⟩
theorem H5{α:Type}{e st:Nat}{f:α->List SV}{L:List α}{K:KC}(d:α)(h:nN e st f L K): ∃v σ' dd,K v σ' dd:=by
 by_cases hL:L=[]
 ·exact ⟨_,_,_,h.1 hL⟩
 ·exact ⟨_,_,_,h.2 (aY f d L) hL fun j hj=>dM hj⟩
end Go.Se
namespace Go.Se
theorem zU : ∀l:List Int,nW l=bif l.drop (l.length - 1)==[10] then l.take (l.length - 1) else l
 | []=>rfl
 | [a]=>by
  show (bif a==10 then [] else [a])=bif ([a]:List Int)==[10] then [] else [a]
  rw [show (([a]:List Int)==[10])=(a==10) by simp [Bool.and_true]]
 |a::b::l=>by
  have ih:=zU (b::l)
  show a::nW (b::l)=_
  rw [ih]
  show _=bif (b::l).drop ((b::l).length - 1)==[10] then a::(b::l).take ((b::l).length - 1) else a::b::l
  cases (b::l).drop ((b::l).length - 1)==[10]<;>rfl
theorem XD{s:ByteArray}{K:KC}(hs:s.size<9223372036854775808)(hK:K (.str (bytesOf (nW (aA s)))) [] []):
  (Br (decide ((↑s.size:Int)>=1)) (Br (decide (0<=IntKind.i64.wrap ((↑s.size:Int) - 1))&&(decide (IntKind.i64.wrap ((↑s.size:Int) - 1)<=(↑s.size:Int))&&decide ((↑s.size:Int)<=(↑s.size:Int)))) (Br (s.extract (IntKind.i64.wrap ((↑s.size:Int) - (↑(⟨#[10]⟩:ByteArray).size:Int))).toNat (↑s.size:Int).toNat==(⟨#[10]⟩:ByteArray)) (Br (true&&(decide (0<=IntKind.i64.wrap ((↑s.size:Int) - 1))&&decide (IntKind.i64.wrap ((↑s.size:Int) - 1)<=(↑s.size:Int)))) (K (SV.str (s.extract 0 (IntKind.i64.wrap ((↑s.size:Int) - 1)).toNat)) [] []) (False)) (K (SV.str s) [] [])) (False)) (K (SV.str s) [] [])):=by
 have hb:=cQ s
 have hl:=bU s
 rw [zU] at hK
 generalize hm:aA s=l at hK hb hl
 have hsl:s=bytesOf l:=by rw [<- hm,dO]
 have hz:((⟨#[10]⟩:ByteArray).size:Int)=1:=rfl
 rw [hz]
 refine Br.of (fun c=> ?_) fun c=> ?_
 ·have c:=of_decide_eq_true c
  have hw:IntKind.i64.wrap ((s.size:Int) - 1)=((s.size - 1:Nat):Int):=by rw [gY];omega
  simp only [hw,Int.toNat_natCast]
  refine Br.of (fun _=> ?_) fun e=>absurd e (by simp)
  have e1:(s.extract (s.size - 1) s.size==(⟨#[10]⟩:ByteArray))=(l.drop (l.length - 1)==[10]):=by
   rw [hl,hsl,aR,c9,show (⟨#[10]⟩:ByteArray)=bytesOf [10] from rfl,
    F6 (fun x hx=>hb x (List.mem_of_mem_drop (List.mem_of_mem_take hx))) (fun x hx=>by simp at hx;omega),List.take_of_length_le (by rw [List.length_drop];exact Nat.le_refl _)]
   rw [Bool.eq_iff_iff];simp
  rw [e1]
  refine Br.of (fun d=>Br.of (fun _=> ?_) fun e=>absurd e (by simp)) fun d=> ?_
  ·rw [d] at hK
   rw [hsl,aR,c9,List.drop_zero,Nat.sub_zero]
   exact hK
  ·rw [d] at hK;rw [hsl];exact hK
 ·have c:=of_decide_eq_false c
  have:l=[]:=List.eq_nil_of_length_eq_zero (by omega)
  subst this
  rw [hsl];exact hK
end Go.Se
namespace Go.Se
theorem QU{m:Nat}(h:m<=1099511627){P:Prop}(c:(decide ((m+1)*16<=1099511627776)&&decide (m+1<9223372036854775808)&&decide (m=m))=false):P:=by
 rw [Bool.and_eq_false_iff,Bool.and_eq_false_iff] at c
 rcases c with (c|c)|c
 ·have:=of_decide_eq_false c;omega
 ·have:=of_decide_eq_false c;omega
 ·exact absurd rfl (of_decide_eq_false c)
theorem H1 : ∀(l w:List Int),(lnR w l).length<=l.length+1
 | [],w=>by unfold lnR;cases w.isEmpty<;>simp
 |a::l,w=>by
  unfold lnR
  cases a==10
  ·simp only [cond_false,List.length_cons];have:=H1 l (w++[a]);omega
  ·simp only [cond_true,List.length_cons];have:=H1 l [];omega
theorem EN{l:List Int}{i:Nat}(h:i<l.length):l.drop i=l.getD i 0::l.drop (i+1):=by
 rw [List.drop_eq_getElem_cons h,List.getD_eq_getElem?_getD,List.getElem?_eq_getElem h];rfl
end Go.Se
namespace Go.Se
theorem SO{l:List Int}{K:KC}(hb:bB l)(hl:l.length<9223372036854775808)(hK:K (.tup [.str (bytesOf (dG 35 l)),.str (bytesOf (iN 35 l)),.bool (fR 35 l)]) [] []):
  Br ((⟨#[35]⟩:ByteArray)==bytesOf l) (If (true&&(decide ((1:Int)<=((bytesOf l).size:Int))&&decide (((bytesOf l).size:Int)<=((bytesOf l).size:Int)))) (K (.tup [.str ((bytesOf l).extract 0 0),.str ((bytesOf l).extract 1 ((bytesOf l).size:Int).toNat),.bool true]) [] []))
   (Br (decide (fH (bytesOf l) 35>=0)) (If (true&&(decide ((0:Int)<=fH (bytesOf l) 35)&&decide (fH (bytesOf l) 35<=((bytesOf l).size:Int))))
    (If (decide (0<=IntKind.i64.wrap (fH (bytesOf l) 35+1))&&(decide (IntKind.i64.wrap (fH (bytesOf l) 35+1)<=((bytesOf l).size:Int))&&decide (((bytesOf l).size:Int)<=((bytesOf l).size:Int))))
     (K (.tup [.str ((bytesOf l).extract 0 (fH (bytesOf l) 35).toNat),.str ((bytesOf l).extract (IntKind.i64.wrap (fH (bytesOf l) 35+1)).toNat ((bytesOf l).size:Int).toNat),.bool true]) [] [])))
    (K (.tup [.str (bytesOf l),.str ⟨#[]⟩,.bool false]) [] [])):=by
 rw [u4 hb (by decide) (by decide),nP,aR]
 refine Br.of (fun c=> ?_) fun _=> ?_
 ·have hl1:l=[35]:=by
   rw [jC,beq_iff_eq] at c
   have c:bytesOf [35]=bytesOf l:=ByteArray.ext c
   have:=congrArg aA c
   rw [cG hb,cG (fun x hx=>by rcases List.mem_singleton.1 hx with rfl;omega)] at this
   exact this.symm
  subst hl1
  exact If.mk rfl hK
 ·cases hh:fR 35 l with
  |false=>
   rw [hh,pJ _ _ hh,xC _ _ hh] at hK
   refine Br.of (fun c=> ?_) fun _=>hK
   have:=of_decide_eq_true c
   simp at this
  |true=>
   obtain ⟨h1,h2⟩:=vG 35 l hh
   have h3:=oU 35 l
   rw [hh] at hK
   simp only [cond_true,Nat.zero_add]
   have hw:IntKind.i64.wrap ((((dG 35 l).length:Nat):Int)+1)=(((dG 35 l).length+1:Nat):Int):=by rw [gY];omega
   rw [hw,c9,c9]
   simp only [Int.toNat_natCast,List.drop_zero,Nat.sub_zero]
   rw [h3,h1,show (iN 35 l).take (l.length - ((dG 35 l).length+1))=iN 35 l by rw [<- h1,<- List.length_drop,List.take_length]]
   refine Br.of (fun _=>If.mk ?_ (If.mk ?_ hK)) fun c=> ?_
   ·simp only [Bool.true_and,Bool.and_eq_true,decide_eq_true_eq];omega
   ·simp only [Bool.and_eq_true,decide_eq_true_eq];omega
   ·have:=of_decide_eq_false c
    omega
def spC(x:Int×Int):List SV:=[.int .i64 x.1,.int .i64 x.2]
abbrev spG(S:List (Int×Int)):Nat->List SV:=aY spC (0,0) S
theorem CK{α:Type}{f:α->List SV}{d x:α}{L:List α}:bI L.length (f x) (aY f d L)=aY f d (L++[x]):=by
 funext i
 unfold bI aY
 by_cases h:i=L.length
 ·rw [decide_eq_true h,h];simp
 ·rw [decide_eq_false h]
  by_cases h2:i<L.length
  ·simp [List.getElem?_append_left h2]
  ·simp [List.getElem?_append_right (Nat.not_lt.1 h2),List.getElem?_eq_none (Nat.not_lt.1 h2),List.getElem?_eq_none (show [x].length<=i - L.length by simp;omega)]
end Go.Se
namespace Go.Se
theorem tU(w:List Int)(a:Int)(l:List Int):jN w (a::l)=bif uY a then (bif w.isEmpty then jN [] l else w::jN [] l) else jN (w++[a]) l:=rfl
theorem CW(w:List Int):jN w []=bif w.isEmpty then [] else [w]:=rfl
theorem wH{α:Type}{L:List α}{i:Nat}{d:α}(h:i<L.length):L.getD i d∈L:=by
 rw [List.getD_eq_getElem?_getD,List.getElem?_eq_getElem h];exact List.getElem_mem h
theorem xZ(s:ByteArray)(i:Nat):(aA s).getD i 0=((s.data.getD i 0).toNat:Int):=by
 have:=yW (cQ s) i
 rw [dO] at this
 exact this.symm
theorem aBI{st:Int}(h0:0<=st)(h1:st<9223372036854775808):IntKind.i64.wrap (((BitVec.ofInt IntKind.i64.bits (if IntKind.i64.signed=true then -1 else IntKind.i64.max)^^^BitVec.ofInt IntKind.i64.bits st).toNat:Nat):Int)= -1 - st:=by
 have e:(if IntKind.i64.signed=true then (-1:Int) else IntKind.i64.max)= -1:=rfl
 rw [e]
 have h2:(BitVec.ofInt 64 (-1):BitVec 64)=BitVec.allOnes 64:=by decide
 show IntKind.i64.wrap (((BitVec.ofInt 64 (-1)^^^BitVec.ofInt 64 st).toNat:Nat):Int)=_
 rw [h2,BitVec.allOnes_xor,BitVec.toNat_not,BitVec.toNat_ofInt,gY]
 omega
def EH(l:List Int)(x:Int×Int):List Int:=(l.drop x.1.toNat).take (x.2.toNat - x.1.toNat)
def wAt(l:List Int)(st:Int)(pos:Nat):List Int:=bif decide (st<0) then [] else (l.drop st.toNat).take (pos - st.toNat)
structure ffI (l:List Int) (S:List (Int×Int)) (st:Int) (pos:Nat):Prop where
 le:pos<=l.length
 len:S.length<=pos
 st1:0<=st->st<pos
 ok: ∀x,x∈S->0<=x.1/\x.1<=x.2/\x.2<=(l.length:Int)
 eq:S.map (EH l)++jN (wAt l st pos) (l.drop pos)=jN [] l
theorem WK{l:List Int}{S:List (Int×Int)}{a b:Int}(h: ∀x,x∈S->0<=x.1/\x.1<=x.2/\x.2<=(l.length:Int))(h1:0<=a)(h2:a<=b)(h3:b<=(l.length:Int)):
  ∀x,x∈S++[(a,b)]->0<=x.1/\x.1<=x.2/\x.2<=(l.length:Int):=fun x hx=>by
 rcases List.mem_append.1 hx with hx|hx
 ·exact h x hx
 ·obtain rfl:=List.mem_singleton.1 hx;exact ⟨h1,h2,h3⟩
theorem Q1{l:List Int}{st:Int}{pos:Nat}(h:0<=st):wAt l st pos=EH l (st,pos):=by
 unfold wAt EH;rw [decide_eq_false (by omega)];simp
theorem W4{l:List Int}{st:Int}{pos:Nat}(h:0<=st)(h1:st<pos)(h2:pos<=l.length):(wAt l st pos).isEmpty=false:=by
 unfold wAt;rw [decide_eq_false (by omega)]
 rw [Bool.eq_false_iff];intro e
 have:=congrArg List.length (List.isEmpty_iff.1 e)
 simp only [cond_false,List.length_take,List.length_drop,List.length_nil] at this
 omega
theorem aB7{l:List Int}{S:List (Int×Int)}{st:Int}{pos:Nat}(h:ffI l S st pos)(hp:pos<l.length)(hs:uY (l.getD pos 0)=true)(h0:0<=st):ffI l (S++[(st,(pos:Int))]) (-1 - st) (pos+1):=by
 have h1:=h.st1 h0
 refine ⟨hp,by have:=h.len;simp;omega,fun hh=>by omega,WK h.ok h0 (by omega) (by omega), ?_⟩
 have he:=h.eq
 rw [EN hp] at he
 rw [tU,hs,W4 h0 h1 h.le,Q1 h0] at he
 rw [List.map_append,List.append_assoc,show wAt l (-1 - st) (pos+1)=[] by unfold wAt;rw [decide_eq_true (by omega)];rfl]
 exact he
theorem aBg{l:List Int}{S:List (Int×Int)}{st:Int}{pos:Nat}(h:ffI l S st pos)(hp:pos<l.length)(hs:uY (l.getD pos 0)=true)(h0:st<0):ffI l S st (pos+1):=by
 refine ⟨hp,by have:=h.len;omega,fun hh=>by omega,h.ok, ?_⟩
 have he:=h.eq
 have hw: ∀p,wAt l st p=[]:=fun p=>by unfold wAt;rw [decide_eq_true h0];rfl
 rw [EN hp,hw] at he
 rw [tU,hs] at he
 rw [hw];exact he
theorem aBm{l:List Int}{S:List (Int×Int)}{st:Int}{pos w:Nat}(h:ffI l S st pos)(hw:1<=w)(hp:pos+w<=l.length)(hs: ∀j,j<w->uY (l.getD (pos+j) 0)=false):
  ffI l S (bif decide (st<0) then (pos:Int) else st) (pos+w):=by
 have hm: ∀x,x∈(l.drop pos).take w->uY x=false:=fun x hx=>by
  obtain ⟨j,hj,rfl⟩:=List.getElem_of_mem hx
  rw [List.length_take,List.length_drop] at hj
  have:=hs j (by omega)
  rw [List.getD_eq_getElem?_getD,List.getElem?_eq_getElem (show pos+j<l.length by omega)] at this
  rw [List.getElem_take,List.getElem_drop]
  exact this
 have he:=h.eq
 have hd:l.drop pos=(l.drop pos).take w++l.drop (pos+w):=by rw [<- List.drop_drop,List.take_append_drop]
 rw [hd,tF _ _ _ hm] at he
 refine ⟨hp,by have:=h.len;omega,fun hh=> ?_,h.ok, ?_⟩
 ·cases hd:decide (st<0) with
  |true=>simp only [cond_true];omega
  |false=>have:=of_decide_eq_false hd;have:=h.st1 (by omega);simp only [cond_false];omega
 ·rw [<- he]
  congr 2
  unfold wAt
  cases hd:decide (st<0) with
  |true=>simp only [cond_true];rw [decide_eq_false (by omega)];simp [Nat.add_sub_cancel_left]
  |false=>
   have h0:=of_decide_eq_false hd
   have h1:=h.st1 (by omega)
   simp only [cond_false]
   rw [hd]
   simp only [cond_false]
   obtain ⟨k,rfl⟩: ∃k:Nat,st=(k:Int):=⟨st.toNat,by omega⟩
   rw [Int.toNat_natCast,show pos+w - k=(pos - k)+w by omega,List.take_add,List.drop_drop,show k+(pos - k)=pos by omega]
theorem aCl{l:List Int}{S:List (Int×Int)}{st:Int}{pos:Nat}(h:ffI l S st pos)(hp:l.length<=pos)(h0:0<=st):
  (S++[(st,(l.length:Int))]).map (EH l)=jN [] l/\ ∀x,x∈S++[(st,(l.length:Int))]->0<=x.1/\x.1<=x.2/\x.2<=(l.length:Int):=by
 have hpos:pos=l.length:=by have:=h.le;omega
 subst hpos
 have h1:=h.st1 h0
 have he:=h.eq
 rw [List.drop_length] at he
 rw [CW,W4 h0 h1 (Nat.le_refl _),Q1 h0] at he
 exact ⟨by rw [List.map_append];exact he,WK h.ok h0 (by omega) (by omega)⟩
theorem aBK{l:List Int}{S:List (Int×Int)}{st:Int}{pos:Nat}(h:ffI l S st pos)(hp:l.length<=pos)(h0:st<0):S.map (EH l)=jN [] l:=by
 have hpos:pos=l.length:=by have:=h.le;omega
 subst hpos
 have he:=h.eq
 rw [List.drop_length,show wAt l st l.length=[] by unfold wAt;rw [decide_eq_true h0];rfl] at he
 have he:S.map (EH l)++[]=jN [] l:=he
 rw [List.append_nil] at he
 exact he
theorem aAG{s:ByteArray}{p:Nat}(h:p<s.size)(hs:(((Utf8.decode s p).1:Nat):Int)=32\/(((Utf8.decode s p).1:Nat):Int)=9):uY ((aA s).getD p 0)=true/\(Utf8.decode s p).2=1:=by
 obtain ⟨d1,d2,d3,d4,d5⟩:=HX s p h
 rw [xZ]
 by_cases ha:(s.data.getD p 0).toNat<128
 ·rw [d3 ha] at hs|-
  refine ⟨?_,rfl⟩
  unfold uY
  rcases hs with hs|hs<;>(simp only at hs;rw [hs];rfl)
 ·have:=d4 (by omega);omega
theorem R7{s:ByteArray}{p:Nat}(h:p<s.size)(h1:(((Utf8.decode s p).1:Nat):Int)≠32)(h2:(((Utf8.decode s p).1:Nat):Int)≠9): ∀j,j<(Utf8.decode s p).2->uY ((aA s).getD (p+j) 0)=false:=by
 obtain ⟨d1,d2,d3,d4,d5⟩:=HX s p h
 intro j hj
 rw [xZ]
 unfold uY
 rw [Bool.or_eq_false_iff,beq_eq_false_iff_ne,beq_eq_false_iff_ne]
 by_cases h0:j=0
 ·subst h0
  rw [Nat.add_zero]
  by_cases ha:(s.data.getD p 0).toNat<128
  ·rw [d3 ha] at h1 h2;exact ⟨h1,h2⟩
  ·omega
 ·have:=d5 j (by omega) hj;omega
end Go.Se
namespace Go.Se
end Go.Se
namespace Go.Se
end Go.Se
namespace Go.Se
theorem aFg{b:Bk}{w:ByteArray}{lo hi all:Int}(h:(b.err==0)=false):fV b w lo hi=true/\gJ all b w lo hi=b:=by
 unfold fV gJ
 rw [show (b.err !=0)=true by rw [bne,h];rfl]
 exact ⟨rfl,rfl⟩
theorem aEK{b:Bk}{w:ByteArray}{lo hi all e:Int}(h:(b.err==0)=true)(hT:lZ b w lo hi=e)(he:e≠0):
  fV b w lo hi=true/\gJ all b w lo hi=⟨b.q,b.last,e,bif b.q.isEmpty then all+1 else (dA b.q).1⟩:=by
 unfold fV gJ
 rw [show (b.err !=0)=false by rw [bne,h];rfl,hT,show (e==0)=false by rw [beq_eq_false_iff_ne];exact he]
 exact ⟨by simp [he],rfl⟩
theorem aGn{b:Bk}{w:ByteArray}{lo hi all:Int}(h:(b.err==0)=true)(hT:lZ b w lo hi=0):
  fV b w lo hi=false/\gJ all b w lo hi=⟨b.q.tail,(dA b.q).1,b.err,b.place⟩:=by
 unfold fV gJ
 rw [show (b.err !=0)=false by rw [bne,h];rfl,hT]
 exact ⟨rfl,rfl⟩
theorem wF{b:Bk}{e a:Int}(h:(b.err==0)=false):kK b e a=b:=by unfold kK;rw [h];rfl
theorem G6{b:Bk}{a:Int}:kK b 0 a=b:=by unfold kK;rw [show ((0:Int) !=0)=false from rfl,Bool.and_false];rfl
theorem mX{b:Bk}{e a:Int}(h:(b.err==0)=true)(he:e≠0):kK b e a=⟨b.q,b.last,e,a⟩:=by
 unfold kK;rw [h,show (e !=0)=true by simp [he]];rfl
structure aK (b:Bk):Prop where
 wf:wfQ b.q
 len: ∀x,x∈b.q->x.2.length<=1048577
 all:b.q.length<=1048577
theorem aK.tail{b:Bk}{l e p:Int}(h:aK b):aK ⟨b.q.tail,l,e,p⟩:=
 ⟨fun x hx=>h.wf x (List.mem_of_mem_tail hx),fun x hx=>h.len x (List.mem_of_mem_tail hx),by have:=h.all;simp only [List.length_tail];omega⟩
theorem aK.same{b:Bk}{l e p:Int}(h:aK b):aK ⟨b.q,l,e,p⟩:=⟨h.wf,h.len,h.all⟩
theorem aK.fail{b:Bk}{e a:Int}(h:aK b):aK (kK b e a):=by
 unfold kK
 cases b.err==0&&e !=0
 ·exact h
 ·exact h.same
theorem aK.take{b:Bk}{w:ByteArray}{lo hi all:Int}(h:aK b):aK (gJ all b w lo hi):=by
 unfold gJ
 cases b.err !=0
 ·cases lZ b w lo hi==0
  ·exact h.same
  ·exact h.tail
 ·exact h
theorem aK.head{b:Bk}(h:aK b)(hq:b.q≠[]):0<(dA b.q).2.length/\(dA b.q).2.length<=1048577:=by
 obtain ⟨q,_,_,_⟩:=b
 cases q with
 |nil=>exact absurd rfl hq
 |cons x r=>
  have h1:=h.wf x (List.mem_cons_self ..)
  exact ⟨List.length_pos_iff.2 h1,h.len x (List.mem_cons_self ..)⟩
theorem L9{α:Type}(q:List α):((q.length:Int)==0)=q.isEmpty:=by
 cases q
 ·rfl
 ·rw [List.isEmpty_cons,beq_eq_false_iff_ne];simp;omega
end Go.Se
namespace Go.Se
structure TZ (L:List (List Int)):Prop where
 len:L.length<=1048577
 ok: ∀x,x∈L->bB x/\x.length<=1048576
theorem BT : ∀(l w:List Int),(jN w l).length<=l.length+1
 | [],w=>by rw [CW];cases w.isEmpty<;>simp
 |a::l,w=>by
  rw [tU]
  have h1:=BT l []
  have h2:=BT l (w++[a])
  cases uY a
  ·simp only [cond_false,List.length_cons];omega
  ·cases w.isEmpty
   ·simp only [cond_true,cond_false,List.length_cons];omega
   ·simp only [cond_true,List.length_cons];omega
theorem MX(l:List Int):(bW l).length<=l.length+1:=by
 have h1:=BT (dG 35 l) []
 have h2:(dG 35 l).length<=l.length:=by rw [<- oU,List.length_take];exact Nat.min_le_right _ _
 unfold bW
 omega
theorem TZ.at{L:List (List Int)}(h:TZ L)(i:Nat):bB (L.getD i [])/\(L.getD i []).length<=1048576:=by
 by_cases hi:i<L.length
 ·exact h.ok _ (wH hi)
 ·rw [List.getD_eq_getElem?_getD,List.getElem?_eq_none (Nat.not_lt.1 hi)]
  exact ⟨fun x hx=>(nomatch hx),Nat.zero_le _⟩
def xE(L:List (List Int))(pos:Nat):Bool:=decide (pos<L.length)&&(bW (L.getD pos [])).isEmpty
def skF(L:List (List Int)):Nat->Nat->Nat
 |0,pos=>pos
 |f+1,pos=>bif xE L pos then skF L f (pos+1) else pos
def skP(L:List (List Int))(pos:Nat):Nat:=skF L (L.length+1 - pos) pos
theorem RB.step{L:List (List Int)}{pos:Nat}{b:Bk}(h:RB L pos b)(hb:xE L pos=true):RB L (pos+1) b:=by
 unfold xE at hb
 simp only [Bool.and_eq_true,decide_eq_true_eq] at hb
 exact ⟨hb.1,h.2.trans (E3 hb.1 (List.isEmpty_iff.1 hb.2))⟩
theorem RB.skF{L:List (List Int)}{b:Bk}: ∀(f pos:Nat),RB L pos b->RB L (skF L f pos) b
 |0,_,h=>h
 |f+1,pos,h=>by
  unfold Go.Se.skF
  cases hb:xE L pos with
  |true=>exact RB.skF f (pos+1) (h.step hb)
  |false=>exact h
theorem RB.skip{L:List (List Int)}{pos:Nat}{b:Bk}(h:RB L pos b):RB L (skP L pos) b:=RB.skF _ _ h
theorem RB.at{L:List (List Int)}{pos:Nat}{b:Bk}(h:RB L pos b)(hb:xE L pos=false):
  (pos=L.length/\b.q=[])\/(pos<L.length/\b.q=((pos:Int)+1,bW (L.getD pos []))::nbF (pos+1:Nat) (L.drop (pos+1))/\bW (L.getD pos [])≠[]):=by
 obtain ⟨h1,h2⟩:=h
 by_cases hp:pos<L.length
 ·right
  have hne:bW (L.getD pos [])≠[]:=fun e=>by
   unfold xE at hb;rw [decide_eq_true hp,e] at hb;cases hb
  exact ⟨hp,h2.trans (LT hp hne),hne⟩
 ·left
  have:pos=L.length:=by omega
  subst this
  exact ⟨rfl,h2.trans RI⟩
theorem RB.same{L:List (List Int)}{pos:Nat}{b:Bk}{l e p:Int}(h:RB L pos b):RB L pos ⟨b.q,l,e,p⟩:=h
theorem RB.fail{L:List (List Int)}{pos:Nat}{b:Bk}{e a:Int}(h:RB L pos b):RB L pos (kK b e a):=by
 unfold kK
 cases b.err==0&&e !=0
 ·exact h
 ·exact h.same
theorem H6 : ∀(l w:List Int),bB l->bB w-> ∀x,x∈lnR w l->bB x/\x.length<=w.length+l.length
 | [],w,_,hw,x,hx=>by
  unfold lnR at hx
  cases h:w.isEmpty with
  |true=>rw [h] at hx;cases hx
  |false=>
   rw [h] at hx
   obtain rfl:=List.mem_singleton.1 hx
   exact ⟨hw,by simp⟩
 |a::l,w,hl,hw,x,hx=>by
  have hl':bB l:=fun y hy=>hl y (List.mem_cons_of_mem _ hy)
  unfold lnR at hx
  cases h:a==10 with
  |true=>
   rw [h] at hx
   rcases List.mem_cons.1 hx with rfl|hx
   ·exact ⟨hw,by simp⟩
   ·have:=H6 l [] hl' (fun y hy=>nomatch hy) x hx
    exact ⟨this.1,by simp only [List.length_nil,List.length_cons] at*;omega⟩
  |false=>
   rw [h] at hx
   have:=H6 l (w++[a]) hl' (fun y hy=>by
    rcases List.mem_append.1 hy with hy|hy
    ·exact hw y hy
    ·obtain rfl:=List.mem_singleton.1 hy;exact hl y (List.mem_cons_self ..)) x hx
   exact ⟨this.1,by simp only [List.length_append,List.length_cons,List.length_nil] at*;omega⟩
theorem VA{l:List Int}(hb:bB l)(h:l.length<=1048576): ∀x,x∈dZ l->bB x/\x.length<=1048576:=fun x hx=>by
 have:=H6 l [] hb (fun y hy=>nomatch hy) x hx
 exact ⟨this.1,by have:=this.2;simp only [List.length_nil] at this;omega⟩
end Go.Se
namespace Go.Se
theorem RJ(a b:ByteArray):(a==b)=(b==a):=by
 rw [jC,jC,Bool.eq_iff_iff,beq_iff_eq,beq_iff_eq];exact ⟨Eq.symm,Eq.symm⟩
theorem H8{b:Bk}{s:ByteArray}{ws:List ByteArray}(h:(b.err==0)=false):oA b s ws=0/\jZ b s ws=b:=by
 unfold oA jZ;rw [h,wF h];exact ⟨rfl,rfl⟩
theorem j8{b:Bk}{s:ByteArray}{ws:List ByteArray}{j:Nat}(h:(b.err==0)=true)(hj:rL s ws=j)(hl:j<ws.length):oA b s ws=j/\jZ b s ws=b:=by
 unfold oA jZ aEt
 rw [hj,decide_eq_true hl,h]
 exact ⟨rfl,G6⟩
theorem BX{b:Bk}{s:ByteArray}{ws:List ByteArray}(h:(b.err==0)=true)(hj:rL s ws=ws.length):oA b s ws=0/\jZ b s ws=⟨b.q,b.last,24,b.last⟩:=by
 unfold oA jZ aEt
 rw [hj,decide_eq_false (Nat.lt_irrefl _)]
 exact ⟨by rw [Bool.and_false];rfl,mX h (by decide)⟩
theorem pO{s a:ByteArray}{l:List ByteArray}(h:(s==a)=true):rL s (a::l)=0:=by
 show (bif a==s then 0 else rL s l+1)=0
 rw [RJ,h];rfl
theorem iB{s a:ByteArray}{l:List ByteArray}(h:(s==a)=false):rL s (a::l)=rL s l+1:=by
 show (bif a==s then 0 else rL s l+1)=_
 rw [RJ,h];rfl
end Go.Se
namespace Go.Se
theorem RE : ∀(l:List (List Int)) (k:Int),(nbF k l).length<=l.length
 | [],_=>Nat.le_refl _
 |t::r,k=>by
  unfold nbF
  have:=RE r (k+1)
  cases (bW t).isEmpty<;>simp only [cond_true,cond_false,List.length_cons]<;>omega
theorem GY : ∀(l:List (List Int)) (k:Int),∀x,x∈nbF k l-> ∃t,t∈l/\x.2=bW t
 | [],_,x,hx=>nomatch hx
 |t::r,k,x,hx=>by
  unfold nbF at hx
  cases h:(bW t).isEmpty with
  |true=>
   rw [h] at hx
   obtain ⟨u,h1,h2⟩:=GY r (k+1) x hx
   exact ⟨u,List.mem_cons_of_mem _ h1,h2⟩
  |false=>
   rw [h] at hx
   rcases List.mem_cons.1 hx with rfl|hx
   ·exact ⟨t,List.mem_cons_self ..,rfl⟩
   ·obtain ⟨u,h1,h2⟩:=GY r (k+1) x hx
    exact ⟨u,List.mem_cons_of_mem _ h1,h2⟩
theorem UX{l:List Int}(h:TZ (dZ l)):aK (jH l):=by
 refine ⟨OZ _ _,fun x hx=> ?_, ?_⟩
 ·obtain ⟨t,h1,h2⟩:=GY _ _ x hx
  rw [h2]
  have:=MX t
  have:=(h.ok t h1).2
  omega
 ·have h1:=h.len
  have h2:=RE (dZ l) 0
  show (nbF 0 (dZ l)).length<=1048577
  omega
end Go.Se
namespace Go.Proofs.YtghnfjfkjhbgdaaGreatDoor
open Go.Se
set_option maxRecDepth 100000
theorem aCX(xs:List SV)(σ:List (Option SB)):Sat Tryz.prog 226 xs σ (one QV xs σ):=
 aA6 Tryz.func226 (by kernel_rfl) (by kernel_rfl) (by kernel_rfl) (by kernel_rfl) xs σ
noncomputable def y0 :bT Tryz.prog:=(b2).add 226 (one QV) aCX
theorem aFT(s:ByteArray)(K:KC):run y0 4 125 [.str s,.str ⟨#[10]⟩] [] K=
 (Br (decide ((↑s.size:Int)>=1)) (Br (decide (0<=IntKind.i64.wrap ((↑s.size:Int) - 1))&&(decide (IntKind.i64.wrap ((↑s.size:Int) - 1)<=(↑s.size:Int))&&decide ((↑s.size:Int)<=(↑s.size:Int)))) (Br (s.extract (IntKind.i64.wrap ((↑s.size:Int) - (↑(⟨#[10]⟩:ByteArray).size:Int))).toNat (↑s.size:Int).toNat==(⟨#[10]⟩:ByteArray)) (Br (true&&(decide (0<=IntKind.i64.wrap ((↑s.size:Int) - 1))&&decide (IntKind.i64.wrap ((↑s.size:Int) - 1)<=(↑s.size:Int)))) (K (SV.str (s.extract 0 (IntKind.i64.wrap ((↑s.size:Int) - 1)).toNat)) [] []) (False)) (K (SV.str s) [] [])) (False)) (K (SV.str s) [] [])):=by kernel_rfl
def gsR :List (Nat×eR):=[(0,⟨[0,1,2,3,9,10],[0],[0],1,[]⟩)]
def gsS(s:ByteArray)(n:Int)(N:Nat)(X:Nat->ByteArray)(i:Int):St:=⟨[(0,.str s),(1,.str ⟨#[10]⟩),(2,.int .i64 0),(3,.int .i64 n),(9,.own 0 0 1 N),(10,.int .i64 i)],[(0,some (.row 9 1 N (t7 X)))],1,[0],66⟩
noncomputable abbrev gsE :Env:=fW gsR (fun _=>0) y0 4
noncomputable abbrev gsF :Func:=Tryz.f165
theorem YC(s:ByteArray)(K:KC):eA gsR (fun _=>0) y0 5 165 [.str s,.str ⟨#[10]⟩,.int .i64 0,.int .i64 (-1)] [] K=
 (Br (decide (0<=if IntKind.i64.wrap ((↑s.size:Int)+1)<IntKind.i64.wrap ((↑(oL s 10):Int)+1) then IntKind.i64.wrap ((↑s.size:Int)+1) else IntKind.i64.wrap ((↑(oL s 10):Int)+1))&&(decide ((if IntKind.i64.wrap ((↑s.size:Int)+1)<IntKind.i64.wrap ((↑(oL s 10):Int)+1) then IntKind.i64.wrap ((↑s.size:Int)+1) else IntKind.i64.wrap ((↑(oL s 10):Int)+1))<=if IntKind.i64.wrap ((↑s.size:Int)+1)<IntKind.i64.wrap ((↑(oL s 10):Int)+1) then IntKind.i64.wrap ((↑s.size:Int)+1) else IntKind.i64.wrap ((↑(oL s 10):Int)+1))&&(decide ((if IntKind.i64.wrap ((↑s.size:Int)+1)<IntKind.i64.wrap ((↑(oL s 10):Int)+1) then IntKind.i64.wrap ((↑s.size:Int)+1) else IntKind.i64.wrap ((↑(oL s 10):Int)+1))*16<=1099511627776)&&decide ((if IntKind.i64.wrap ((↑s.size:Int)+1)<IntKind.i64.wrap ((↑(oL s 10):Int)+1) then IntKind.i64.wrap ((↑s.size:Int)+1) else IntKind.i64.wrap ((↑(oL s 10):Int)+1))<9223372036854775808)))) (∃q_,bO gsE (aB gsR 0) gsF [1,1,1,1,1,1,1,1,0,0] 0 0 K q_ {tmps:=[(0,SV.str s),(1,SV.str (⟨#[10]⟩:ByteArray)),(2,SV.int .i64 0),(3,SV.int .i64 (IntKind.i64.wrap ((if IntKind.i64.wrap ((↑s.size:Int)+1)<IntKind.i64.wrap ((↑(oL s 10):Int)+1) then IntKind.i64.wrap ((↑s.size:Int)+1) else IntKind.i64.wrap ((↑(oL s 10):Int)+1)) - 1))),(9,SV.own 0 0 1 (if IntKind.i64.wrap ((↑s.size:Int)+1)<IntKind.i64.wrap ((↑(oL s 10):Int)+1) then IntKind.i64.wrap ((↑s.size:Int)+1) else IntKind.i64.wrap ((↑(oL s 10):Int)+1)).toNat),(10,SV.int .i64 0)],store:=[(0,some (SB.row 9 1 (if IntKind.i64.wrap ((↑s.size:Int)+1)<IntKind.i64.wrap ((↑(oL s 10):Int)+1) then IntKind.i64.wrap ((↑s.size:Int)+1) else IntKind.i64.wrap ((↑(oL s 10):Int)+1)).toNat fun (x:Nat)=>[SV.str (⟨#[]⟩:ByteArray)]))],nxt:=1,dirty:=[0],nt:=66}) (False)):=by kernel_rfl
theorem aA4(s:ByteArray)(n:Int)(N:Nat)(X:Nat->ByteArray)(i:Int)(K:Ex->St->Prop):aF gsE (aB gsR 0) gsF [1,1,1,1,1,1,1,1,0,0] 0 K (gsS s n N X i)=
 (Br (decide (i<n)) (Br ((⟨#[10]⟩:ByteArray)==s) (Br (decide (0<=i)&&decide (i<(↑N:Int))) (Br (decide (0+i.toNat<N)) (Br (true&&(decide (1<=(↑s.size:Int))&&decide ((↑s.size:Int)<=(↑s.size:Int)))) (K Ex.normal {tmps:=[(0,SV.str (s.extract 1 (↑s.size:Int).toNat)),(1,SV.str (⟨#[10]⟩:ByteArray)),(2,SV.int .i64 0),(3,SV.int .i64 n),(9,SV.own 0 0 1 N),(10,SV.int .i64 (IntKind.i64.wrap (i+1)))],store:=[(0,some (SB.row 9 1 N (bI (0+i.toNat) [SV.str (s.extract 0 0)] (t7 X))))],nxt:=1,dirty:=[0],nt:=66}) (False)) (False)) (False)) (Br (decide (fH s 10<0)) (K (Ex.exit 0) {tmps:=[(0,SV.str s),(1,SV.str (⟨#[10]⟩:ByteArray)),(2,SV.int .i64 0),(3,SV.int .i64 n),(9,SV.own 0 0 1 N),(10,SV.int .i64 i)],store:=[(0,some (SB.row 9 1 N (t7 X)))],nxt:=1,dirty:=[0],nt:=66}) (Br (true&&(decide (0<=IntKind.i64.wrap (fH s 10+0))&&decide (IntKind.i64.wrap (fH s 10+0)<=(↑s.size:Int)))) (Br (decide (0<=i)&&decide (i<(↑N:Int))) (Br (decide (0+i.toNat<N)) (Br (decide (0<=IntKind.i64.wrap (fH s 10+1))&&(decide (IntKind.i64.wrap (fH s 10+1)<=(↑s.size:Int))&&decide ((↑s.size:Int)<=(↑s.size:Int)))) (K Ex.normal {tmps:=[(0,SV.str (s.extract (IntKind.i64.wrap (fH s 10+1)).toNat (↑s.size:Int).toNat)),(1,SV.str (⟨#[10]⟩:ByteArray)),(2,SV.int .i64 0),(3,SV.int .i64 n),(9,SV.own 0 0 1 N),(10,SV.int .i64 (IntKind.i64.wrap (i+1)))],store:=[(0,some (SB.row 9 1 N (bI (0+i.toNat) [SV.str (s.extract 0 (IntKind.i64.wrap (fH s 10+0)).toNat)] (t7 X))))],nxt:=1,dirty:=[0],nt:=66}) (False)) (False)) (False)) (False)))) (K (Ex.exit 0) {tmps:=[(0,SV.str s),(1,SV.str (⟨#[10]⟩:ByteArray)),(2,SV.int .i64 0),(3,SV.int .i64 n),(9,SV.own 0 0 1 N),(10,SV.int .i64 i)],store:=[(0,some (SB.row 9 1 N (t7 X)))],nxt:=1,dirty:=[0],nt:=66})):=by kernel_rfl
theorem aAV(s:ByteArray)(n:Int)(N:Nat)(X:Nat->ByteArray)(i:Int)(K:KC):aE gsE (aB gsR 0) gsF [1,1,1,1,1,1,1,1,0,0] 0 K (.exit 0) (gsS s n N X i)=
 (Br (decide (0<=i)&&decide (i<(↑N:Int))) (Br (decide (0+i.toNat<N)) (Br (true&&(decide (0<=IntKind.i64.wrap (i+1))&&decide (IntKind.i64.wrap (i+1)<=(↑N:Int)))&&decide (N<9223372036854775808)) (Br (decide (0<IntKind.i64.wrap (i+1))) (K (SV.own 0 0 1 ((IntKind.i64.wrap (i+1)).toNat - 0)) [some (SB.row 9 1 N (bI (0+i.toNat) [SV.str s] (t7 X)))] []) (K (SV.ro 0 1 fun (x:Nat)=>[]) [] [])) (False)) (False)) (False)):=by kernel_rfl
theorem tQ {α:Type} {R:List (Nat×eR)} {u:Nat->Nat} {B:bT Tryz.prog} {n:Nat} {k:FuncId} {xs:List SV} {e st:Nat} {f:α->List SV} {d0:α} {L:List α} (hf: ∀x,(f x).length=st)
  (h:okL xs-> ∀K:KC,nN e st f L K->eA R u B n k xs [] K):aD Tryz.prog k xs [] (.ro L.length st (aY f d0 L)) [] []:=
 yE hf (oR (fun _ hK=>H5 d0 hK) fun h1 _ K hK=>bX (env:=tab.env B u (fun _=>false)) ⟨tab.htt,B.ok⟩ tab.mixed (fun n=>bC n R) tab.hft n _ _ _ K (h h1 K hK))
theorem aFp(l:List Int)(hb:bB l)(hl:l.length<=1048576)(K:KC)(hK:nN 9 1 jE (mR 10 [] l) K):
  eA gsR (fun _=>0) y0 5 165 [.str (bytesOf l),.str ⟨#[10]⟩,.int .i64 0,.int .i64 (-1)] [] K:=by
 have hN:=wA 10 l []
 generalize hq:mR 10 [] l=q at hN hK
 have hcnt:l.countP (· ==10)<=l.length:=List.countP_le_length
 rw [YC,aR,MO hb (by decide) (by decide)]
 have e:(if IntKind.i64.wrap ((l.length:Int)+1)<IntKind.i64.wrap (((l.countP (· ==10):Nat):Int)+1) then IntKind.i64.wrap ((l.length:Int)+1) else IntKind.i64.wrap (((l.countP (· ==10):Nat):Int)+1))=((q.length:Nat):Int):=by
  rw [gY,gY,if_neg (by omega)];omega
 rw [e]
 refine Br.of (fun _=> ?_) fun c=>absurd c (by simp only [Bool.and_eq_false_iff,decide_eq_false_iff_not];omega)
 rw [Int.toNat_natCast,show IntKind.i64.wrap ((q.length:Int) - 1)=((q.length - 1:Nat):Int) by rw [gY];omega]
 refine ⟨q.length+1, ?_⟩
 refine gV (fun a:List Int×(Nat->ByteArray)×Nat=>gsS (bytesOf a.1) ((q.length - 1:Nat):Int) q.length a.2.1 a.2.2) (fun a=>q.length - a.2.2)
  (fun a=>bB a.1/\a.1.length<=l.length/\mR 10 [] a.1=q.drop a.2.2/\ ∀j,j<a.2.2->a.2.1 j=bytesOf (q.getD j [])) ?_ (q.length+1) (l,(fun _=>⟨#[]⟩),0) ⟨hb,Nat.le_refl _,by rw [hq];rfl,fun j hj=>absurd hj (Nat.not_lt_zero j)⟩ (by simp)
 rintro ⟨m,X,i⟩ ⟨h1,h2,h3,h4⟩ X' hX
 simp only at h1 h2 h3 h4 hX|-
 rw [aA4,aR,aCg h1 (by decide) (by decide)]
 simp only [rX,Nat.zero_add,Int.toNat_natCast]
 rw [L4] at h3
 refine Br.of (fun c=> ?_) fun c=> ?_
 ·have c:=of_decide_eq_true c
  cases hh:fR 10 m with
  |false=>
   rw [hh] at h3
   have:=(lA h3.symm).2.2
   have:=congrArg List.length this
   simp at this;omega
  |true=>
   rw [hh] at h3
   simp only [cond_true,List.nil_append] at h3|-
   obtain ⟨d1,d2,d3⟩:=lA h3.symm
   have hlen:=ZT hh
   have next:X' (gsS (bytesOf (iN 10 m)) ((q.length - 1:Nat):Int) q.length (D1 i (bytesOf (dG 10 m)) X) ((i+1:Nat):Int)):=by
    refine hX (iN 10 m,D1 i (bytesOf (dG 10 m)) X,i+1) ⟨rI h1,by show (iN 10 m).length<=_;omega,d3.symm,fun j hj=> ?_⟩ (by show q.length - (i+1)<q.length - i;omega)
    have hj:j<i+1:=hj
    show D1 i (bytesOf (dG 10 m)) X j=_
    unfold D1
    by_cases hji:j=i
    ·rw [decide_eq_true hji,hji,d2];rfl
    ·rw [decide_eq_false hji];exact h4 j (by omega)
   rw [aO (n:=q.length) d1 (by omega)]
   refine Br.of (fun e=> ?_) fun e=>Br.of (fun e2=>absurd e2 (by simp)) fun _=> ?_
   ·have hm:m=[10]:=by
     rw [jC,beq_iff_eq] at e
     have:=congrArg aA (ByteArray.ext e)
     rw [cG h1] at this
     rw [<- this];rfl
    subst hm
    refine Br.of (fun _=>Br.of (fun _=>Br.of (fun _=>next) fun e3=>absurd e3 (by decide)) fun e3=>absurd e3 (by simp;omega)) fun e3=>absurd e3 (by simp;omega)
   ·have w1:IntKind.i64.wrap (((dG 10 m).length:Int)+0)=(((dG 10 m).length:Nat):Int):=by rw [gY];omega
    have w2:IntKind.i64.wrap (((dG 10 m).length:Int)+1)=(((dG 10 m).length+1:Nat):Int):=by rw [gY];omega
    simp only [w1,w2,Int.toNat_natCast,KW,J5 hh]
    refine Br.of (fun _=>Br.of (fun _=>Br.of (fun _=>Br.of (fun _=>next) fun e3=>absurd e3 ?_) fun e3=>absurd e3 ?_) fun e3=>absurd e3 ?_) fun e3=>absurd e3 ?_<;>simp<;>omega
 ·have c:=of_decide_eq_false c
  show aE gsE (aB gsR 0) gsF [1,1,1,1,1,1,1,1,0,0] 0 K (.exit 0) (gsS (bytesOf m) ((q.length - 1:Nat):Int) q.length X i)
  rw [aAV]
  simp only [rX,Nat.zero_add,Int.toNat_natCast]
  have hlast:q.drop i=[m]:=by
   cases hh:fR 10 m with
   |true=>
    rw [hh] at h3
    obtain ⟨d1,_,d3⟩:=lA h3.symm
    have:=congrArg List.length d3
    rw [List.length_drop,wA] at this
    omega
   |false=>rw [hh] at h3;exact h3.symm
  obtain ⟨d1,d2,d3⟩:=lA hlast
  have hi:i+1=q.length:=by
   have:=congrArg List.length d3
   rw [List.length_drop] at this
   simp at this;omega
  rw [aO (n:=q.length) d1 (by omega),hi]
  simp only [Int.toNat_natCast,Nat.sub_zero]
  refine Br.of (fun _=>Br.of (fun _=>Br.of (fun _=>Br.of (fun _=> ?_) fun e3=>absurd e3 ?_) fun e3=>absurd e3 ?_) fun e3=>absurd e3 ?_) fun e3=>absurd e3 ?_
  ·refine hK.2 _ (by intro h0;rw [h0] at d1;simp at d1) fun j hj=> ?_
   unfold t7 D1 jE
   by_cases hji:j=i
   ·subst hji
    have:=d2 []
    rw [List.getD_eq_getElem?_getD,List.getElem?_eq_getElem hj] at this
    rw [decide_eq_true rfl,show q[j]=m from this];rfl
   ·rw [decide_eq_false hji]
    have:=h4 j (by omega)
    rw [List.getD_eq_getElem?_getD,List.getElem?_eq_getElem hj] at this
    rw [show q[j]=q[j] from rfl]
    simp only [cond_false]
    rw [this];rfl
  all_goals simp
  all_goals first
   |omega
   |(intro h0;rw [h0] at d1;simp at d1)
end Go.Proofs.YtghnfjfkjhbgdaaGreatDoor
namespace Go.Proofs.YtghnfjfkjhbgdaaGreatDoor
open Go.Se
set_option maxRecDepth 100000
theorem cW(s t:ByteArray)(h:(t==⟨#[10]⟩)=true):aD Tryz.prog 125 [.str s,.str t] [] (.str (bytesOf (nW (aA s)))) [] []:=by
 rw [jC,beq_iff_eq] at h
 obtain rfl:t=⟨#[10]⟩:=ByteArray.ext h
 refine aV y0 4 fun ⟨hs,_⟩ _ K hK=> ?_
 have hs:s.size<9223372036854775808:=hs
 rw [aFT]
 exact XD hs hK
theorem bQ(s t:ByteArray)(h:(t==⟨#[10]⟩&&decide (s.size<=1048576))=true):aD Tryz.prog 165 [.str s,.str t,.int .i64 0,.int .i64 (-1)] [] (.ro (mR 10 [] (aA s)).length 1 (aH (mR 10 [] (aA s)))) [] []:=by
 simp only [Bool.and_eq_true,decide_eq_true_eq] at h
 rw [jC,beq_iff_eq] at h
 obtain rfl:t=⟨#[10]⟩:=ByteArray.ext h.1
 refine tQ (R:=gsR) (u:=fun _=>0) (B:=y0) (n:=5) (e:=9) (fun _=>rfl) fun _ K hK=> ?_
 have:=aFp (aA s) (cQ s) (by rw [bU];exact h.2) K hK
 rw [dO] at this
 exact this
def aDi :List SV->List (Option SB)->Option (Bool×SV×List (Option SB)×List Nat)
 | [.str s,.str t],[]=>some (t==⟨#[10]⟩,.str (bytesOf (nW (aA s))),[],[])
 |_,_=>none
def RP :List SV->List (Option SB)->Option (Bool×SV×List (Option SB)×List Nat)
 | [.str s,.str t,.int .i64 0,.int .i64 (-1)],[]=>some (t==⟨#[10]⟩&&decide (s.size<=1048576),.ro (mR 10 [] (aA s)).length 1 (aH (mR 10 [] (aA s))),[],[])
 |_,_=>none
noncomputable def y1 :bT Tryz.prog:=((y0).add 125 (lI aDi) (d6 fun xs σ v σ' d h=>by
  unfold aDi at h;split at h
  ·simp only [Option.some.injEq,Prod.mk.injEq] at h
   obtain ⟨h1,rfl,rfl,rfl⟩:=h
   first|exact cW h1|exact cW _ h1|exact cW _ _ h1|exact cW _ _ _ h1|exact cW _ _ _ _ h1|exact cW _ _ _ _ _ h1|exact cW _ _ _ _ _ _ h1|exact cW _ _ _ _ _ _ _ h1|exact cW _ _ _ _ _ _ _ _ h1|exact cW _ _ _ _ _ _ _ _ _ h1|exact cW _ _ _ _ _ _ _ _ _ _ h1|exact cW _ _ _ _ _ _ _ _ _ _ _ h1|exact cW _ _ _ _ _ _ _ _ _ _ _ _ h1|exact cW (of_decide_eq_true h1)|exact cW _ (of_decide_eq_true h1)|exact cW _ _ (of_decide_eq_true h1)|exact cW _ _ _ (of_decide_eq_true h1)|exact cW _ _ _ _ (of_decide_eq_true h1)|exact cW _ _ _ _ _ (of_decide_eq_true h1)|exact cW _ _ _ _ _ _ (of_decide_eq_true h1)|exact cW _ _ _ _ _ _ _ (of_decide_eq_true h1)|exact cW _ _ _ _ _ _ _ _ (of_decide_eq_true h1)|exact cW _ _ _ _ _ _ _ _ _ (of_decide_eq_true h1)|exact cW _ _ _ _ _ _ _ _ _ _ (of_decide_eq_true h1)|exact cW _ _ _ _ _ _ _ _ _ _ _ (of_decide_eq_true h1)|exact cW _ _ _ _ _ _ _ _ _ _ _ _ (of_decide_eq_true h1)
  ·cases h)).add 165 (lI RP) (d6 fun xs σ v σ' d h=>by
  unfold RP at h;split at h
  ·simp only [Option.some.injEq,Prod.mk.injEq] at h
   obtain ⟨h1,rfl,rfl,rfl⟩:=h
   first|exact bQ h1|exact bQ _ h1|exact bQ _ _ h1|exact bQ _ _ _ h1|exact bQ _ _ _ _ h1|exact bQ _ _ _ _ _ h1|exact bQ _ _ _ _ _ _ h1|exact bQ _ _ _ _ _ _ _ h1|exact bQ _ _ _ _ _ _ _ _ h1|exact bQ _ _ _ _ _ _ _ _ _ h1|exact bQ _ _ _ _ _ _ _ _ _ _ h1|exact bQ _ _ _ _ _ _ _ _ _ _ _ h1|exact bQ _ _ _ _ _ _ _ _ _ _ _ _ h1|exact bQ (of_decide_eq_true h1)|exact bQ _ (of_decide_eq_true h1)|exact bQ _ _ (of_decide_eq_true h1)|exact bQ _ _ _ (of_decide_eq_true h1)|exact bQ _ _ _ _ (of_decide_eq_true h1)|exact bQ _ _ _ _ _ (of_decide_eq_true h1)|exact bQ _ _ _ _ _ _ (of_decide_eq_true h1)|exact bQ _ _ _ _ _ _ _ (of_decide_eq_true h1)|exact bQ _ _ _ _ _ _ _ _ (of_decide_eq_true h1)|exact bQ _ _ _ _ _ _ _ _ _ (of_decide_eq_true h1)|exact bQ _ _ _ _ _ _ _ _ _ _ (of_decide_eq_true h1)|exact bQ _ _ _ _ _ _ _ _ _ _ _ (of_decide_eq_true h1)|exact bQ _ _ _ _ _ _ _ _ _ _ _ _ (of_decide_eq_true h1)
  ·cases h)
theorem LH(s:ByteArray)(K:KC):run y1 3 74 [.str s] [] K=
 (Br (s==(⟨#[]⟩:ByteArray)) (K SV.nils [] []) (Br (true&&decide ((bytesOf (nW (aA s))).size<=1048576)) (K (SV.ro (mR 10 [] (aA (bytesOf (nW (aA s))))).length 1 (aH (mR 10 [] (aA (bytesOf (nW (aA s))))))) [] []) (False))):=by kernel_rfl
theorem PB {α:Type} {R:List (Nat×eR)} {u:Nat->Nat} {B:bT Tryz.prog} {n:Nat} {k:FuncId} {xs:List SV} {e st:Nat} {f:α->List SV} {d0:α} {L:List α} (hf: ∀x,(f x).length=st) (hi: ∀x,ids.idsL (f x)=[])
  (h:okL xs-> ∀K:KC,s6 e st f L K->eA R u B n k xs [] K):aD Tryz.prog k xs [] (.ro L.length st (aY f d0 L)) [] []:=
 G0 hf hi (oR (fun _ hK=>D5 d0 hK) fun h1 _ K hK=>bX (env:=tab.env B u (fun _=>false)) ⟨tab.htt,B.ok⟩ tab.mixed (fun n=>bC n R) tab.hft n _ _ _ K (h h1 K hK))
theorem cE(s:ByteArray)(h:s.size<=1048576):aD Tryz.prog 74 [.str s] [] (.ro (dZ (aA s)).length 1 (aH (dZ (aA s)))) [] []:=by
 by_cases h0:aA s=[]
 ·rw [h0]
  refine lB (aV y1 3 fun _ _ K hK=> ?_)
  rw [LH]
  refine Br.of (fun _=>hK) fun c=> ?_
  have:s=bytesOf []:=by rw [<- h0,dO]
  rw [this] at c;cases c
 ·refine aV y1 3 fun _ _ K hK=> ?_
  rw [LH]
  have hz:(s==(⟨#[]⟩:ByteArray))=false:=by
   have:=E2 (aA s)
   rw [dO] at this
   rw [this]
   refine decide_eq_false fun h=>h0 (List.eq_nil_of_length_eq_zero (by omega))
  rw [hz]
  have hch:bB (nW (aA s)):=fun x hx=>by
   rw [zU] at hx
   cases hc:(aA s).drop ((aA s).length - 1)==[10] with
   |true=>rw [hc] at hx;exact cQ s x (List.mem_of_mem_take hx)
   |false=>rw [hc] at hx;exact cQ s x hx
  have hlen:(nW (aA s)).length<=s.size:=by
   rw [zU,<- bU]
   cases (aA s).drop ((aA s).length - 1)==[10] with
   |true=>simp
   |false=>exact Nat.le_refl _
  rw [cG hch,W6 _ _ h0,aR]
  exact Br.of (fun c=>by cases c) fun _=>Br.of (fun _=>hK) fun c=>absurd c (by simp;omega)
end Go.Proofs.YtghnfjfkjhbgdaaGreatDoor
namespace Go.Proofs.YtghnfjfkjhbgdaaGreatDoor
open Go.Se
set_option maxRecDepth 100000
theorem aAU(s:ByteArray)(K:KC):run t4 5 126 [.str s,.str ⟨#[35]⟩] [] K=
 (Br ((⟨#[35]⟩:ByteArray)==s) (Br (true&&(decide (1<=(↑s.size:Int))&&decide ((↑s.size:Int)<=(↑s.size:Int)))) (K (SV.tup [SV.str (s.extract 0 0),SV.str (s.extract 1 (↑s.size:Int).toNat),SV.bool true]) [] []) (False)) (Br (decide (fH s 35>=0)) (Br (true&&(decide (0<=fH s 35)&&decide (fH s 35<=(↑s.size:Int)))) (Br (decide (0<=IntKind.i64.wrap (fH s 35+1))&&(decide (IntKind.i64.wrap (fH s 35+1)<=(↑s.size:Int))&&decide ((↑s.size:Int)<=(↑s.size:Int)))) (K (SV.tup [SV.str (s.extract 0 (fH s 35).toNat),SV.str (s.extract (IntKind.i64.wrap (fH s 35+1)).toNat (↑s.size:Int).toNat),SV.bool true]) [] []) (False)) (False)) (K (SV.tup [SV.str s,SV.str (⟨#[]⟩:ByteArray),SV.bool false]) [] []))):=by kernel_rfl
abbrev spT :TypeId:=236
def ffR :List (Nat×eR):=[(0,⟨[0,1,5,6,14],[0,1],[0,1,2,3,4,5],2,[(5,0)]⟩),(2,⟨[0,9,47,48,49],[0,2],[0,1,2,3,4,5],3,[(47,0),(9,2)]⟩)]
def ffS(s:ByteArray)(S:List (Int×Int))(st:Int)(pos:Nat):St:=⟨[(0,.str s),(1,.fn (.func 128) [] []),(5,.own 0 0 2 S.length),(6,.int .i64 st),(14,.ptr 1 0)],[(0,some (.row spT 2 S.length (spG S))),(1,some (.iter s pos))],2,[0,1,2,3,4,5],65⟩
def fgS(s:ByteArray)(S:List (Int×Int))(N:Nat)(X:Nat->ByteArray)(i:Int):St:=⟨[(0,.str s),(9,.own 2 0 1 N),(47,.own 0 0 2 S.length),(48,.int .i64 S.length),(49,.int .i64 i)],[(0,some (.row spT 2 S.length (spG S))),(2,some (.row 9 1 N (t7 X)))],3,[0,1,2,3,4,5],65⟩
noncomputable abbrev ffE :Env:=fW ffR (fun _=>0) y1 2
noncomputable abbrev ffF :Func:=Tryz.f127
abbrev ffP :List Nat:=[1,1,1,0,1,0]
abbrev fgP :List Nat:=[1,1,1,1,1,1,0,1,0]
theorem aAg(s:ByteArray)(K:KC):eA ffR (fun _=>0) y1 3 127 [.str s,.fn (.func 128) [] []] [] K=
 (∃q_,bO ffE (aB ffR 0) ffF ffP 0 0 K q_ {tmps:=[(0,SV.str s),(1,SV.fn (Fn.func 128) [] []),(5,SV.own 0 0 2 0),(6,SV.int .i64 (-1)),(14,SV.ptr 1 0)],store:=[(0,some (SB.row 236 2 0 fun (x:Nat)=>[SV.int .i64 0,SV.int .i64 0])),(1,some (SB.iter s 0))],nxt:=2,dirty:=[0,1,2,3,4,5],nt:=65}):=by kernel_rfl
theorem XH(s:ByteArray)(S:List (Int×Int))(st:Int)(pos:Nat)(K:Ex->St->Prop):aF ffE (aB ffR 0) ffF ffP 0 K (ffS s S st pos)=
 (Br (decide (pos<s.size)) (Br ((↑(Utf8.decode s pos).fst:Int)==32) (Br (decide (st>=0)) (Br (decide ((S.length+1)*16<=1099511627776)&&decide (S.length+1<9223372036854775808)&&decide (S.length=S.length)) (K Ex.normal {tmps:=[(0,SV.str s),(1,SV.fn (Fn.func 128) [] []),(5,SV.own 0 0 2 (S.length+1)),(6,SV.int .i64 (IntKind.i64.wrap (↑(BitVec.ofInt IntKind.i64.bits (if IntKind.i64.signed=true then -1 else IntKind.i64.max)^^^BitVec.ofInt IntKind.i64.bits st).toNat:Int))),(14,SV.ptr 1 0)],store:=[(0,some (SB.row 236 2 (S.length+1) (bI S.length [SV.int .i64 st,SV.int .i64 (↑pos:Int)] (spG S)))),(1,some (SB.iter s (pos+(Utf8.decode s pos).snd)))],nxt:=2,dirty:=[0,1,2,3,4,5],nt:=65}) (False)) (K Ex.normal {tmps:=[(0,SV.str s),(1,SV.fn (Fn.func 128) [] []),(5,SV.own 0 0 2 S.length),(6,SV.int .i64 st),(14,SV.ptr 1 0)],store:=[(0,some (SB.row 236 2 S.length (spG S))),(1,some (SB.iter s (pos+(Utf8.decode s pos).snd)))],nxt:=2,dirty:=[0,1,2,3,4,5],nt:=65})) (Br ((↑(Utf8.decode s pos).fst:Int)==9) (Br (decide (st>=0)) (Br (decide ((S.length+1)*16<=1099511627776)&&decide (S.length+1<9223372036854775808)&&decide (S.length=S.length)) (K Ex.normal {tmps:=[(0,SV.str s),(1,SV.fn (Fn.func 128) [] []),(5,SV.own 0 0 2 (S.length+1)),(6,SV.int .i64 (IntKind.i64.wrap (↑(BitVec.ofInt IntKind.i64.bits (if IntKind.i64.signed=true then -1 else IntKind.i64.max)^^^BitVec.ofInt IntKind.i64.bits st).toNat:Int))),(14,SV.ptr 1 0)],store:=[(0,some (SB.row 236 2 (S.length+1) (bI S.length [SV.int .i64 st,SV.int .i64 (↑pos:Int)] (spG S)))),(1,some (SB.iter s (pos+(Utf8.decode s pos).snd)))],nxt:=2,dirty:=[0,1,2,3,4,5],nt:=65}) (False)) (K Ex.normal {tmps:=[(0,SV.str s),(1,SV.fn (Fn.func 128) [] []),(5,SV.own 0 0 2 S.length),(6,SV.int .i64 st),(14,SV.ptr 1 0)],store:=[(0,some (SB.row 236 2 S.length (spG S))),(1,some (SB.iter s (pos+(Utf8.decode s pos).snd)))],nxt:=2,dirty:=[0,1,2,3,4,5],nt:=65})) (Br (decide (st<0)) (K Ex.normal {tmps:=[(0,SV.str s),(1,SV.fn (Fn.func 128) [] []),(5,SV.own 0 0 2 S.length),(6,SV.int .i64 (↑pos:Int)),(14,SV.ptr 1 0)],store:=[(0,some (SB.row 236 2 S.length (spG S))),(1,some (SB.iter s (pos+(Utf8.decode s pos).snd)))],nxt:=2,dirty:=[0,1,2,3,4,5],nt:=65}) (K Ex.normal {tmps:=[(0,SV.str s),(1,SV.fn (Fn.func 128) [] []),(5,SV.own 0 0 2 S.length),(6,SV.int .i64 st),(14,SV.ptr 1 0)],store:=[(0,some (SB.row 236 2 S.length (spG S))),(1,some (SB.iter s (pos+(Utf8.decode s pos).snd)))],nxt:=2,dirty:=[0,1,2,3,4,5],nt:=65})))) (K (Ex.exit 0) {tmps:=[(0,SV.str s),(1,SV.fn (Fn.func 128) [] []),(5,SV.own 0 0 2 S.length),(6,SV.int .i64 st),(14,SV.ptr 1 0)],store:=[(0,some (SB.row 236 2 S.length (spG S))),(1,some (SB.iter s pos))],nxt:=2,dirty:=[0,1,2,3,4,5],nt:=65})):=by kernel_rfl
theorem Z5(s:ByteArray)(S:List (Int×Int))(st:Int)(pos:Nat)(K:KC):aE ffE (aB ffR 0) ffF ffP 0 K (.exit 0) (ffS s S st pos)=
 (Br (decide (st>=0)) (Br (decide ((S.length+1)*16<=1099511627776)&&decide (S.length+1<9223372036854775808)&&decide (S.length=S.length)) (Br (decide (0<=(↑(S.length+1):Int))&&(decide ((↑(S.length+1):Int)<=(↑(S.length+1):Int))&&(decide ((↑(S.length+1):Int)*16<=1099511627776)&&decide ((↑(S.length+1):Int)<9223372036854775808)))) (∃q_,bO ffE (aB ffR 0) ffF fgP 2 0 K q_ {tmps:=[(0,SV.str s),(9,SV.own 2 0 1 (↑(S.length+1):Int).toNat),(47,SV.own 0 0 2 (S.length+1)),(48,SV.int .i64 (↑(S.length+1):Int)),(49,SV.int .i64 0)],store:=[(0,some (SB.row 236 2 (S.length+1) (bI S.length [SV.int .i64 st,SV.int .i64 (↑s.size:Int)] (spG S)))),(2,some (SB.row 9 1 (↑(S.length+1):Int).toNat fun (x:Nat)=>[SV.str (⟨#[]⟩:ByteArray)]))],nxt:=3,dirty:=[0,1,2,3,4,5],nt:=65}) (False)) (False)) (Br (decide (0<=(↑S.length:Int))&&(decide ((↑S.length:Int)<=(↑S.length:Int))&&(decide ((↑S.length:Int)*16<=1099511627776)&&decide ((↑S.length:Int)<9223372036854775808)))) (∃q_,bO ffE (aB ffR 0) ffF fgP 2 0 K q_ {tmps:=[(0,SV.str s),(9,SV.own 2 0 1 (↑S.length:Int).toNat),(47,SV.own 0 0 2 S.length),(48,SV.int .i64 (↑S.length:Int)),(49,SV.int .i64 0)],store:=[(0,some (SB.row 236 2 S.length (spG S))),(2,some (SB.row 9 1 (↑S.length:Int).toNat fun (x:Nat)=>[SV.str (⟨#[]⟩:ByteArray)]))],nxt:=3,dirty:=[0,1,2,3,4,5],nt:=65}) (False))):=by kernel_rfl
theorem WM(s:ByteArray)(S:List (Int×Int))(N:Nat)(X:Nat->ByteArray)(i:Nat)(K:Ex->St->Prop):aF ffE (aB ffR 0) ffF fgP 2 K (fgS s S N X i)=
 (Br (decide ((↑i:Int)<(↑S.length:Int))) (Br (decide (0<=(↑i:Int))&&decide ((↑i:Int)<(↑S.length:Int))) (Br (decide (0+(↑i:Int).toNat<S.length)) (Br (decide (0<=(S.getD (0+(↑i:Int).toNat) (0,0)).fst)&&(decide ((S.getD (0+(↑i:Int).toNat) (0,0)).fst<=(S.getD (0+(↑i:Int).toNat) (0,0)).snd)&&decide ((S.getD (0+(↑i:Int).toNat) (0,0)).snd<=(↑s.size:Int)))) (Br (decide (0<=(↑i:Int))&&decide ((↑i:Int)<(↑N:Int))) (Br (decide (0+(↑i:Int).toNat<N)) (K Ex.normal {tmps:=[(0,SV.str s),(9,SV.own 2 0 1 N),(47,SV.own 0 0 2 S.length),(48,SV.int .i64 (↑S.length:Int)),(49,SV.int .i64 (IntKind.i64.wrap ((↑i:Int)+1)))],store:=[(0,some (SB.row 236 2 S.length (spG S))),(2,some (SB.row 9 1 N (bI (0+(↑i:Int).toNat) [SV.str (s.extract (S.getD (0+(↑i:Int).toNat) (0,0)).fst.toNat (S.getD (0+(↑i:Int).toNat) (0,0)).snd.toNat)] (t7 X))))],nxt:=3,dirty:=[0,1,2,3,4,5],nt:=65}) (False)) (False)) (False)) (False)) (False)) (K (Ex.exit 2) {tmps:=[(0,SV.str s),(9,SV.own 2 0 1 N),(47,SV.own 0 0 2 S.length),(48,SV.int .i64 (↑S.length:Int)),(49,SV.int .i64 (↑i:Int))],store:=[(0,some (SB.row 236 2 S.length (spG S))),(2,some (SB.row 9 1 N (t7 X)))],nxt:=3,dirty:=[0,1,2,3,4,5],nt:=65})):=by kernel_rfl
theorem Z3(s:ByteArray)(S:List (Int×Int))(N:Nat)(X:Nat->ByteArray)(i:Nat)(K:KC):aE ffE (aB ffR 0) ffF fgP 0 K (.exit 2) (fgS s S N X i)=
 (K (SV.own 0 0 1 N) [some (SB.row 9 1 N (t7 X))] []):=by kernel_rfl
theorem aA0(s:ByteArray):aD Tryz.prog 126 [.str s,.str ⟨#[35]⟩] [] (.tup [.str (bytesOf (dG 35 (aA s))),.str (bytesOf (iN 35 (aA s))),.bool (fR 35 (aA s))]) [] []:=by
 refine aV t4 5 fun ⟨hs,_⟩ _ K hK=> ?_
 have hs':s.size<9223372036854775808:=hs
 rw [aAU]
 have:=SO (cQ s) (by rw [bU];exact hs') hK
 rw [dO] at this
 exact this
def aDu :List SV->List (Option SB)->Option (Bool×SV×List (Option SB)×List Nat)
 | [.str s,.str t],[]=>some (t==⟨#[35]⟩,.tup [.str (bytesOf (dG 35 (aA s))),.str (bytesOf (iN 35 (aA s))),.bool (fR 35 (aA s))],[],[])
 |_,_=>none
theorem cX(s t:ByteArray)(h:(t==⟨#[35]⟩)=true):aD Tryz.prog 126 [.str s,.str t] [] (.tup [.str (bytesOf (dG 35 (aA s))),.str (bytesOf (iN 35 (aA s))),.bool (fR 35 (aA s))]) [] []:=by
 rw [jC,beq_iff_eq] at h
 obtain rfl:t=⟨#[35]⟩:=ByteArray.ext h
 exact aA0 s
theorem YV(s:ByteArray)(S:List (Int×Int))(hs:s.size<=1048576)(hS:S.length<=1048577)(hok: ∀x,x∈S->0<=x.1/\x.1<=x.2/\x.2<=(s.size:Int))(K:KC)(hK:s6 9 1 jE (S.map (EH (aA s))) K):
  ∃q,bO ffE (aB ffR 0) ffF fgP 2 0 K q (fgS s S S.length (fun _=>⟨#[]⟩) 0):=by
 refine ⟨S.length+1,gV (fun a:Nat×(Nat->ByteArray)=>fgS s S S.length a.2 a.1) (fun a=>S.length - a.1) (fun a=>a.1<=S.length/\ ∀j,j<a.1->a.2 j=bytesOf (EH (aA s) (S.getD j (0,0)))) ?_ (S.length+1) (0,fun _=>⟨#[]⟩) ⟨Nat.zero_le _,fun j hj=>absurd hj (Nat.not_lt_zero j)⟩ (by show S.length - 0<_;omega)⟩
 rintro ⟨i,X⟩ ⟨h1,h2⟩ Z hZ
 simp only at h1 h2 hZ|-
 rw [WM]
 simp only [Nat.zero_add,Int.toNat_natCast]
 refine Br.of (fun c=> ?_) fun c=> ?_
 ·have c:i<S.length:=by have:=of_decide_eq_true c;omega
  have hm:S.getD i (0,0)∈S:=wH (d:=(0,0)) c
  obtain ⟨k1,k2,k3⟩:=hok _ hm
  have he:s.extract (S.getD i (0,0)).1.toNat (S.getD i (0,0)).2.toNat=bytesOf (EH (aA s) (S.getD i (0,0))):=by
   conv=>lhs;rw [<- dO s]
   exact c9 _ _ _
  simp only [rX,he]
  rw [aO c (by omega)]
  refine Br.of (fun _=>Br.of (fun _=>Br.of (fun _=>Br.of (fun _=>Br.of (fun _=> ?_) fun f=>absurd c (of_decide_eq_false f)) fun f=>nH c f) fun f=> ?_) fun f=>absurd c (of_decide_eq_false f)) fun f=>nH c f
  ·refine hZ (i+1,D1 i (bytesOf (EH (aA s) (S.getD i (0,0)))) X) ⟨c,fun j hj=> ?_⟩ (by show S.length - (i+1)<S.length - i;omega)
   have hj:j<i+1:=hj
   show D1 i _ X j=_
   unfold D1
   by_cases hji:j=i
   ·rw [decide_eq_true hji,hji];rfl
   ·rw [decide_eq_false hji];exact h2 j (by omega)
  ·simp only [Bool.and_eq_false_iff,decide_eq_false_iff_not] at f;omega
 ·have c:i=S.length:=by have:=of_decide_eq_false c;omega
  subst c
  show aE ffE (aB ffR 0) ffF fgP 0 K (.exit 2) (fgS s S S.length X (S.length:Nat))
  rw [Z3]
  refine hK _ _ (.inr (.inl ⟨t7 X,by rw [List.length_map],by rw [List.length_map],fun j hj=> ?_⟩))
  rw [List.length_map] at hj
  rw [List.getElem_map]
  have:=h2 j hj
  rw [List.getD_eq_getElem?_getD,List.getElem?_eq_getElem hj] at this
  unfold t7 jE
  rw [this];rfl
theorem aFB(s:ByteArray)(hs:s.size<=1048576)(K:KC)(hK:s6 9 1 jE (jN [] (aA s)) K):eA ffR (fun _=>0) y1 3 127 [.str s,.fn (.func 128) [] []] [] K:=by
 rw [aAg]
 have hl:=bU s
 refine ⟨s.size+1,gV (fun a:List (Int×Int)×Int×Nat=>ffS s a.1 a.2.1 a.2.2) (fun a=>s.size - a.2.2) (fun a=>ffI (aA s) a.1 a.2.1 a.2.2) ?_ (s.size+1) ([],-1,0) ⟨Nat.zero_le _,Nat.le_refl _,fun h=>absurd h (by decide),fun x hx=>(by cases hx),rfl⟩ (by show s.size - 0<_;omega)⟩
 rintro ⟨S,st,pos⟩ h X hX
 simp only at h hX|-
 have hlen:=h.len
 have hle:=h.le
 rw [XH]
 have hpush: ∀a b:Int,bI S.length [SV.int .i64 a,SV.int .i64 b] (spG S)=spG (S++[(a,b)]):=fun a b=>CK (f:=spC) (d:=(0,0)) (x:=(a,b)) (L:=S)
 have hlen1: ∀x:Int×Int,S.length+1=(S++[x]).length:=fun x=>by simp
 have hexit:s.size<=pos->aE ffE (aB ffR 0) ffF ffP 0 K (.exit 0) (ffS s S st pos):=by
  intro hp
  rw [Z5]
  refine Br.of (fun c=> ?_) fun c=> ?_
  ·have c:=of_decide_eq_true c
   obtain ⟨e1,e2⟩:=aCl h (by omega) c
   rw [hl] at e1 e2
   rw [hpush]
   refine Br.of (fun _=>Br.of (fun _=> ?_) fun f=> ?_) fun f=>QU (m:=S.length) (by omega) f
   ·simp only [Int.toNat_natCast,hlen1 (st,(s.size:Int))]
    exact YV s _ hs (by simp;omega) e2 K (by rw [e1];exact hK)
   ·simp only [Bool.and_eq_false_iff,decide_eq_false_iff_not] at f;omega
  ·have c:=of_decide_eq_false c
   have e1:=aBK h (by omega) (by omega)
   refine Br.of (fun _=> ?_) fun f=> ?_
   ·simp only [Int.toNat_natCast]
    exact YV s S hs (by omega) (fun x hx=>by have:=h.ok x hx;omega) K (by rw [e1];exact hK)
   ·simp only [Bool.and_eq_false_iff,decide_eq_false_iff_not] at f;omega
 refine Br.of (fun c=> ?_) fun c=>hexit (by have:=of_decide_eq_false c;omega)
 have c:=of_decide_eq_true c
 obtain ⟨d1,d2,_⟩:=HX s pos c
 have sep:((((Utf8.decode s pos).1:Nat):Int)=32\/(((Utf8.decode s pos).1:Nat):Int)=9)->eT X (aE ffE (aB ffR 0) ffF ffP 0 K) .normal (ffS s (bif decide (st>=0) then S++[(st,(pos:Int))] else S) (bif decide (st>=0) then -1 - st else st) (pos+(Utf8.decode s pos).2)):=by
  intro hs'
  obtain ⟨r1,r2⟩:=aAG c hs'
  rw [r2]
  cases hst:decide (st>=0) with
  |true=>
   have:=of_decide_eq_true hst
   exact hX (S++[(st,(pos:Int))],-1 - st,pos+1) (aB7 h (by omega) r1 this) (by show s.size - (pos+1)<s.size - pos;omega)
  |false=>
   have:=of_decide_eq_false hst
   exact hX (S,st,pos+1) (aBg h (by omega) r1 (show st<0 by omega)) (by show s.size - (pos+1)<s.size - pos;omega)
 have hst1:=h.st1
 have sepc:((((Utf8.decode s pos).1:Nat):Int)=32\/(((Utf8.decode s pos).1:Nat):Int)=9)-> ∀A B:Prop,(decide (st>=0)=true->eT X (aE ffE (aB ffR 0) ffF ffP 0 K) .normal (ffS s (S++[(st,(pos:Int))]) (-1 - st) (pos+(Utf8.decode s pos).2))->A)->(decide (st>=0)=false->eT X (aE ffE (aB ffR 0) ffF ffP 0 K) .normal (ffS s S st (pos+(Utf8.decode s pos).2))->B)->Br (decide (st>=0)) A B:=by
  intro hs' A B hA hB
  have hh:=sep hs'
  refine Br.of (fun e=>hA e ?_) fun e=>hB e ?_
  ·rw [e] at hh;exact hh
  ·rw [e] at hh;exact hh
 have fin1:decide (st>=0)=true->eT X (aE ffE (aB ffR 0) ffF ffP 0 K) .normal (ffS s (S++[(st,(pos:Int))]) (-1 - st) (pos+(Utf8.decode s pos).2))->
   Br (decide ((S.length+1)*16<=1099511627776)&&decide (S.length+1<9223372036854775808)&&decide (S.length=S.length)) (eT X (aE ffE (aB ffR 0) ffF ffP 0 K) .normal {tmps:=[(0,SV.str s),(1,SV.fn (Fn.func 128) [] []),(5,SV.own 0 0 2 (S.length+1)),(6,SV.int .i64 (IntKind.i64.wrap (↑(BitVec.ofInt IntKind.i64.bits (if IntKind.i64.signed=true then -1 else IntKind.i64.max)^^^BitVec.ofInt IntKind.i64.bits st).toNat:Int))),(14,SV.ptr 1 0)],store:=[(0,some (SB.row spT 2 (S.length+1) (bI S.length [SV.int .i64 st,SV.int .i64 (↑pos:Int)] (spG S)))),(1,some (SB.iter s (pos+(Utf8.decode s pos).snd)))],nxt:=2,dirty:=[0,1,2,3,4,5],nt:=65}) False:=by
  intro e hh
  have e:=of_decide_eq_true e
  have:=hst1 e
  refine Br.of (fun _=> ?_) fun f=>QU (m:=S.length) (by omega) f
  rw [aBI e (by omega),hpush,hlen1 (st,(pos:Int))]
  exact hh
 refine Br.of (fun e=>sepc (.inl (by simpa using e)) _ _ fin1 fun _ hh=>hh) fun e=>Br.of (fun e2=>sepc (.inr (by simpa using e2)) _ _ fin1 fun _ hh=>hh) fun e2=> ?_
 have hw:=aBm h d1 (by omega) (R7 c (by simpa using e) (by simpa using e2))
 have hx:=hX (S,(bif decide (st<0) then (pos:Int) else st),pos+(Utf8.decode s pos).2) hw (by show s.size - (pos+(Utf8.decode s pos).2)<s.size - pos;omega)
 refine Br.of (fun e3=> ?_) fun e3=> ?_
 ·rw [e3] at hx;exact hx
 ·rw [e3] at hx;exact hx
theorem bP(s:ByteArray)(h:s.size<=1048576):aD Tryz.prog 127 [.str s,.fn (.func 128) [] []] [] (.ro (jN [] (aA s)).length 1 (aH (jN [] (aA s)))) [] []:=
 PB (R:=ffR) (u:=fun _=>0) (B:=y1) (n:=3) (e:=9) (fun _=>rfl) (fun _=>rfl) fun _ K hK=>aFB s h K hK
def Q5 :List SV->List (Option SB)->Option (Bool×SV×List (Option SB)×List Nat)
 | [.str s,.fn (.func 128) [] []],[]=>some (decide (s.size<=1048576),.ro (jN [] (aA s)).length 1 (aH (jN [] (aA s))),[],[])
 |_,_=>none
noncomputable def y2 :bT Tryz.prog:=((y1).add 126 (lI aDu) (d6 fun xs σ v σ' d h=>by
  unfold aDu at h;split at h
  ·simp only [Option.some.injEq,Prod.mk.injEq] at h
   obtain ⟨h1,rfl,rfl,rfl⟩:=h
   first|exact cX h1|exact cX _ h1|exact cX _ _ h1|exact cX _ _ _ h1|exact cX _ _ _ _ h1|exact cX _ _ _ _ _ h1|exact cX _ _ _ _ _ _ h1|exact cX _ _ _ _ _ _ _ h1|exact cX _ _ _ _ _ _ _ _ h1|exact cX _ _ _ _ _ _ _ _ _ h1|exact cX _ _ _ _ _ _ _ _ _ _ h1|exact cX _ _ _ _ _ _ _ _ _ _ _ h1|exact cX _ _ _ _ _ _ _ _ _ _ _ _ h1|exact cX (of_decide_eq_true h1)|exact cX _ (of_decide_eq_true h1)|exact cX _ _ (of_decide_eq_true h1)|exact cX _ _ _ (of_decide_eq_true h1)|exact cX _ _ _ _ (of_decide_eq_true h1)|exact cX _ _ _ _ _ (of_decide_eq_true h1)|exact cX _ _ _ _ _ _ (of_decide_eq_true h1)|exact cX _ _ _ _ _ _ _ (of_decide_eq_true h1)|exact cX _ _ _ _ _ _ _ _ (of_decide_eq_true h1)|exact cX _ _ _ _ _ _ _ _ _ (of_decide_eq_true h1)|exact cX _ _ _ _ _ _ _ _ _ _ (of_decide_eq_true h1)|exact cX _ _ _ _ _ _ _ _ _ _ _ (of_decide_eq_true h1)|exact cX _ _ _ _ _ _ _ _ _ _ _ _ (of_decide_eq_true h1)
  ·cases h)).add 127 (lI Q5) (d6 fun xs σ v σ' d h=>by
  unfold Q5 at h;split at h
  ·simp only [Option.some.injEq,Prod.mk.injEq] at h
   obtain ⟨h1,rfl,rfl,rfl⟩:=h
   first|exact bP h1|exact bP _ h1|exact bP _ _ h1|exact bP _ _ _ h1|exact bP _ _ _ _ h1|exact bP _ _ _ _ _ h1|exact bP _ _ _ _ _ _ h1|exact bP _ _ _ _ _ _ _ h1|exact bP _ _ _ _ _ _ _ _ h1|exact bP _ _ _ _ _ _ _ _ _ h1|exact bP _ _ _ _ _ _ _ _ _ _ h1|exact bP _ _ _ _ _ _ _ _ _ _ _ h1|exact bP _ _ _ _ _ _ _ _ _ _ _ _ h1|exact bP (of_decide_eq_true h1)|exact bP _ (of_decide_eq_true h1)|exact bP _ _ (of_decide_eq_true h1)|exact bP _ _ _ (of_decide_eq_true h1)|exact bP _ _ _ _ (of_decide_eq_true h1)|exact bP _ _ _ _ _ (of_decide_eq_true h1)|exact bP _ _ _ _ _ _ (of_decide_eq_true h1)|exact bP _ _ _ _ _ _ _ (of_decide_eq_true h1)|exact bP _ _ _ _ _ _ _ _ (of_decide_eq_true h1)|exact bP _ _ _ _ _ _ _ _ _ (of_decide_eq_true h1)|exact bP _ _ _ _ _ _ _ _ _ _ (of_decide_eq_true h1)|exact bP _ _ _ _ _ _ _ _ _ _ _ (of_decide_eq_true h1)|exact bP _ _ _ _ _ _ _ _ _ _ _ _ (of_decide_eq_true h1)
  ·cases h)
theorem SW(s:ByteArray)(K:KC):run y2 3 75 [.str s] [] K=
 (Br (decide ((bytesOf (dG 35 (aA s))).size<=1048576)) (K (SV.ro (jN [] (aA (bytesOf (dG 35 (aA s))))).length 1 (aH (jN [] (aA (bytesOf (dG 35 (aA s))))))) [] []) (False)):=by kernel_rfl
theorem bL(s:ByteArray)(h:s.size<=1048576):aD Tryz.prog 75 [.str s] [] (.ro (bW (aA s)).length 1 (aH (bW (aA s)))) [] []:=by
 refine aV y2 3 fun _ _ K hK=> ?_
 rw [SW]
 rw [cG (sU (cQ s)),aR]
 have hlen:(dG 35 (aA s)).length<=(aA s).length:=by rw [<- oU,List.length_take];exact Nat.min_le_right _ _
 rw [bU] at hlen
 refine Br.of (fun _=>hK) fun c=> ?_
 have:=of_decide_eq_false c;omega
def P8 :List SV->List (Option SB)->Option (Bool×SV×List (Option SB)×List Nat)
 | [.str s],[]=>some (decide (s.size<=1048576),.ro (bW (aA s)).length 1 (aH (bW (aA s))),[],[])
 |_,_=>none
def ZE :List SV->List (Option SB)->Option (Bool×SV×List (Option SB)×List Nat)
 | [.str s],[]=>some (decide (s.size<=1048576),.ro (dZ (aA s)).length 1 (aH (dZ (aA s))),[],[])
 |_,_=>none
noncomputable def y3 :bT Tryz.prog:=((y2).add 75 (lI P8) (d6 fun xs σ v σ' d h=>by
  unfold P8 at h;split at h
  ·simp only [Option.some.injEq,Prod.mk.injEq] at h
   obtain ⟨h1,rfl,rfl,rfl⟩:=h
   first|exact bL h1|exact bL _ h1|exact bL _ _ h1|exact bL _ _ _ h1|exact bL _ _ _ _ h1|exact bL _ _ _ _ _ h1|exact bL _ _ _ _ _ _ h1|exact bL _ _ _ _ _ _ _ h1|exact bL _ _ _ _ _ _ _ _ h1|exact bL _ _ _ _ _ _ _ _ _ h1|exact bL _ _ _ _ _ _ _ _ _ _ h1|exact bL _ _ _ _ _ _ _ _ _ _ _ h1|exact bL _ _ _ _ _ _ _ _ _ _ _ _ h1|exact bL (of_decide_eq_true h1)|exact bL _ (of_decide_eq_true h1)|exact bL _ _ (of_decide_eq_true h1)|exact bL _ _ _ (of_decide_eq_true h1)|exact bL _ _ _ _ (of_decide_eq_true h1)|exact bL _ _ _ _ _ (of_decide_eq_true h1)|exact bL _ _ _ _ _ _ (of_decide_eq_true h1)|exact bL _ _ _ _ _ _ _ (of_decide_eq_true h1)|exact bL _ _ _ _ _ _ _ _ (of_decide_eq_true h1)|exact bL _ _ _ _ _ _ _ _ _ (of_decide_eq_true h1)|exact bL _ _ _ _ _ _ _ _ _ _ (of_decide_eq_true h1)|exact bL _ _ _ _ _ _ _ _ _ _ _ (of_decide_eq_true h1)|exact bL _ _ _ _ _ _ _ _ _ _ _ _ (of_decide_eq_true h1)
  ·cases h)).add 74 (lI ZE) (d6 fun xs σ v σ' d h=>by
  unfold ZE at h;split at h
  ·simp only [Option.some.injEq,Prod.mk.injEq] at h
   obtain ⟨h1,rfl,rfl,rfl⟩:=h
   first|exact cE h1|exact cE _ h1|exact cE _ _ h1|exact cE _ _ _ h1|exact cE _ _ _ _ h1|exact cE _ _ _ _ _ h1|exact cE _ _ _ _ _ _ h1|exact cE _ _ _ _ _ _ _ h1|exact cE _ _ _ _ _ _ _ _ h1|exact cE _ _ _ _ _ _ _ _ _ h1|exact cE _ _ _ _ _ _ _ _ _ _ h1|exact cE _ _ _ _ _ _ _ _ _ _ _ h1|exact cE _ _ _ _ _ _ _ _ _ _ _ _ h1|exact cE (of_decide_eq_true h1)|exact cE _ (of_decide_eq_true h1)|exact cE _ _ (of_decide_eq_true h1)|exact cE _ _ _ (of_decide_eq_true h1)|exact cE _ _ _ _ (of_decide_eq_true h1)|exact cE _ _ _ _ _ (of_decide_eq_true h1)|exact cE _ _ _ _ _ _ (of_decide_eq_true h1)|exact cE _ _ _ _ _ _ _ (of_decide_eq_true h1)|exact cE _ _ _ _ _ _ _ _ (of_decide_eq_true h1)|exact cE _ _ _ _ _ _ _ _ _ (of_decide_eq_true h1)|exact cE _ _ _ _ _ _ _ _ _ _ (of_decide_eq_true h1)|exact cE _ _ _ _ _ _ _ _ _ _ _ (of_decide_eq_true h1)|exact cE _ _ _ _ _ _ _ _ _ _ _ _ (of_decide_eq_true h1)
  ·cases h)
end Go.Proofs.YtghnfjfkjhbgdaaGreatDoor
