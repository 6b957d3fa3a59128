/-
  Part of the proof: the machine that runs a program by fixed orders, and that each of its runs is a run of the model; or a run of it in parts. No conditions.
-/
import Derived.Test.YtjaogllgillaiaaGreatDoorWrkD
set_option maxRecDepth 1000000
namespace Go.Ideal
open Go.Proofs

theorem wrkg6 : runG wrkX 6088 [0, 10, 15, 16, 19, 22, 25, 28, 31, 33, 34, 35, 427, 578, 579, 580, 581, 582, 583, 584, 585, 586, 587, 594, 681, 686, 687, 688, 692, 693, 694, 695, 699, 700, 702, 703, 706] wrkc5 = some wrkc6 := by kernel_rfl

theorem wrkg7 : runG wrkX 6000 [0, 10, 15, 16, 19, 22, 25, 28, 31, 33, 34, 35, 427, 578, 579, 580, 581, 582, 583, 584, 585, 586, 587, 706, 727, 738, 749, 750, 751, 752, 753, 754, 755, 756, 757, 782, 784, 785, 786] wrkc6 = some wrkc7 := by kernel_rfl

theorem wrkg8 : runG wrkX 6000 [0, 10, 15, 16, 19, 22, 25, 28, 31, 33, 34, 35, 427, 578, 581, 582, 583, 727, 738, 817, 820, 824, 850, 851, 852, 853, 865, 866, 867, 868, 869, 870, 871, 872, 873, 874, 875] wrkc7 = some wrkc8 := by kernel_rfl

theorem wrkg9 : runG wrkX 6000 [0, 10, 15, 16, 19, 22, 25, 28, 31, 33, 34, 35, 427, 578, 581, 582, 583, 727, 738, 817, 820, 824, 850, 851, 852, 853, 865, 866, 867, 868, 869, 870, 871, 872, 873, 880, 881, 882, 883, 884, 885, 886, 887, 918, 927, 928, 953, 954] wrkc8 = some wrkc9 := by kernel_rfl

theorem wrkg10 : runG wrkX 6000 [0, 10, 15, 16, 19, 22, 25, 28, 31, 33, 34, 35, 427, 578, 581, 582, 583, 727, 738, 817, 820, 824, 850, 851, 852, 853, 865, 866, 867, 868, 869, 870, 871, 872, 873, 992, 1013, 1024, 1035, 1036, 1037, 1038, 1039, 1040, 1041, 1042, 1043, 1044, 1045, 1046] wrkc9 = some wrkc10 := by kernel_rfl

end Go.Ideal
